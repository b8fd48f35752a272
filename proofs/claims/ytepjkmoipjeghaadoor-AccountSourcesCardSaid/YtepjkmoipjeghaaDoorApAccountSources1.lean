/-
  Part AccountSources 1 of the texts that the statement's proof stands on: what memory holds, how code is walked, what the functions reckon. In the order in which they build.
-/
import Derived.Test.YtepjkmoipjeghaaDoorProg
import Derived.Test.YtepjkmoipjeghaaDoorAp8
set_option linter.unusedVariables false
set_option linter.unusedSectionVars false
namespace Go.Proofs.YtepjkmoipjeghaaDoor
open Go Go.Sx
namespace S
/-! Withdrawals that come in besides. -/
section
variable {K K2 N : List Report} (hK : Ok K) (hK2 : Ok K2) (hm : ∀ x, x ∈ K2 ↔ x ∈ K ∨ x ∈ N) (hid : ∀ n ∈ N, ∀ x ∈ K, x.id ≠ n.id) (h9 : ∀ n ∈ N, n.kind = 9 ∧ ∃ o ∈ K, o.kind ≤ 7 ∧ o.id = n.of_ ∧ o.source = n.source ∧ o.account = n.account)
include hK hK2 hm hid h9
theorem T_gone (r : Report) : r ∈ T K2 ↔ r ∈ T K ∧ ∀ n ∈ N, n.of_ ≠ r.id := by
  classical
  have el : ∀ {K : List Report} {o : Report}, o ∈ K → o.kind ≤ 7 → WdR K o.id none → fix K o ∈ T K := fun {K o} ho h7 hw => by
    unfold T
    exact List.mem_map.2 ⟨o, List.mem_filter.2 ⟨ho, decide_eq_true ⟨h7, hw⟩⟩, rfl⟩
  have hsub : ∀ x, x ∈ K ↔ x ∈ K2 ∧ x ∈ K := fun x => ⟨fun h => ⟨(hm x).2 (.inl h), h⟩, fun h => h.2⟩
  let A : Report → Bool := fun r => N.all fun n => !decide (n.of_ = r.id)
  have hA : ∀ r, A r = true ↔ ∀ n ∈ N, n.of_ ≠ r.id := fun r => by simp [A]
  have isN : ∀ {x}, x ∈ K2 → x ∉ K → x ∈ N := fun {x} hx hn => ((hm x).1 hx).resolve_left hn
  have hp : ((T K2).filter A).Perm ((T K).filter A) := by
    refine T_sub hK2 hK (q := fun x => x ∈ K) hsub (fun o ho h7 _ _ => ?_) fun o ho h7 qo hA' => ⟨fun x hx hq hw => ?_, fun c _ qc h8 _ x hx hq hw => ?_, fun _ x hq hb => ?_⟩
    · rcases (hm o).1 ho with h | h
      · exact h
      · have := (h9 o h).1; omega
    · obtain ⟨a, b, ha⟩ := hA'
      rw [hA] at ha
      exact ha x (isN hx hq) hw.2.2.1
    · obtain ⟨_, o', ho', h7', e1, _⟩ := h9 x (isN hx hq)
      have := hK.one ho' qc (by rw [e1, hw.2.2.1])
      subst this; omega
    · have hl := best_lt hK2 o
      rw [hb] at hl
      have := (h9 x (isN hl.1 hq)).1
      have := hl.2.1.1
      omega
  have key : ∀ r ∈ T K2, A r = true := fun r hr => by
    rw [hA]
    intro n hn e
    obtain ⟨o, ho, h7, hw, rfl⟩ := T_el hK2 hr
    rw [fix_id hK2] at e
    obtain ⟨k9, o', ho', h7', e1, e2, e3⟩ := h9 n hn
    have : o' = o := hK2.one ((hm o').2 (.inl ho')) ho (by rw [e1, e])
    subst this
    exact hw n ((hm n).2 (.inr hn)) ⟨(hm n).2 (.inr hn), k9, e, o', ⟨ho, e1, e2, e3⟩, by omega⟩
  constructor
  · intro hr
    have ha := key r hr
    exact ⟨(List.mem_filter.1 (hp.mem_iff.1 (List.mem_filter.2 ⟨hr, ha⟩))).1, (hA r).1 ha⟩
  · rintro ⟨hr, ha⟩
    exact (List.mem_filter.1 (hp.mem_iff.2 (List.mem_filter.2 ⟨hr, (hA r).2 ha⟩))).1
end
theorem take_mem' {l : List Int} {n : Nat} (h : n < l.length) {x : Int} : x ∈ l.take (n + 1) ↔ x ∈ l.take n ∨ x = l[n] := by
  rw [take_snoc h, List.mem_append, List.mem_singleton]
theorem Ret.unbind {α β : Type} {o : Option α} {K : α → Option β} {Q : β → Prop} (h : Ret (Option.bind o K) Q) : Ret o fun a => Ret (K a) Q := by
  obtain ⟨b, h1, h2⟩ := h
  cases o with
  | none => cases h1
  | some a => exact ⟨a, rfl, b, h1, h2⟩
/-! What a thing is told by. -/
def tk (G : List Report) (k : Int) : Told := if k = 1 ∨ k = 6 ∨ k = 7 then told true (fk G k) else lastT (fk G k)
/-- All of Y tell the same. -/
def Same (Y : List Report) : Prop := ∀ a ∈ Y, ∀ b ∈ Y, a.cents = b.cents ∧ a.about = b.about
structure Tells (only : Bool) (X : List Report) (t : Told) (Y : List Report) : Prop where
  sub : Y.Sublist X
  by_ : t.by_ = sid Y
  ne : X ≠ [] → Y ≠ []
  all : only = true → Y = X
  day : only = false → ∀ r, r ∈ Y ↔ r ∈ X ∧ r.about = t.since
  first : ∀ r ∈ Y, t.since ≤ r.about
  last : only = false → ∀ r ∈ X, r.about ≤ t.since
  no : Y = [] → t = ⟨0, 0, 0, []⟩
  yes : Y ≠ [] → Same Y → t.known = 2 ∧ ∀ a ∈ Y, t.cents = a.cents ∧ t.since = a.about
  dif : Y ≠ [] → ¬ Same Y → t.known = 1 ∧ t.cents = 0
theorem tells_told {only : Bool} {Y : List Report} (hY : FO Y) (hd : only = false → ∀ a ∈ Y, ∀ b ∈ Y, a.about = b.about) :
    (told only Y).by_ = sid Y ∧ (∀ r ∈ Y, (told only Y).since ≤ r.about) ∧ (∃ f, Y.head? = some f ∧ (told only Y).since = f.about ∨ Y = []) ∧ (Y = [] → told only Y = ⟨0, 0, 0, []⟩) ∧ (Y ≠ [] → Same Y → (told only Y).known = 2 ∧ ∀ a ∈ Y, (told only Y).cents = a.cents ∧ (told only Y).since = a.about) ∧ (Y ≠ [] → ¬ Same Y → (told only Y).known = 1 ∧ (told only Y).cents = 0) := by
  cases Y with
  | nil => exact ⟨by simp [sid, told], (fun _ h => by cases h), ⟨⟨0, 0, 0, 0, 0, 0, 0, 0⟩, .inr rfl⟩, fun _ => rfl, fun h => absurd rfl h, fun h => absurd rfl h⟩
  | cons f Y =>
    have hh : ∀ r ∈ f :: Y, f.about ≤ r.about := le_head hY.s
    have hag : (f :: Y).all (ag only f) = true ↔ Same (f :: Y) := by
      rw [List.all_eq_true]
      constructor
      · intro h
        have h1 : ∀ a ∈ f :: Y, a.cents = f.cents ∧ a.about = f.about := fun a ha => by
          have := h a ha
          unfold ag at this
          cases only with
          | true => simpa using this
          | false => exact ⟨by simpa using this, hd rfl a ha f (List.mem_cons_self ..)⟩
        intro a ha b hb
        have := h1 a ha
        have := h1 b hb
        omega
      · intro h a ha
        obtain ⟨h1, h2⟩ := h a ha f (List.mem_cons_self ..)
        unfold ag; simp [h1, h2]
    rw [told_cons]
    by_cases c : (f :: Y).all (ag only f) = true
    · rw [if_pos c]
      refine ⟨rfl, hh, ⟨f, .inl ⟨rfl, rfl⟩⟩, fun h => (List.cons_ne_nil _ _ h).elim, fun _ _ => ⟨rfl, fun a ha => ?_⟩, fun _ h => absurd (hag.1 c) h⟩
      obtain ⟨h1, h2⟩ := hag.1 c f (List.mem_cons_self ..) a ha
      exact ⟨h1, h2⟩
    · rw [if_neg c]
      exact ⟨rfl, hh, ⟨f, .inl ⟨rfl, rfl⟩⟩, fun h => (List.cons_ne_nil _ _ h).elim, fun _ h => absurd (hag.2 h) c, fun _ _ => ⟨rfl, rfl⟩⟩
theorem tells_once {X : List Report} (hX : FO X) : Tells true X (told true X) X := by
  obtain ⟨h1, h2, _, h4, h5, h6⟩ := tells_told (only := true) hX (fun h => by cases h)
  exact ⟨List.Sublist.refl _, h1, id, fun _ => rfl, (fun h => by cases h), h2, (fun h => by cases h), h4, h5, h6⟩
theorem tells_last {X : List Report} (hX : FO X) : ∃ Y, Tells false X (lastT X) Y := by
  unfold lastT
  cases hz : X.getLast? with
  | none =>
    have : X = [] := List.getLast?_eq_none_iff.1 hz
    subst this
    exact ⟨[], List.Sublist.refl _, by simp [sid, told], id, fun _ => rfl, (fun _ r => by simp), (fun _ h => by cases h), (fun _ _ h => by cases h), fun _ => rfl, fun h => absurd rfl h, fun h => absurd rfl h⟩
  | some z =>
    have hzm : z ∈ X := List.mem_of_getLast? hz
    have hg : FO (grp X z.about) := hX.filter _
    have hmem : ∀ r, r ∈ grp X z.about ↔ r ∈ X ∧ r.about = z.about := fun r => by unfold grp; rw [List.mem_filter, decide_eq_true_eq]
    obtain ⟨h1, h2, ⟨f, h3⟩, h4, h5, h6⟩ := tells_told (only := false) hg (fun _ a ha b hb => by rw [((hmem a).1 ha).2, ((hmem b).1 hb).2])
    have hzg : z ∈ grp X z.about := (hmem z).2 ⟨hzm, rfl⟩
    have hne : grp X z.about ≠ [] := List.ne_nil_of_mem hzg
    have hs : (told false (grp X z.about)).since = z.about := by
      rcases h3 with ⟨h3, h7⟩ | h3
      · rw [h7]
        exact ((hmem f).1 (List.mem_of_head? h3)).2
      · exact absurd h3 hne
    refine ⟨grp X z.about, List.filter_sublist, h1, fun _ => hne, fun h => (by cases h), fun _ r => by rw [hs]; exact hmem r, h2, fun _ r hr => ?_, h4, h5, h6⟩
    rw [hs]
    obtain ⟨n, hn⟩ : ∃ n, n + 1 = X.length := ⟨X.length - 1, by have := List.length_pos_of_mem hzm; omega⟩
    have := le_last hX.s hn hr
    rw [List.getLast?_eq_getElem?, show X.length - 1 = n by omega, List.getElem?_eq_getElem (by omega)] at hz
    rw [← Option.some.inj hz]; exact this
theorem tells {G : List Report} (hG : FO G) (k : Int) : ∃ Y, Tells (decide (k = 1 ∨ k = 6 ∨ k = 7)) (fk G k) (tk G k) Y := by
  unfold tk
  by_cases c : k = 1 ∨ k = 6 ∨ k = 7
  · rw [if_pos c, decide_eq_true c]; exact ⟨_, tells_once (hG.filter _)⟩
  · rw [if_neg c, decide_eq_false c]; exact tells_last (hG.filter _)
/-- Where only those of one value are left, it is told for sure. -/
theorem tells_left {only : Bool} {X X2 : List Report} {t t2 : Told} {Y Y2 : List Report} (h : Tells only X t Y) (h2 : Tells only X2 t2 Y2) {z : Report} (hz : z ∈ Y) (hm : ∀ r, r ∈ X2 ↔ r ∈ X ∧ ¬ (r ∈ Y ∧ ¬ (r.cents = z.cents ∧ r.about = z.about))) : t2.known = 2 ∧ t2.cents = z.cents ∧ t2.since = z.about := by
  have hzX := h.sub.subset hz
  have hz2 : z ∈ X2 := (hm z).2 ⟨hzX, fun h => h.2 ⟨rfl, rfl⟩⟩
  have hY2 : z ∈ Y2 ∧ ∀ r ∈ Y2, r.cents = z.cents ∧ r.about = z.about := by
    have same : ∀ r, r ∈ X2 → r ∈ Y → r.cents = z.cents ∧ r.about = z.about := fun r hr hy => Decidable.byContradiction fun hn => ((hm r).1 hr).2 ⟨hy, hn⟩
    cases only with
    | true =>
      have e := h.all rfl
      have e2 := h2.all rfl
      refine ⟨by rw [e2]; exact hz2, fun r hr => ?_⟩
      rw [e2] at hr
      exact same r hr (by rw [e]; exact ((hm r).1 hr).1)
    | false =>
      have hd := ((h.day rfl z).1 hz).2
      have hs : t2.since = z.about := by
        obtain ⟨y, hy⟩ := List.exists_mem_of_ne_nil _ (h2.ne (List.ne_nil_of_mem hz2))
        have g1 := (h2.day rfl y).1 hy
        have g2 := h2.last rfl z hz2
        have g3 := h.last rfl y ((hm y).1 g1.1).1
        omega
      refine ⟨(h2.day rfl z).2 ⟨hz2, hs.symm⟩, fun r hr => ?_⟩
      obtain ⟨g1, g2⟩ := (h2.day rfl r).1 hr
      exact same r g1 ((h.day rfl r).2 ⟨((hm r).1 g1).1, by rw [g2, hs, hd]⟩)
  obtain ⟨h3, h4⟩ := h2.yes (List.ne_nil_of_mem hY2.1) fun a ha b hb => by
    have := hY2.2 a ha
    have := hY2.2 b hb
    omega
  exact ⟨h3, h4 z hY2.1⟩
end S
end Go.Proofs.YtepjkmoipjeghaaDoor
set_option maxRecDepth 20000
set_option maxHeartbeats 4000000
namespace Go.Proofs.YtepjkmoipjeghaaDoor
open Go Go.Sx Go.RowKit
noncomputable def P.law03_AccountSources (l : (List Report)) (id : Int) (day : Int) (known : Int) (which : Int) (keep : Int) : Option Bool :=
  Option.bind (P.law03_alive ) fun z1 => Option.bind (Option.bind (P.law03_ready l id ([day, known] : List Int)) fun z10 => cond (!z10) (some true) (some (!z1))) fun x16 => cond x16 (some z1) (Option.bind (P.account_State l id day known) fun (z18, z19) => Option.bind (P.account_Standing l known) fun (z67, z68) => Option.bind (cond (!decide (z19 = 0)) (some true) (some (!decide (z68 = 0)))) fun x77 => cond x77 (some false) (Option.bind (P.law03_things (State.mk (Told.mk z18.opened.known z18.opened.cents z18.opened.since z18.opened.by_) (Told.mk z18.limit.known z18.limit.cents z18.limit.since z18.limit.by_) (Told.mk z18.owed.known z18.owed.cents z18.owed.since z18.owed.by_) (Told.mk z18.late.known z18.late.cents z18.late.since z18.late.by_) (Told.mk z18.default.known z18.default.cents z18.default.since z18.default.by_) (Told.mk z18.closed.known z18.closed.cents z18.closed.since z18.closed.by_) (Span.mk z18.paid.lo z18.paid.hi) z18.is_)) fun (z79, z80) => Option.bind (chk .i64 which) fun n89 => Option.bind (remO n89 (z79.length : Int)) fun n90 => Option.bind (Option.bind (ixo z79 n90) fun y91 => Option.bind (ixo z80 n90) fun y105 => some ((Told.mk y91.known y91.cents y91.since y91.by_), y105)) fun (x137, x138) => Option.bind (cond (decide (x138 = 1)) (some true) (cond (decide (x138 = 6)) (some true) (some (decide (x138 = 7))))) fun x141 => Option.bind (loopM (S := Bool × Int × Int × Int × Int × Int × Int × Int × Int × Int) (R := (Bool × Int × Int × Int × Int × Int × Int × Int × Int) ⊕ (Bool)) (fun (x146, x147, x148, x149, x150, x151, x152, x153, x154, x155) => cond (decide (x147 < (x137.by_.length : Int))) (Option.bind (ixo x137.by_ x147) fun y157 => Option.bind (P.law03_find z67 y157) fun (z164, z165) => Option.bind (cond (!z165) (some true) (cond (!decide (z164.kind = x138)) (some true) (cond (!decide (z164.account = id)) (some true) (cond (decide (day < z164.about)) (some true) (cond (decide (z164.about < x137.since)) (some true) (cond (!x141) (cond (!decide (z164.about = x137.since)) (some true) (cond (decide (0 < x147)) (Option.bind (chk .i64 (x147 - 1)) fun n195 => Option.bind (ixo x137.by_ n195) fun y196 => some (decide (y157 ≤ y196))) (some false))) (cond (decide (0 < x147)) (Option.bind (chk .i64 (x147 - 1)) fun n204 => Option.bind (ixo x137.by_ n204) fun y205 => some (decide (y157 ≤ y205))) (some false)))))))) fun x212 => cond x212 (some (.inr (.inr false))) (Option.bind (Option.bind (cond (decide (x147 = 0)) (some (z164.id, z164.source, z164.account, z164.made, z164.about, z164.kind, z164.cents, z164.of_)) (some (x148, x149, x150, x151, x152, x153, x154, x155))) fun (x218, x219, x220, x221, x222, x223, x224, x225) => some (x218, x219, x220, x221, x222, x223, x224, x225)) fun (x226, x227, x228, x229, x230, x231, x232, x233) => Option.bind (cond x146 (some true) (cond (!decide (z164.cents = x232)) (some true) (some (!decide (z164.about = x230))))) fun x236 => Option.bind (chk .i64 (x147 + 1)) fun n237 => some (.inl (x236, n237, x226, x227, x228, x229, x230, x231, x232, x233)))) (some (.inr (.inl (x146, x148, x149, x150, x151, x152, x153, x154, x155))))) (false, 0, 0, 0, 0, 0, 0, 0, 0, 0)) fun j238 => Sum.elim (fun (x239, x240, x241, x242, x243, x244, x245, x246, x247) => Option.bind (loopM (S := Int) (R := (Unit) ⊕ (Bool)) (fun x248 => cond (decide (x248 < (z67.length : Int))) (Option.bind (ixo z67 x248) fun y250 => Option.bind (cond (decide (y250.kind = x138)) (cond (decide (y250.account = id)) (cond (decide (y250.about ≤ day)) (cond (decide ((x137.by_.length : Int) = 0)) (some true) (cond (!x141) (cond (decide (x137.since < y250.about)) (some true) (cond (decide (y250.about < x137.since)) (some x141) (some false))) (cond (decide (y250.about < x137.since)) (some x141) (some false)))) (some false)) (some false)) (some false)) fun x281 => cond x281 (some (.inr (.inr false))) (Option.bind (chk .i64 (x248 + 1)) fun n283 => some (.inl n283))) (some (.inr (.inl ())))) 0) fun j284 => Sum.elim (fun _ => cond (decide (x137.known = 0)) (Option.bind (cond z1 (cond (decide ((x137.by_.length : Int) = 0)) (cond (decide (x137.cents = 0)) (some (decide (x137.since = 0))) (some false)) (some false)) (some false)) fun x289 => some x289) (cond (decide (x137.known = 2)) (Option.bind (cond z1 (cond (decide (0 < (x137.by_.length : Int))) (cond (!x239) (cond (decide (x137.cents = x246)) (some (decide (x137.since = x244))) (some false)) (some false)) (some false)) (some false)) fun x295 => some x295) (cond (decide (x137.known = 1)) (Option.bind (cond (!x239) (some true) (some (!decide (x137.cents = 0)))) fun x298 => cond x298 (some false) (Option.bind (Option.bind (chk .i64 keep) fun n300 => Option.bind (remO n300 (x137.by_.length : Int)) fun n301 => Option.bind (ixo x137.by_ n301) fun y302 => Option.bind (P.law03_find z67 y302) fun (z309, z310) => some (Report.mk z309.id z309.source z309.account z309.made z309.about z309.kind z309.cents z309.of_)) fun x347 => Option.bind (appo 64 ([] : List Report) l) fun l352 => Option.bind (loopM (S := (List Report) × Int × Int) (R := ((List Report))) (fun (x357, x358, x359) => cond (decide (x359 < (x137.by_.length : Int))) (Option.bind (Option.bind (ixo x137.by_ x359) fun y361 => Option.bind (P.law03_find z67 y361) fun (z368, z369) => Option.bind (cond (decide (z368.cents = x347.cents)) (some (decide (z368.about = x347.about))) (some false)) fun x392 => cond x392 (some (x357, x358)) (Option.bind (P.law03_find x357 x358) fun (z394, z395) => Option.bind (loopM (S := Int × Report × Bool) (R := (Int)) (fun (x417, x418, x419) => cond x419 (Option.bind (chk .i64 (x417 + 1)) fun n421 => Option.bind (P.law03_find x357 n421) fun (z431, z432) => some (.inl (n421, (Report.mk x418.id x418.source x418.account x418.made x418.about x418.kind x418.cents x418.of_), z432))) (some (.inr x417))) (x358, (Report.mk z394.id z394.source z394.account z394.made z394.about z394.kind z394.cents z394.of_), z395)) fun x445 => Option.bind (appo 64 x357 ([(Report.mk x445 z368.source id known 0 9 0 y361)] : List Report)) fun l452 => some (l452, x445))) fun (x457, x458) => Option.bind (chk .i64 (x359 + 1)) fun n459 => some (.inl (x457, x458, n459))) (some (.inr x357))) (l352, 0, 0)) fun x460 => Option.bind (P.ref03_Check x460) fun z461 => cond (!decide (z461 = 0)) (some z1) (Option.bind (P.account_State x460 id day known) fun (z470, z471) => cond (!decide (z471 = 0)) (some false) (Option.bind (P.law03_things (State.mk (Told.mk z470.opened.known z470.opened.cents z470.opened.since z470.opened.by_) (Told.mk z470.limit.known z470.limit.cents z470.limit.since z470.limit.by_) (Told.mk z470.owed.known z470.owed.cents z470.owed.since z470.owed.by_) (Told.mk z470.late.known z470.late.cents z470.late.since z470.late.by_) (Told.mk z470.default.known z470.default.cents z470.default.since z470.default.by_) (Told.mk z470.closed.known z470.closed.cents z470.closed.since z470.closed.by_) (Span.mk z470.paid.lo z470.paid.hi) z470.is_)) fun (z520, z521) => Option.bind (cond z1 (Option.bind (ixo z520 n90) fun y531 => cond (decide (y531.known = 2)) (Option.bind (ixo z520 n90) fun y543 => cond (decide (y543.cents = x347.cents)) (Option.bind (ixo z520 n90) fun y555 => some (decide (y555.since = x347.about))) (some false)) (some false)) (some false)) fun x578 => some x578)))) (some false)))) (fun r579 => some r579)  j284) (fun r580 => some r580)  j238))
theorem C_law03_AccountSources {M : List Nat} {w : World} (hM : MLt M w) (hG : RdC M w 0 0 (glob0.map (Value.int .i64))) {l : (List Report)} {v_l_0 : Value} (f_l_0 : RdS ReportE M w v_l_0 l) {id : Int} (f_id_0 : InK .i64 id) {day : Int} (f_day_0 : InK .i64 day) {known : Int} (f_known_0 : InK .i64 known) {which : Int} (f_which_0 : InK .u8 which) {keep : Int} (f_keep_0 : InK .u8 keep) {r0 : Bool} (h : P.law03_AccountSources l id day known which keep = some r0) :
  Calls Tryd.prog 8 (List.toArray [v_l_0, vi id, vi day, vi known, vu which, vu keep]) w fun e w' => e = .returned (Value.bool r0) ∧ Ext w w' := by
 have hI := Hp.start (Mu := []) hM
 refine calls_cw Tryd.func8 rfl Tryd.ntmps8 rfl ?_
 refine cw_seq (cw_regF (s_as rfl rfl (Reg.nil (cw_seq (cw_regF ?_)))))
 obtain ⟨z1, hz2, h⟩ := bnd h
 refine s_call rfl Tryd.call26 rfl ((C_law03_alive hI.mlt hG hz2).mono ?_)
 rintro _ w3 ⟨rfl, e4⟩
 refine ⟨_, rfl, ?_⟩
 have hI5 := hI.ext e4
 refine s_as rfl rfl (Reg.nil (cw_seq ?_))
 obtain ⟨j6, h7, h⟩ := bnd h
 refine cw_keep [0, 1, 2, 3, 4, 5, 13] rfl (cw_seqD 0 (ι := Bool) (fun x8 => [(57, Value.bool x8)]) (fun x8 => fun w9 => Hp w [] M [] w9 ∧ Adv (mm [] M) (mm [] M) w3 w9 ∧ x8 = j6) ?_ ?_)
 ·refine cw_regF ?_
  iterate 4 refine s_mv rfl rfl ?_
  refine y_bs (E := (intE .i64)) (xs := [day, known]) sl36 hI5 rfl rfl (Cls.cons rfl (Cls.cons rfl Cls.nil)) (Chs.cons ⟨rfl, f_day_0⟩ (Chs.cons ⟨rfl, f_known_0⟩ Chs.nil)) rfl rfl ?_
  intro v12 w13 hI14 x15
  obtain ⟨z16, hz17, h7⟩ := bnd h7
  refine s_call rfl Tryd.call30 rfl ((C_law03_ready (hI14.sel [] rfl).mlt ((f_l_0.adv hI14.adv).adv (Hp.selA (σ := [ownR [] (intE .i64) 3 v12 ([day, known] : List Int)]) [])) f_id_0 (hI14.lendRd [] 0 rfl rfl) hz17).mono ?_)
  rintro _ w18 ⟨rfl, e19⟩
  refine ⟨_, rfl, ?_⟩
  have hI20 := hI14.ext e19
  refine s_not rfl rfl (s_mv rfl rfl (Reg.gsplit (t := 54) rfl (fun hg21 => ?_) (fun hg21 => ?_)))
  ·replace h7 := cdT hg21 h7
   refine Reg.pass rfl rfl rfl rfl (Reg.pass rfl rfl rfl rfl (s_pkT rfl rfl rfl (Reg.nil ?_)))
   obtain rfl := Option.some.inj h7
   refine ⟨rfl, true, ⟨(hI20.sel [] rfl), ((x15.trans (Adv.of_ext e19)).trans (Hp.selA (σ := [ownR [] (intE .i64) 3 v12 ([day, known] : List Int)]) [])), rfl⟩, sb8 rfl rfl rfl rfl rfl rfl rfl rfl⟩
  replace h7 := cdF hg21 h7
  refine Reg.take rfl rfl (s_mv rfl rfl (Reg.take rfl rfl (s_not rfl rfl (s_pkF rfl rfl rfl (Reg.nil ?_)))))
  obtain rfl := Option.some.inj h7
  refine ⟨rfl, !z1, ⟨(hI20.sel [] rfl), ((x15.trans (Adv.of_ext e19)).trans (Hp.selA (σ := [ownR [] (intE .i64) 3 v12 ([day, known] : List Int)]) [])), rfl⟩, sb8 rfl rfl rfl rfl rfl rfl rfl rfl⟩
 rintro x8 w9 ⟨hI10, hA11, rfl⟩
 refine cw_cond rfl (fun hc22 => ?_) (fun hc22 => ?_)
 ·replace h := cdT hc22 h
  refine cw_seq (cw_regF (s_mv rfl rfl (s_as rfl rfl (Reg.nil (cw_ret ?_)))))
  obtain rfl := Option.some.inj h
  refine fin1 Tryd.results8 rfl ?_
  exact ⟨rfl, hI10.kp⟩
 replace h := cdF hc22 h
 refine cw_skip (cw_seq (cw_regF ?_))
 iterate 4 refine s_mv rfl rfl ?_
 obtain ⟨⟨z23, z24⟩, hz25, h⟩ := bnd h
 refine s_call rfl Tryd.call20 rfl ((C_account_State hI10.mlt (hG.adv hI10.adv) (f_l_0.adv hI10.adv) f_id_0 f_day_0 f_known_0 hz25).mono ?_)
 rintro _ w26 ⟨v31, v36, v41, v46, v51, v56, rfl, r28, r29, r30, hf32, r33, r34, r35, hf37, r38, r39, r40, hf42, r43, r44, r45, hf47, r48, r49, r50, hf52, r53, r54, r55, hf57, r58, r59, r60, r61, e27⟩
 refine ⟨_, rfl, ?_⟩
 have hI62 := hI10.ext e27
 refine s_mv rfl rfl (s_xt rfl rfl rfl (s_xt rfl rfl rfl (y_al hI62 Tryd.zeroValue42 rfl rfl ?_)))
 intro b63 w64 hI65 x66
 refine y_st 0 hI65 rfl rfl rfl rfl Tryd.sizeOf42 rfl rfl (one1 rfl (one1 rfl (one1 rfl (one1 (RdS.oneC hf32) (one1 rfl (one1 rfl (one1 rfl (one1 (RdS.oneC hf37) (one1 rfl (one1 rfl (one1 rfl (one1 (RdS.oneC hf42) (one1 rfl (one1 rfl (one1 rfl (one1 (RdS.oneC hf47) (one1 rfl (one1 rfl (one1 rfl (one1 (RdS.oneC hf52) (one1 rfl (one1 rfl (one1 rfl (one1 (RdS.oneC hf57) (on3 rfl rfl rfl))))))))))))))))))))))))) ?_
 intro w67 hI68 x69
 have hC71 := hI68.freezeRow 0 rfl
 have hI70 := hI68.erase 0
 refine s_as rfl rfl (Reg.nil (cw_seq (cw_regF (s_mv rfl rfl (s_mv rfl rfl ?_)))))
 obtain ⟨⟨z72, z73⟩, hz74, h⟩ := bnd h
 refine s_call rfl Tryd.call13 rfl ((C_account_Standing hI70.mlt (hG.adv hI70.adv) (f_l_0.adv hI70.adv) f_known_0 hz74).mono ?_)
 rintro _ w75 ⟨v77, rfl, hf78, r79, e76⟩
 refine ⟨_, rfl, ?_⟩
 have hI80 := hI70.addOwn e76 hf78
 refine s_mv rfl rfl (s_xt rfl rfl rfl (s_xt rfl rfl rfl (s_as rfl rfl (s_as rfl rfl (Reg.nil (cw_seq ?_))))))
 obtain ⟨j81, h82, h⟩ := bnd h
 refine cw_keep [15, 17, 0, 1, 2, 3, 4, 5, 13, 14, 16] rfl (cw_seqD 2 (ι := Bool) (fun x83 => [(78, Value.bool x83)]) (fun x83 => fun w84 => w75 = w84 ∧ x83 = j81) ?_ ?_)
 ·refine cw_regF (s_mv rfl rfl (s_neq rfl rfl rfl (s_mv rfl rfl (Reg.gsplit (t := 75) rfl (fun hg87 => ?_) (fun hg87 => ?_)))))
  ·replace h82 := cdT hg87 h82
   refine Reg.pass rfl rfl rfl rfl (Reg.pass rfl rfl rfl rfl (s_pkT rfl rfl rfl (Reg.nil ?_)))
   obtain rfl := Option.some.inj h82
   refine ⟨rfl, true, ⟨rfl, rfl⟩, sb10 rfl rfl rfl rfl rfl rfl rfl rfl rfl rfl⟩
  replace h82 := cdF hg87 h82
  refine Reg.take rfl rfl (s_mv rfl rfl (Reg.take rfl rfl (s_neq rfl rfl rfl (s_pkF rfl rfl rfl (Reg.nil ?_)))))
  obtain rfl := Option.some.inj h82
  refine ⟨rfl, !decide (z73 = 0), ⟨rfl, rfl⟩, sb10 rfl rfl rfl rfl rfl rfl rfl rfl rfl rfl⟩
 rintro x83 _ ⟨rfl, rfl⟩
 refine cw_cond rfl (fun hc88 => ?_) (fun hc88 => ?_)
 ·replace h := cdT hc88 h
  refine cw_seq (cw_regF (s_as rfl rfl (Reg.nil (cw_ret ?_))))
  obtain rfl := Option.some.inj h
  refine fin1 Tryd.results8 rfl ?_
  exact ⟨rfl, hI80.kp⟩
 replace h := cdF hc88 h
 refine cw_skip (cw_seq (cw_regF (s_lda rfl (hC71.adv (hI70.addOwnA e76 hf78)).cells Tryd.isAgg42 rfl Tryd.sizeOf42 rfl ?_)))
 obtain ⟨⟨z89, z90⟩, hz91, h⟩ := bnd h
 refine s_call rfl Tryd.call32 rfl ((C_law03_things (s := (State.mk (Told.mk z23.opened.known z23.opened.cents z23.opened.since z23.opened.by_) (Told.mk z23.limit.known z23.limit.cents z23.limit.since z23.limit.by_) (Told.mk z23.owed.known z23.owed.cents z23.owed.since z23.owed.by_) (Told.mk z23.late.known z23.late.cents z23.late.since z23.late.by_) (Told.mk z23.default.known z23.default.cents z23.default.since z23.default.by_) (Told.mk z23.closed.known z23.closed.cents z23.closed.since z23.closed.by_) (Span.mk z23.paid.lo z23.paid.hi) z23.is_)) hI80.mlt r28 r29 r30 (hf32.adv (x66.trans (x69.trans ((hI68.eraseH 0).trans (hI70.addOwnA e76 hf78))))) r33 r34 r35 (hf37.adv (x66.trans (x69.trans ((hI68.eraseH 0).trans (hI70.addOwnA e76 hf78))))) r38 r39 r40 (hf42.adv (x66.trans (x69.trans ((hI68.eraseH 0).trans (hI70.addOwnA e76 hf78))))) r43 r44 r45 (hf47.adv (x66.trans (x69.trans ((hI68.eraseH 0).trans (hI70.addOwnA e76 hf78))))) r48 r49 r50 (hf52.adv (x66.trans (x69.trans ((hI68.eraseH 0).trans (hI70.addOwnA e76 hf78))))) r53 r54 r55 (hf57.adv (x66.trans (x69.trans ((hI68.eraseH 0).trans (hI70.addOwnA e76 hf78))))) r58 r59 r60 hz91).mono ?_)
 rintro _ w92 ⟨v94, v96, rfl, hf95, hf97, e93⟩
 refine ⟨_, rfl, ?_⟩
 have hI98 := hI80.addOwn e93 hf95
 refine s_mv rfl rfl (s_xt rfl rfl rfl (s_xt rfl rfl rfl (s_as rfl rfl (s_as rfl rfl (Reg.nil (cw_seq (cw_regF (s_mv rfl rfl ?_))))))))
 obtain ⟨n99, hn99, h⟩ := bnd h
 replace hn99 := chk_out hn99
 refine p_cvt rfl Tryd.underlying5 Tryd.underlying3 rfl hn99 ?_
 refine s_mv rfl rfl (s_lenO rfl (hI98.ownAt 0 rfl) Tryd.underlying70 rfl ?_)
 obtain ⟨n100, hn100, h⟩ := bnd h
 have kn100 := remO_out hn100
 refine p_rem rfl rfl rfl kn100 ?_
 refine s_as rfl rfl (Reg.nil ?_)
 obtain ⟨j101, h102, h⟩ := bnd h
 refine cw_keep [18, 19, 0, 1, 2, 3, 5, 13, 16, 20] rfl (cw_seqD 2 (ι := Told × Int × Value × Nat) (fun ⟨x103, x111, v107, b109⟩ => [(21, vp b109 0), (22, vu x111)]) (fun ⟨x103, x111, v107, b109⟩ => fun w113 => Hp w [] M [ownR [] ToldE 38 v94 z89, ownR [] ReportE 61 v77 z72] w113 ∧ Adv (mm [ownR [] ToldE 38 v94 z89, ownR [] ReportE 61 v77 z72] M) (mm [ownR [] ToldE 38 v94 z89, ownR [] ReportE 61 v77 z72] M) w92 w113 ∧ InK .u8 x103.known ∧ InK .i64 x103.cents ∧ InK .i64 x103.since ∧ RdS (intE .i64) (mm [ownR [] ToldE 38 v94 z89, ownR [] ReportE 61 v77 z72] M) w113 v107 x103.by_ ∧ RdC (mm [ownR [] ToldE 38 v94 z89, ownR [] ReportE 61 v77 z72] M) w113 b109 0 (tV x103 v107 []) ∧ InK .u8 x111 ∧ (x103, x111) = j101) ?_ ?_)
 ·refine cw_regSea [0, 1, 2, 3, 4, 5] [6, 7, 8, 9, 10] [] [9] [[9, 2], [9, 3]] [] fol (by kernel_rfl) rfl (by kernel_rfl) rfl rfl ?_
  refine s_mv rfl rfl (s_mv rfl rfl ?_)
  obtain ⟨y116, hy116, h102⟩ := bnd h102
  refine y_ia 0 hI98 rfl rfl rfl hy116 Tryd.underlying70 Tryd.sizeOf38 rfl ?_
  intro g117 cs118 hg119 hR120 hC121
  have khR120 := hR120
  obtain ⟨v125, rfl, r122, r123, r124, hf126⟩ := ToldE_R.1 hR120
  refine s_lda rfl hC121 Tryd.isAgg38 rfl Tryd.sizeOf38 rfl (s_mv rfl rfl (s_mv rfl rfl (Reg.nilX ⟨rfl, rfl, rfl, ?_⟩)))
  intro w127 e128
  have hI129 := (Hp.start (Mu := []) hI98.mlt).ext e128
  obtain ⟨y130, hy130, h102⟩ := bnd h102
  refine SeaWalk.step [6, 8] (by kernel_rfl) (AllL.cons ?_ (AllL.cons ?_ (AllL.nil)))
  ·refine ⟨_, [], rfl, RSub.nil, rfl, nodupB_spec rfl, ?_⟩
   simp only [relOut]
   refine p_ia rfl rfl (hf97.adv (Adv.of_ext e128)) hy130 Tryd.underlying71 Tryd.sizeOf5 rfl ?_
   intro b162 o163 cs164 hR165 hC166
   obtain ⟨rfl, r167⟩ := hR165
   refine Reg.nil ⟨rfl, .inr hI129.kp, rfl, ?_⟩
   intro w168 e169
   have hI170 := hI129.ext e169
   refine SeaWalk.step [7, 8] (by kernel_rfl) (AllL.cons ?_ (AllL.cons ?_ (AllL.nil)))
   ·refine ⟨_, [], rfl, RSub.nil, rfl, nodupB_spec rfl, ?_⟩
    simp only [relOut]
    refine s_ld rfl ((hC166.adv (Adv.of_ext e169)).cells.at 0 rfl) Tryd.isAgg5 rfl (Reg.nil ⟨rfl, .inr hI170.kp, rfl, ?_⟩)
    intro w171 e172
    have hI173 := hI170.ext e172
    refine SeaWalk.step [8] (by kernel_rfl) (AllL.cons ?_ (AllL.nil))
    refine ⟨_, [], rfl, RSub.nil, rfl, nodupB_spec rfl, ?_⟩
    simp only [relOut]
    refine y_al hI173 Tryd.zeroValue38 rfl rfl ?_
    intro b174 w175 hI176 x177
    refine Reg.nil ⟨rfl, .inr hI176.kp, rfl, ?_⟩
    intro w178 e179
    have hI180 := hI176.ext e179
    refine SeaWalk.step [9] (by kernel_rfl) (AllL.cons ?_ (AllL.nil))
    refine ⟨_, [], rfl, RSub.nil, rfl, nodupB_spec rfl, ?_⟩
    simp only [relOut]
    have hI181 := hI98.join hI180
    refine y_st 0 hI181 rfl rfl rfl rfl Tryd.sizeOf38 rfl rfl (one1 rfl (one1 rfl (one1 rfl (one1 (RdS.oneC hf126) one0)))) ?_
    intro w182 hI183 x184
    have hC186 := hI183.freezeRow 0 rfl
    have hI185 := hI183.erase 0
    refine Reg.nil ⟨rfl, .inl rfl, rfl, ?_⟩
    intro w187 e188
    have hI189 := hI185.ext e188
    refine SeaWalk.step [10] (by kernel_rfl) (AllL.cons ?_ (AllL.nil))
    refine ⟨_, [], rfl, RSub.nil, rfl, nodupB_spec rfl, ?_⟩
    simp only [relOut]
    refine s_as rfl rfl (Reg.nil ⟨rfl, .inl rfl, rfl, ?_⟩)
    intro w190 e191
    have hI192 := hI189.ext e191
    refine SeaWalk.done ?_
    obtain rfl := Option.some.inj h102
    refine ⟨rfl, ((Told.mk y116.known y116.cents y116.since y116.by_), y130, v125, b174), ⟨hI192, ((Adv.of_ext e128).trans ((Adv.of_ext e169).trans ((Adv.of_ext e172).trans (x177.trans ((Adv.of_ext e179).trans (x184.trans ((hI183.eraseH 0).trans ((Adv.of_ext e188).trans (Adv.of_ext e191))))))))), r122, r123, r124, (hf126.adv ((Adv.of_ext e128).trans ((Adv.of_ext e169).trans ((Adv.of_ext e172).trans (x177.trans ((Adv.of_ext e179).trans (x184.trans ((hI183.eraseH 0).trans ((Adv.of_ext e188).trans (Adv.of_ext e191)))))))))), (hC186.adv ((Adv.of_ext e188).trans (Adv.of_ext e191))), r167, rfl⟩, sb10 rfl rfl rfl rfl rfl rfl rfl rfl rfl rfl⟩
   refine ⟨_, [], rfl, RSub.nil, rfl, nodupB_spec rfl, ?_⟩
   simp only [relOut]
   refine y_al hI170 Tryd.zeroValue38 rfl rfl ?_
   intro b193 w194 hI195 x196
   refine Reg.nil ⟨rfl, .inr hI195.kp, rfl, ?_⟩
   intro w197 e198
   have hI199 := hI195.ext e198
   refine SeaWalk.step [7, 9] (by kernel_rfl) (AllL.cons ?_ (AllL.cons ?_ (AllL.nil)))
   ·refine ⟨_, [], rfl, RSub.nil, rfl, nodupB_spec rfl, ?_⟩
    simp only [relOut]
    refine s_ld rfl ((hC166.adv ((Adv.of_ext e169).trans (x196.trans (Adv.of_ext e198)))).cells.at 0 rfl) Tryd.isAgg5 rfl (Reg.nil ⟨rfl, .inr hI199.kp, rfl, ?_⟩)
    intro w200 e201
    have hI202 := hI199.ext e201
    refine SeaWalk.step [9] (by kernel_rfl) (AllL.cons ?_ (AllL.nil))
    refine ⟨_, [], rfl, RSub.nil, rfl, nodupB_spec rfl, ?_⟩
    simp only [relOut]
    have hI203 := hI98.join hI202
    refine y_st 0 hI203 rfl rfl rfl rfl Tryd.sizeOf38 rfl rfl (one1 rfl (one1 rfl (one1 rfl (one1 (RdS.oneC hf126) one0)))) ?_
    intro w204 hI205 x206
    have hC208 := hI205.freezeRow 0 rfl
    have hI207 := hI205.erase 0
    refine Reg.nil ⟨rfl, .inl rfl, rfl, ?_⟩
    intro w209 e210
    have hI211 := hI207.ext e210
    refine SeaWalk.step [10] (by kernel_rfl) (AllL.cons ?_ (AllL.nil))
    refine ⟨_, [], rfl, RSub.nil, rfl, nodupB_spec rfl, ?_⟩
    simp only [relOut]
    refine s_as rfl rfl (Reg.nil ⟨rfl, .inl rfl, rfl, ?_⟩)
    intro w212 e213
    have hI214 := hI211.ext e213
    refine SeaWalk.done ?_
    obtain rfl := Option.some.inj h102
    refine ⟨rfl, ((Told.mk y116.known y116.cents y116.since y116.by_), y130, v125, b193), ⟨hI214, ((Adv.of_ext e128).trans ((Adv.of_ext e169).trans (x196.trans ((Adv.of_ext e198).trans ((Adv.of_ext e201).trans (x206.trans ((hI205.eraseH 0).trans ((Adv.of_ext e210).trans (Adv.of_ext e213))))))))), r122, r123, r124, (hf126.adv ((Adv.of_ext e128).trans ((Adv.of_ext e169).trans (x196.trans ((Adv.of_ext e198).trans ((Adv.of_ext e201).trans (x206.trans ((hI205.eraseH 0).trans ((Adv.of_ext e210).trans (Adv.of_ext e213)))))))))), (hC208.adv ((Adv.of_ext e210).trans (Adv.of_ext e213))), r167, rfl⟩, sb10 rfl rfl rfl rfl rfl rfl rfl rfl rfl rfl⟩
   refine ⟨_, [], rfl, RSub.nil, rfl, nodupB_spec rfl, ?_⟩
   simp only [relOut]
   have hI215 := hI98.join hI199
   refine y_st 0 hI215 rfl rfl rfl rfl Tryd.sizeOf38 rfl rfl (one1 rfl (one1 rfl (one1 rfl (one1 (RdS.oneC hf126) one0)))) ?_
   intro w216 hI217 x218
   have hC220 := hI217.freezeRow 0 rfl
   have hI219 := hI217.erase 0
   refine Reg.nil ⟨rfl, .inl rfl, rfl, ?_⟩
   intro w221 e222
   have hI223 := hI219.ext e222
   refine SeaWalk.step [7] (by kernel_rfl) (AllL.cons ?_ (AllL.nil))
   refine ⟨_, [], rfl, RSub.nil, rfl, nodupB_spec rfl, ?_⟩
   simp only [relOut]
   refine s_ld rfl ((hC166.adv ((Adv.of_ext e169).trans (x196.trans ((Adv.of_ext e198).trans (x218.trans ((hI217.eraseH 0).trans (Adv.of_ext e222))))))).cells.at 0 rfl) Tryd.isAgg5 rfl (Reg.nil ⟨rfl, .inl rfl, rfl, ?_⟩)
   intro w224 e225
   have hI226 := hI223.ext e225
   refine SeaWalk.step [10] (by kernel_rfl) (AllL.cons ?_ (AllL.nil))
   refine ⟨_, [], rfl, RSub.nil, rfl, nodupB_spec rfl, ?_⟩
   simp only [relOut]
   refine s_as rfl rfl (Reg.nil ⟨rfl, .inl rfl, rfl, ?_⟩)
   intro w227 e228
   have hI229 := hI226.ext e228
   refine SeaWalk.done ?_
   obtain rfl := Option.some.inj h102
   refine ⟨rfl, ((Told.mk y116.known y116.cents y116.since y116.by_), y130, v125, b193), ⟨hI229, ((Adv.of_ext e128).trans ((Adv.of_ext e169).trans (x196.trans ((Adv.of_ext e198).trans (x218.trans ((hI217.eraseH 0).trans ((Adv.of_ext e222).trans ((Adv.of_ext e225).trans (Adv.of_ext e228))))))))), r122, r123, r124, (hf126.adv ((Adv.of_ext e128).trans ((Adv.of_ext e169).trans (x196.trans ((Adv.of_ext e198).trans (x218.trans ((hI217.eraseH 0).trans ((Adv.of_ext e222).trans ((Adv.of_ext e225).trans (Adv.of_ext e228)))))))))), (hC220.adv ((Adv.of_ext e222).trans ((Adv.of_ext e225).trans (Adv.of_ext e228)))), r167, rfl⟩, sb10 rfl rfl rfl rfl rfl rfl rfl rfl rfl rfl⟩
  refine ⟨_, [], rfl, RSub.nil, rfl, nodupB_spec rfl, ?_⟩
  simp only [relOut]
  refine y_al hI129 Tryd.zeroValue38 rfl rfl ?_
  intro b230 w231 hI232 x233
  refine Reg.nil ⟨rfl, .inr hI232.kp, rfl, ?_⟩
  intro w234 e235
  have hI236 := hI232.ext e235
  refine SeaWalk.step [6, 9] (by kernel_rfl) (AllL.cons ?_ (AllL.cons ?_ (AllL.nil)))
  ·refine ⟨_, [], rfl, RSub.nil, rfl, nodupB_spec rfl, ?_⟩
   simp only [relOut]
   refine p_ia rfl rfl (hf97.adv ((Adv.of_ext e128).trans (x233.trans (Adv.of_ext e235)))) hy130 Tryd.underlying71 Tryd.sizeOf5 rfl ?_
   intro b237 o238 cs239 hR240 hC241
   obtain ⟨rfl, r242⟩ := hR240
   refine Reg.nil ⟨rfl, .inr hI236.kp, rfl, ?_⟩
   intro w243 e244
   have hI245 := hI236.ext e244
   refine SeaWalk.step [7, 9] (by kernel_rfl) (AllL.cons ?_ (AllL.cons ?_ (AllL.nil)))
   ·refine ⟨_, [], rfl, RSub.nil, rfl, nodupB_spec rfl, ?_⟩
    simp only [relOut]
    refine s_ld rfl ((hC241.adv (Adv.of_ext e244)).cells.at 0 rfl) Tryd.isAgg5 rfl (Reg.nil ⟨rfl, .inr hI245.kp, rfl, ?_⟩)
    intro w246 e247
    have hI248 := hI245.ext e247
    refine SeaWalk.step [9] (by kernel_rfl) (AllL.cons ?_ (AllL.nil))
    refine ⟨_, [], rfl, RSub.nil, rfl, nodupB_spec rfl, ?_⟩
    simp only [relOut]
    have hI249 := hI98.join hI248
    refine y_st 0 hI249 rfl rfl rfl rfl Tryd.sizeOf38 rfl rfl (one1 rfl (one1 rfl (one1 rfl (one1 (RdS.oneC hf126) one0)))) ?_
    intro w250 hI251 x252
    have hC254 := hI251.freezeRow 0 rfl
    have hI253 := hI251.erase 0
    refine Reg.nil ⟨rfl, .inl rfl, rfl, ?_⟩
    intro w255 e256
    have hI257 := hI253.ext e256
    refine SeaWalk.step [10] (by kernel_rfl) (AllL.cons ?_ (AllL.nil))
    refine ⟨_, [], rfl, RSub.nil, rfl, nodupB_spec rfl, ?_⟩
    simp only [relOut]
    refine s_as rfl rfl (Reg.nil ⟨rfl, .inl rfl, rfl, ?_⟩)
    intro w258 e259
    have hI260 := hI257.ext e259
    refine SeaWalk.done ?_
    obtain rfl := Option.some.inj h102
    refine ⟨rfl, ((Told.mk y116.known y116.cents y116.since y116.by_), y130, v125, b230), ⟨hI260, ((Adv.of_ext e128).trans (x233.trans ((Adv.of_ext e235).trans ((Adv.of_ext e244).trans ((Adv.of_ext e247).trans (x252.trans ((hI251.eraseH 0).trans ((Adv.of_ext e256).trans (Adv.of_ext e259))))))))), r122, r123, r124, (hf126.adv ((Adv.of_ext e128).trans (x233.trans ((Adv.of_ext e235).trans ((Adv.of_ext e244).trans ((Adv.of_ext e247).trans (x252.trans ((hI251.eraseH 0).trans ((Adv.of_ext e256).trans (Adv.of_ext e259)))))))))), (hC254.adv ((Adv.of_ext e256).trans (Adv.of_ext e259))), r242, rfl⟩, sb10 rfl rfl rfl rfl rfl rfl rfl rfl rfl rfl⟩
   refine ⟨_, [], rfl, RSub.nil, rfl, nodupB_spec rfl, ?_⟩
   simp only [relOut]
   have hI261 := hI98.join hI245
   refine y_st 0 hI261 rfl rfl rfl rfl Tryd.sizeOf38 rfl rfl (one1 rfl (one1 rfl (one1 rfl (one1 (RdS.oneC hf126) one0)))) ?_
   intro w262 hI263 x264
   have hC266 := hI263.freezeRow 0 rfl
   have hI265 := hI263.erase 0
   refine Reg.nil ⟨rfl, .inl rfl, rfl, ?_⟩
   intro w267 e268
   have hI269 := hI265.ext e268
   refine SeaWalk.step [7] (by kernel_rfl) (AllL.cons ?_ (AllL.nil))
   refine ⟨_, [], rfl, RSub.nil, rfl, nodupB_spec rfl, ?_⟩
   simp only [relOut]
   refine s_ld rfl ((hC241.adv ((Adv.of_ext e244).trans (x264.trans ((hI263.eraseH 0).trans (Adv.of_ext e268))))).cells.at 0 rfl) Tryd.isAgg5 rfl (Reg.nil ⟨rfl, .inl rfl, rfl, ?_⟩)
   intro w270 e271
   have hI272 := hI269.ext e271
   refine SeaWalk.step [10] (by kernel_rfl) (AllL.cons ?_ (AllL.nil))
   refine ⟨_, [], rfl, RSub.nil, rfl, nodupB_spec rfl, ?_⟩
   simp only [relOut]
   refine s_as rfl rfl (Reg.nil ⟨rfl, .inl rfl, rfl, ?_⟩)
   intro w273 e274
   have hI275 := hI272.ext e274
   refine SeaWalk.done ?_
   obtain rfl := Option.some.inj h102
   refine ⟨rfl, ((Told.mk y116.known y116.cents y116.since y116.by_), y130, v125, b230), ⟨hI275, ((Adv.of_ext e128).trans (x233.trans ((Adv.of_ext e235).trans ((Adv.of_ext e244).trans (x264.trans ((hI263.eraseH 0).trans ((Adv.of_ext e268).trans ((Adv.of_ext e271).trans (Adv.of_ext e274))))))))), r122, r123, r124, (hf126.adv ((Adv.of_ext e128).trans (x233.trans ((Adv.of_ext e235).trans ((Adv.of_ext e244).trans (x264.trans ((hI263.eraseH 0).trans ((Adv.of_ext e268).trans ((Adv.of_ext e271).trans (Adv.of_ext e274)))))))))), (hC266.adv ((Adv.of_ext e268).trans ((Adv.of_ext e271).trans (Adv.of_ext e274)))), r242, rfl⟩, sb10 rfl rfl rfl rfl rfl rfl rfl rfl rfl rfl⟩
  refine ⟨_, [], rfl, RSub.nil, rfl, nodupB_spec rfl, ?_⟩
  simp only [relOut]
  have hI276 := hI98.join hI236
  refine y_st 0 hI276 rfl rfl rfl rfl Tryd.sizeOf38 rfl rfl (one1 rfl (one1 rfl (one1 rfl (one1 (RdS.oneC hf126) one0)))) ?_
  intro w277 hI278 x279
  have hC281 := hI278.freezeRow 0 rfl
  have hI280 := hI278.erase 0
  refine Reg.nil ⟨rfl, .inl rfl, rfl, ?_⟩
  intro w282 e283
  have hI284 := hI280.ext e283
  refine SeaWalk.step [6] (by kernel_rfl) (AllL.cons ?_ (AllL.nil))
  refine ⟨_, [], rfl, RSub.nil, rfl, nodupB_spec rfl, ?_⟩
  simp only [relOut]
  refine p_ia rfl rfl (hf97.adv ((Adv.of_ext e128).trans (x233.trans ((Adv.of_ext e235).trans (x279.trans ((hI278.eraseH 0).trans (Adv.of_ext e283))))))) hy130 Tryd.underlying71 Tryd.sizeOf5 rfl ?_
  intro b285 o286 cs287 hR288 hC289
  obtain ⟨rfl, r290⟩ := hR288
  refine Reg.nil ⟨rfl, .inl rfl, rfl, ?_⟩
  intro w291 e292
  have hI293 := hI284.ext e292
  refine SeaWalk.step [7] (by kernel_rfl) (AllL.cons ?_ (AllL.nil))
  refine ⟨_, [], rfl, RSub.nil, rfl, nodupB_spec rfl, ?_⟩
  simp only [relOut]
  refine s_ld rfl ((hC289.adv (Adv.of_ext e292)).cells.at 0 rfl) Tryd.isAgg5 rfl (Reg.nil ⟨rfl, .inl rfl, rfl, ?_⟩)
  intro w294 e295
  have hI296 := hI293.ext e295
  refine SeaWalk.step [10] (by kernel_rfl) (AllL.cons ?_ (AllL.nil))
  refine ⟨_, [], rfl, RSub.nil, rfl, nodupB_spec rfl, ?_⟩
  simp only [relOut]
  refine s_as rfl rfl (Reg.nil ⟨rfl, .inl rfl, rfl, ?_⟩)
  intro w297 e298
  have hI299 := hI296.ext e298
  refine SeaWalk.done ?_
  obtain rfl := Option.some.inj h102
  refine ⟨rfl, ((Told.mk y116.known y116.cents y116.since y116.by_), y130, v125, b230), ⟨hI299, ((Adv.of_ext e128).trans (x233.trans ((Adv.of_ext e235).trans (x279.trans ((hI278.eraseH 0).trans ((Adv.of_ext e283).trans ((Adv.of_ext e292).trans ((Adv.of_ext e295).trans (Adv.of_ext e298))))))))), r122, r123, r124, (hf126.adv ((Adv.of_ext e128).trans (x233.trans ((Adv.of_ext e235).trans (x279.trans ((hI278.eraseH 0).trans ((Adv.of_ext e283).trans ((Adv.of_ext e292).trans ((Adv.of_ext e295).trans (Adv.of_ext e298)))))))))), (hC281.adv ((Adv.of_ext e283).trans ((Adv.of_ext e292).trans ((Adv.of_ext e295).trans (Adv.of_ext e298))))), r290, rfl⟩, sb10 rfl rfl rfl rfl rfl rfl rfl rfl rfl rfl⟩
 rintro ⟨x103, x111, v107, b109⟩ w113 ⟨hI114, hA115, r104, r105, r106, hf108, hC110, r112, rfl⟩
 obtain ⟨j300, h301, h⟩ := bnd h
 refine cw_keep [0, 1, 2, 3, 5, 13, 16, 20, 21, 22] rfl (cw_seqD 0 (ι := Bool) (fun x302 => [(23, Value.bool x302)]) (fun x302 => fun w303 => w113 = w303 ∧ x302 = j300) ?_ ?_)
 ·refine cw_regF (s_mv rfl rfl (s_eql rfl rfl rfl (s_mv rfl rfl (Reg.gsplit (t := 99) rfl (fun hg306 => ?_) (fun hg306 => ?_)))))
  ·replace h301 := cdT hg306 h301
   refine Reg.pass rfl rfl rfl rfl (Reg.pass rfl rfl rfl rfl (s_pkT rfl rfl rfl (s_mv rfl rfl (Reg.pass rfl rfl rfl rfl (Reg.pass rfl rfl rfl rfl (s_pkT rfl rfl rfl (s_as rfl rfl (Reg.nil ?_))))))))
   obtain rfl := Option.some.inj h301
   refine ⟨rfl, true, ⟨rfl, rfl⟩, sb11 rfl rfl rfl rfl rfl rfl rfl rfl rfl rfl rfl⟩
  replace h301 := cdF hg306 h301
  refine Reg.take rfl rfl (s_mv rfl rfl (Reg.take rfl rfl (s_eql rfl rfl rfl (s_pkF rfl rfl rfl (s_mv rfl rfl (Reg.gsplit (t := 103) rfl (fun hg307 => ?_) (fun hg307 => ?_)))))))
  ·replace h301 := cdT hg307 h301
   refine Reg.pass rfl rfl rfl rfl (Reg.pass rfl rfl rfl rfl (s_pkT rfl rfl rfl (s_as rfl rfl (Reg.nil ?_))))
   obtain rfl := Option.some.inj h301
   refine ⟨rfl, true, ⟨rfl, rfl⟩, sb11 rfl rfl rfl rfl rfl rfl rfl rfl rfl rfl rfl⟩
  replace h301 := cdF hg307 h301
  refine Reg.take rfl rfl (s_mv rfl rfl (Reg.take rfl rfl (s_eql rfl rfl rfl (s_pkF rfl rfl rfl (s_as rfl rfl (Reg.nil ?_))))))
  obtain rfl := Option.some.inj h301
  refine ⟨rfl, decide (x111 = 7), ⟨rfl, rfl⟩, sb11 rfl rfl rfl rfl rfl rfl rfl rfl rfl rfl rfl⟩
 rintro x302 _ ⟨rfl, rfl⟩
 refine cw_seq (cw_regF (y_al hI114 Tryd.zeroValue61 rfl rfl ?_))
 intro b308 w309 hI310 x311
 refine Reg.nil (cw_seq (cw_regF (s_as rfl rfl (Reg.nil (cw_seq (cw_seq (cw_regF (s_fa rfl Tryd.underlying38 rfl Tryd.sizeOf36 rfl (s_ld rfl ((hC110.adv x311).cells.at 3 rfl) Tryd.isAgg36 rfl (s_len rfl (hf108.adv x311) Tryd.underlying36 rfl (s_mv rfl rfl ?_)))))))))))
 refine Reg.nil ?_
 obtain ⟨j312, h313, h⟩ := bnd h
 refine cw_sub (L := [(25, _), (108, _), (109, _), (110, _), (0, _), (1, _), (2, _), (3, _), (5, _), (13, _), (16, _), (20, _), (21, _), (22, _), (23, _), (24, _)]) (Sub.cons rfl (Sub.cons rfl (Sub.cons rfl (Sub.cons rfl (sb12 rfl rfl rfl rfl rfl rfl rfl rfl rfl rfl rfl rfl))))) (cw_unitD 4 (ι := Bool × Int × Int × Int × Int × Int × Int × Int × Int) (fun ⟨x314, x315, x317, x319, x321, x323, x325, x327, x329⟩ => [(25, Value.bool x314)]) (fun ⟨x314, x315, x317, x319, x321, x323, x325, x327, x329⟩ => fun w331 => Hp w [] M [rowR 61 b308 [vi x315, vi x317, vi x319, vi x321, vi x323, vu x325, vi x327, vi x329], ownR [] ToldE 38 v94 z89, ownR [] ReportE 61 v77 z72] w331 ∧ Adv (mm [rowR 61 b308 zR, ownR [] ToldE 38 v94 z89, ownR [] ReportE 61 v77 z72] M) (mm [rowR 61 b308 [vi x315, vi x317, vi x319, vi x321, vi x323, vu x325, vi x327, vi x329], ownR [] ToldE 38 v94 z89, ownR [] ReportE 61 v77 z72] M) w309 w331 ∧ InK .i64 x315 ∧ InK .i64 x317 ∧ InK .i64 x319 ∧ InK .i64 x321 ∧ InK .i64 x323 ∧ InK .u8 x325 ∧ InK .i64 x327 ∧ InK .i64 x329 ∧ (.inl (x314, x315, x317, x319, x321, x323, x325, x327, x329)) = j312) ?_ ?_)
 ·refine cw_block (cw_sub (L := [(25, _), (110, _), (0, _), (1, _), (2, _), (3, _), (5, _), (13, _), (16, _), (20, _), (21, _), (22, _), (23, _), (24, _), (108, _), (109, _)]) (Sub.cons rfl (Sub.cons rfl (Sub.cons rfl (Sub.cons rfl (sb12 rfl rfl rfl rfl rfl rfl rfl rfl rfl rfl rfl rfl))))) ?_)
  refine cw_loopM 2 (ι := Bool × Int × Int × Int × Int × Int × Int × Int × Int × Int) _ (fun ⟨x334, x335, x337, x339, x341, x343, x345, x347, x349, x351⟩ => [(25, Value.bool x334), (110, vi x335)]) (fun ⟨x334, x335, x337, x339, x341, x343, x345, x347, x349, x351⟩ => (x334, x335, x337, x339, x341, x343, x345, x347, x349, x351)) (fun ⟨x334, x335, x337, x339, x341, x343, x345, x347, x349, x351⟩ => fun w353 => Hp w [] M [rowR 61 b308 [vi x337, vi x339, vi x341, vi x343, vi x345, vu x347, vi x349, vi x351], ownR [] ToldE 38 v94 z89, ownR [] ReportE 61 v77 z72] w353 ∧ Adv (mm [rowR 61 b308 zR, ownR [] ToldE 38 v94 z89, ownR [] ReportE 61 v77 z72] M) (mm [rowR 61 b308 [vi x337, vi x339, vi x341, vi x343, vi x345, vu x347, vi x349, vi x351], ownR [] ToldE 38 v94 z89, ownR [] ReportE 61 v77 z72] M) w309 w353 ∧ InK .i64 x335 ∧ InK .i64 x337 ∧ InK .i64 x339 ∧ InK .i64 x341 ∧ InK .i64 x343 ∧ InK .i64 x345 ∧ InK .u8 x347 ∧ InK .i64 x349 ∧ InK .i64 x351) (false, 0, 0, 0, 0, 0, 0, 0, 0, 0) h313 ⟨hI310, (Adv.refl _ _), (by decide), (by decide), (by decide), (by decide), (by decide), (by decide), (by decide), (by decide), (by decide)⟩ (Sub.cons rfl (Sub.cons rfl (Sub.cons rfl (Sub.cons rfl (sb12 rfl rfl rfl rfl rfl rfl rfl rfl rfl rfl rfl rfl))))) ?_
  rintro ⟨x334, x335, x337, x339, x341, x343, x345, x347, x349, x351⟩ w353 ⟨hI354, hA355, r336, r338, r340, r342, r344, r346, r348, r350, r352⟩ y356 h357 hR358
  refine cw_seq (cw_regF (s_lss rfl rfl rfl (Reg.nil (cw_seq (cw_cond rfl (fun hc359 => ?_) (fun hc359 => ?_))))))
  ·replace h357 := cdT hc359 h357
   refine cw_skip (cw_seq (cw_block (cw_seq (cw_regF (s_mv rfl rfl ?_)))))
   obtain ⟨y360, hy360, h357⟩ := bnd h357
   refine p_ia rfl rfl (hf108.adv (x311.trans hA355)) hy360 Tryd.underlying36 Tryd.sizeOf3 rfl ?_
   intro b361 o362 cs363 hR364 hC365
   obtain ⟨rfl, r366⟩ := hR364
   refine s_ld rfl (hC365.cells.at 0 rfl) Tryd.isAgg3 rfl (s_as rfl rfl (s_as rfl rfl (Reg.nil (cw_seq (cw_regF (s_mv rfl rfl (s_mv rfl rfl ?_)))))))
   obtain ⟨⟨z367, z368⟩, hz369, h357⟩ := bnd h357
   refine s_call rfl Tryd.call33 rfl ((C_law03_find (hI354.sel [0, 1] rfl).mlt (hI354.lendRd [0, 1] 2 rfl rfl) r366 hz369).mono ?_)
   rintro _ w370 ⟨rfl, r372, r373, r374, r375, r376, r377, r378, r379, e371⟩
   refine ⟨_, rfl, ?_⟩
   have hI380 := hI354.ext e371
   refine s_mv rfl rfl (s_xt rfl rfl rfl (s_xt rfl rfl rfl (y_al hI380 Tryd.zeroValue61 rfl rfl ?_)))
   intro b381 w382 hI383 x384
   refine y_st 0 hI383 rfl rfl rfl rfl Tryd.sizeOf61 rfl rfl (on8 rfl rfl rfl rfl rfl rfl rfl rfl) ?_
   intro w385 hI386 x387
   have hC389 := hI386.freezeRow 0 rfl
   have hI388 := hI386.erase 0
   refine s_as rfl rfl (Reg.nil (cw_seq ?_))
   obtain ⟨j390, h391, h357⟩ := bnd h357
   refine cw_sub (L := [(27, _), (29, _), (0, _), (1, _), (2, _), (3, _), (5, _), (13, _), (16, _), (20, _), (21, _), (22, _), (23, _), (24, _), (25, _), (26, _), (28, _), (108, _), (109, _), (110, _)]) (Sub.cons rfl (Sub.cons rfl (Sub.cons rfl (Sub.cons rfl (Sub.cons rfl (Sub.cons rfl (Sub.cons rfl (Sub.cons rfl (sb12 rfl rfl rfl rfl rfl rfl rfl rfl rfl rfl rfl rfl))))))))) (cw_seqD 2 (ι := Bool) (fun x392 => [(172, Value.bool x392)]) (fun x392 => fun w393 => w385 = w393 ∧ x392 = j390) ?_ ?_)
   ·refine cw_regF (s_mv rfl rfl (s_not rfl rfl (s_mv rfl rfl (Reg.gsplit (t := 123) rfl (fun hg396 => ?_) (fun hg396 => ?_)))))
    ·replace h391 := cdT hg396 h391
     iterate 4 refine Reg.pass rfl rfl rfl rfl ?_
     refine s_pkT rfl rfl rfl (s_mv rfl rfl ?_)
     iterate 4 refine Reg.pass rfl rfl rfl rfl ?_
     refine s_pkT rfl rfl rfl (s_mv rfl rfl ?_)
     iterate 4 refine Reg.pass rfl rfl rfl rfl ?_
     refine s_pkT rfl rfl rfl (s_mv rfl rfl ?_)
     iterate 5 refine Reg.pass rfl rfl rfl rfl ?_
     refine s_pkT rfl rfl rfl (s_mv rfl rfl ?_)
     iterate 3 refine Reg.pass rfl rfl rfl rfl ?_
     iterate 5 refine Reg.passU rfl rfl rfl ?_
     refine Reg.pass rfl rfl rfl rfl (s_pkT rfl rfl rfl (s_mv rfl rfl ?_))
     iterate 3 refine Reg.pass rfl rfl rfl rfl ?_
     iterate 8 refine Reg.passU rfl rfl rfl ?_
     refine Reg.pass rfl rfl rfl rfl (s_pkT rfl rfl rfl (Reg.nil ?_))
     obtain rfl := Option.some.inj h391
     refine ⟨rfl, true, ⟨rfl, rfl⟩, Sub.cons rfl (Sub.cons rfl (Sub.cons rfl (Sub.cons rfl (Sub.cons rfl (Sub.cons rfl (Sub.cons rfl (sb12 rfl rfl rfl rfl rfl rfl rfl rfl rfl rfl rfl rfl)))))))⟩
    replace h391 := cdF hg396 h391
    refine Reg.take rfl rfl (s_fa rfl Tryd.underlying61 rfl Tryd.sizeOf5 rfl (Reg.take rfl rfl (s_ld rfl (hC389.cells.at 5 rfl) Tryd.isAgg5 rfl (Reg.take rfl rfl (s_mv rfl rfl (Reg.take rfl rfl (s_neq rfl rfl rfl (s_pkF rfl rfl rfl (s_mv rfl rfl (Reg.gsplit (t := 129) rfl (fun hg397 => ?_) (fun hg397 => ?_)))))))))))
    ·replace h391 := cdT hg397 h391
     iterate 4 refine Reg.pass rfl rfl rfl rfl ?_
     refine s_pkT rfl rfl rfl (s_mv rfl rfl ?_)
     iterate 4 refine Reg.pass rfl rfl rfl rfl ?_
     refine s_pkT rfl rfl rfl (s_mv rfl rfl ?_)
     iterate 5 refine Reg.pass rfl rfl rfl rfl ?_
     refine s_pkT rfl rfl rfl (s_mv rfl rfl ?_)
     iterate 3 refine Reg.pass rfl rfl rfl rfl ?_
     iterate 5 refine Reg.passU rfl rfl rfl ?_
     refine Reg.pass rfl rfl rfl rfl (s_pkT rfl rfl rfl (s_mv rfl rfl ?_))
     iterate 3 refine Reg.pass rfl rfl rfl rfl ?_
     iterate 8 refine Reg.passU rfl rfl rfl ?_
     refine Reg.pass rfl rfl rfl rfl (s_pkT rfl rfl rfl (Reg.nil ?_))
     obtain rfl := Option.some.inj h391
     refine ⟨rfl, true, ⟨rfl, rfl⟩, Sub.cons rfl (Sub.cons rfl (Sub.cons rfl (Sub.cons rfl (Sub.cons rfl (Sub.cons rfl (Sub.cons rfl (sb12 rfl rfl rfl rfl rfl rfl rfl rfl rfl rfl rfl rfl)))))))⟩
    replace h391 := cdF hg397 h391
    refine Reg.take rfl rfl (s_fa rfl Tryd.underlying61 rfl Tryd.sizeOf3 rfl (Reg.take rfl rfl (s_ld rfl (hC389.cells.at 2 rfl) Tryd.isAgg3 rfl (Reg.take rfl rfl (s_mv rfl rfl (Reg.take rfl rfl (s_neq rfl rfl rfl (s_pkF rfl rfl rfl (s_mv rfl rfl (Reg.gsplit (t := 135) rfl (fun hg398 => ?_) (fun hg398 => ?_)))))))))))
    ·replace h391 := cdT hg398 h391
     iterate 4 refine Reg.pass rfl rfl rfl rfl ?_
     refine s_pkT rfl rfl rfl (s_mv rfl rfl ?_)
     iterate 5 refine Reg.pass rfl rfl rfl rfl ?_
     refine s_pkT rfl rfl rfl (s_mv rfl rfl ?_)
     iterate 3 refine Reg.pass rfl rfl rfl rfl ?_
     iterate 5 refine Reg.passU rfl rfl rfl ?_
     refine Reg.pass rfl rfl rfl rfl (s_pkT rfl rfl rfl (s_mv rfl rfl ?_))
     iterate 3 refine Reg.pass rfl rfl rfl rfl ?_
     iterate 8 refine Reg.passU rfl rfl rfl ?_
     refine Reg.pass rfl rfl rfl rfl (s_pkT rfl rfl rfl (Reg.nil ?_))
     obtain rfl := Option.some.inj h391
     refine ⟨rfl, true, ⟨rfl, rfl⟩, Sub.cons rfl (Sub.cons rfl (Sub.cons rfl (Sub.cons rfl (Sub.cons rfl (Sub.cons rfl (Sub.cons rfl (sb12 rfl rfl rfl rfl rfl rfl rfl rfl rfl rfl rfl rfl)))))))⟩
    replace h391 := cdF hg398 h391
    refine Reg.take rfl rfl (s_fa rfl Tryd.underlying61 rfl Tryd.sizeOf3 rfl (Reg.take rfl rfl (s_ld rfl (hC389.cells.at 4 rfl) Tryd.isAgg3 rfl (Reg.take rfl rfl (s_mv rfl rfl (Reg.take rfl rfl (s_gtr rfl rfl rfl (s_pkF rfl rfl rfl (s_mv rfl rfl (Reg.gsplit (t := 141) rfl (fun hg399 => ?_) (fun hg399 => ?_)))))))))))
    ·replace h391 := cdT hg399 h391
     iterate 5 refine Reg.pass rfl rfl rfl rfl ?_
     refine s_pkT rfl rfl rfl (s_mv rfl rfl ?_)
     iterate 3 refine Reg.pass rfl rfl rfl rfl ?_
     iterate 5 refine Reg.passU rfl rfl rfl ?_
     refine Reg.pass rfl rfl rfl rfl (s_pkT rfl rfl rfl (s_mv rfl rfl ?_))
     iterate 3 refine Reg.pass rfl rfl rfl rfl ?_
     iterate 8 refine Reg.passU rfl rfl rfl ?_
     refine Reg.pass rfl rfl rfl rfl (s_pkT rfl rfl rfl (Reg.nil ?_))
     obtain rfl := Option.some.inj h391
     refine ⟨rfl, true, ⟨rfl, rfl⟩, Sub.cons rfl (Sub.cons rfl (Sub.cons rfl (Sub.cons rfl (Sub.cons rfl (Sub.cons rfl (Sub.cons rfl (sb12 rfl rfl rfl rfl rfl rfl rfl rfl rfl rfl rfl rfl)))))))⟩
    replace h391 := cdF hg399 h391
    refine Reg.take rfl rfl (s_fa rfl Tryd.underlying61 rfl Tryd.sizeOf3 rfl (Reg.take rfl rfl (s_ld rfl (hC389.cells.at 4 rfl) Tryd.isAgg3 rfl (Reg.take rfl rfl (s_fa rfl Tryd.underlying38 rfl Tryd.sizeOf3 rfl (Reg.take rfl rfl (s_ld rfl ((hC110.adv (x311.trans (hA355.trans ((Adv.of_ext e371).trans (x384.trans (x387.trans (hI386.eraseH 0))))))).cells.at 2 rfl) Tryd.isAgg3 rfl (Reg.take rfl rfl (s_lss rfl rfl rfl (s_pkF rfl rfl rfl (s_mv rfl rfl ?_)))))))))))
    refine Reg.gsplit (t := 148) rfl (fun hg400 => ?_) (fun hg400 => ?_)
    ·replace h391 := cdT hg400 h391
     iterate 3 refine Reg.pass rfl rfl rfl rfl ?_
     iterate 5 refine Reg.passU rfl rfl rfl ?_
     refine Reg.pass rfl rfl rfl rfl (s_pkT rfl rfl rfl (s_mv rfl rfl ?_))
     iterate 3 refine Reg.pass rfl rfl rfl rfl ?_
     iterate 8 refine Reg.passU rfl rfl rfl ?_
     refine Reg.pass rfl rfl rfl rfl (s_pkT rfl rfl rfl (Reg.nil ?_))
     obtain rfl := Option.some.inj h391
     refine ⟨rfl, true, ⟨rfl, rfl⟩, Sub.cons rfl (Sub.cons rfl (Sub.cons rfl (Sub.cons rfl (Sub.cons rfl (Sub.cons rfl (Sub.cons rfl (sb12 rfl rfl rfl rfl rfl rfl rfl rfl rfl rfl rfl rfl)))))))⟩
    replace h391 := cdF hg400 h391
    refine Reg.take rfl rfl (s_mv rfl rfl (Reg.take rfl rfl (s_not rfl rfl (Reg.take rfl rfl (s_mv rfl rfl (Reg.gsplit (t := 151) rfl (fun hg401 => ?_) (fun hg401 => ?_)))))))
    ·replace h391 := cdT hg401 h391
     refine Reg.take rfl rfl (s_fa rfl Tryd.underlying61 rfl Tryd.sizeOf3 rfl (Reg.take rfl rfl (s_ld rfl (hC389.cells.at 4 rfl) Tryd.isAgg3 rfl (Reg.take rfl rfl (s_fa rfl Tryd.underlying38 rfl Tryd.sizeOf3 rfl (Reg.take rfl rfl (s_ld rfl ((hC110.adv (x311.trans (hA355.trans ((Adv.of_ext e371).trans (x384.trans (x387.trans (hI386.eraseH 0))))))).cells.at 2 rfl) Tryd.isAgg3 rfl (Reg.take rfl rfl (s_neq rfl rfl rfl (Reg.take rfl rfl (s_pkT rfl rfl rfl ?_)))))))))))
     refine s_pkF rfl rfl rfl (s_mv rfl rfl (Reg.gsplit (t := 159) rfl (fun hg402 => ?_) (fun hg402 => ?_)))
     ·replace h391 := cdT hg402 h391
      iterate 3 refine Reg.pass rfl rfl rfl rfl ?_
      iterate 8 refine Reg.passU rfl rfl rfl ?_
      refine Reg.pass rfl rfl rfl rfl (s_pkT rfl rfl rfl (Reg.nil ?_))
      obtain rfl := Option.some.inj h391
      refine ⟨rfl, true, ⟨rfl, rfl⟩, Sub.cons rfl (Sub.cons rfl (Sub.cons rfl (Sub.cons rfl (Sub.cons rfl (Sub.cons rfl (Sub.cons rfl (sb12 rfl rfl rfl rfl rfl rfl rfl rfl rfl rfl rfl rfl)))))))⟩
     replace h391 := cdF hg402 h391
     refine Reg.take rfl rfl (s_mv rfl rfl (Reg.take rfl rfl (s_gtr rfl rfl rfl (Reg.take rfl rfl (s_mv rfl rfl (Reg.gsplit (t := 162) rfl (fun hg403 => ?_) (fun hg403 => ?_)))))))
     ·replace h391 := cdT hg403 h391
      refine Reg.take rfl rfl (s_mv rfl rfl (Reg.take rfl rfl (s_fa rfl Tryd.underlying38 rfl Tryd.sizeOf36 rfl (Reg.take rfl rfl (s_ld rfl ((hC110.adv (x311.trans (hA355.trans ((Adv.of_ext e371).trans (x384.trans (x387.trans (hI386.eraseH 0))))))).cells.at 3 rfl) Tryd.isAgg36 rfl (Reg.take rfl rfl (s_mv rfl rfl (Reg.take rfl rfl ?_))))))))
      obtain ⟨n404, hn404, h391⟩ := bnd h391
      replace hn404 := chk_out hn404
      refine p_sub rfl rfl rfl hn404 ?_
      refine Reg.take rfl rfl ?_
      obtain ⟨y405, hy405, h391⟩ := bnd h391
      refine p_ia rfl rfl (hf108.adv (x311.trans (hA355.trans ((Adv.of_ext e371).trans (x384.trans (x387.trans (hI386.eraseH 0))))))) hy405 Tryd.underlying36 Tryd.sizeOf3 rfl ?_
      intro b406 o407 cs408 hR409 hC410
      obtain ⟨rfl, r411⟩ := hR409
      refine Reg.take rfl rfl (s_ld rfl (hC410.cells.at 0 rfl) Tryd.isAgg3 rfl (Reg.take rfl rfl (s_leq rfl rfl rfl (Reg.take rfl rfl (s_pkT rfl rfl rfl (s_pkF rfl rfl rfl (Reg.nil ?_)))))))
      obtain rfl := Option.some.inj h391
      refine ⟨rfl, decide (y360 ≤ y405), ⟨rfl, rfl⟩, Sub.cons rfl (Sub.cons rfl (Sub.cons rfl (Sub.cons rfl (Sub.cons rfl (Sub.cons rfl (Sub.cons rfl (sb12 rfl rfl rfl rfl rfl rfl rfl rfl rfl rfl rfl rfl)))))))⟩
     replace h391 := cdF hg403 h391
     iterate 8 refine Reg.pass rfl rfl rfl rfl ?_
     refine Reg.take rfl rfl (s_pkF rfl rfl rfl (s_pkF rfl rfl rfl (Reg.nil ?_)))
     obtain rfl := Option.some.inj h391
     refine ⟨rfl, false, ⟨rfl, rfl⟩, Sub.cons rfl (Sub.cons rfl (Sub.cons rfl (Sub.cons rfl (Sub.cons rfl (Sub.cons rfl (Sub.cons rfl (sb12 rfl rfl rfl rfl rfl rfl rfl rfl rfl rfl rfl rfl)))))))⟩
    replace h391 := cdF hg401 h391
    iterate 5 refine Reg.pass rfl rfl rfl rfl ?_
    refine Reg.take rfl rfl (s_pkF rfl rfl rfl (s_pkF rfl rfl rfl (s_mv rfl rfl (Reg.take rfl rfl (s_mv rfl rfl (Reg.take rfl rfl (s_gtr rfl rfl rfl (Reg.take rfl rfl (s_mv rfl rfl (Reg.gsplit (t := 162) rfl (fun hg412 => ?_) (fun hg412 => ?_)))))))))))
    ·replace h391 := cdT hg412 h391
     refine Reg.take rfl rfl (s_mv rfl rfl (Reg.take rfl rfl (s_fa rfl Tryd.underlying38 rfl Tryd.sizeOf36 rfl (Reg.take rfl rfl (s_ld rfl ((hC110.adv (x311.trans (hA355.trans ((Adv.of_ext e371).trans (x384.trans (x387.trans (hI386.eraseH 0))))))).cells.at 3 rfl) Tryd.isAgg36 rfl (Reg.take rfl rfl (s_mv rfl rfl (Reg.take rfl rfl ?_))))))))
     obtain ⟨n413, hn413, h391⟩ := bnd h391
     replace hn413 := chk_out hn413
     refine p_sub rfl rfl rfl hn413 ?_
     refine Reg.take rfl rfl ?_
     obtain ⟨y414, hy414, h391⟩ := bnd h391
     refine p_ia rfl rfl (hf108.adv (x311.trans (hA355.trans ((Adv.of_ext e371).trans (x384.trans (x387.trans (hI386.eraseH 0))))))) hy414 Tryd.underlying36 Tryd.sizeOf3 rfl ?_
     intro b415 o416 cs417 hR418 hC419
     obtain ⟨rfl, r420⟩ := hR418
     refine Reg.take rfl rfl (s_ld rfl (hC419.cells.at 0 rfl) Tryd.isAgg3 rfl (Reg.take rfl rfl (s_leq rfl rfl rfl (Reg.take rfl rfl (s_pkT rfl rfl rfl (s_pkF rfl rfl rfl (Reg.nil ?_)))))))
     obtain rfl := Option.some.inj h391
     refine ⟨rfl, decide (y360 ≤ y414), ⟨rfl, rfl⟩, Sub.cons rfl (Sub.cons rfl (Sub.cons rfl (Sub.cons rfl (Sub.cons rfl (Sub.cons rfl (Sub.cons rfl (sb12 rfl rfl rfl rfl rfl rfl rfl rfl rfl rfl rfl rfl)))))))⟩
    replace h391 := cdF hg412 h391
    iterate 8 refine Reg.pass rfl rfl rfl rfl ?_
    refine Reg.take rfl rfl (s_pkF rfl rfl rfl (s_pkF rfl rfl rfl (Reg.nil ?_)))
    obtain rfl := Option.some.inj h391
    refine ⟨rfl, false, ⟨rfl, rfl⟩, Sub.cons rfl (Sub.cons rfl (Sub.cons rfl (Sub.cons rfl (Sub.cons rfl (Sub.cons rfl (Sub.cons rfl (sb12 rfl rfl rfl rfl rfl rfl rfl rfl rfl rfl rfl rfl)))))))⟩
   rintro x392 _ ⟨rfl, rfl⟩
   refine cw_cond rfl (fun hc421 => ?_) (fun hc421 => ?_)
   ·replace h357 := cdT hc421 h357
    refine cw_seq (cw_regF (s_as rfl rfl (Reg.nil (cw_ret ?_))))
    obtain rfl := Option.some.inj h357
    obtain rfl := hR358 _ rfl
    replace h := elimR h
    obtain rfl := Option.some.inj h
    refine fin1 Tryd.results8 rfl ?_
    exact ⟨rfl, hI388.kp⟩
   replace h357 := cdF hc421 h357
   refine cw_skip ?_
   obtain ⟨j422, h423, h357⟩ := bnd h357
   refine cw_sub (L := [(26, _), (0, _), (1, _), (2, _), (3, _), (5, _), (13, _), (16, _), (20, _), (21, _), (22, _), (23, _), (24, _), (25, _), (28, _), (108, _), (109, _), (110, _)]) (Sub.cons rfl (Sub.cons rfl (Sub.cons rfl (Sub.cons rfl (Sub.cons rfl (Sub.cons rfl (sb12 rfl rfl rfl rfl rfl rfl rfl rfl rfl rfl rfl rfl))))))) (cw_seqD 1 (ι := Int × Int × Int × Int × Int × Int × Int × Int) (fun ⟨x424, x426, x428, x430, x432, x434, x436, x438⟩ => []) (fun ⟨x424, x426, x428, x430, x432, x434, x436, x438⟩ => fun w440 => Hp w [] M [rowR 61 b308 [vi x424, vi x426, vi x428, vi x430, vi x432, vu x434, vi x436, vi x438], ownR [] ToldE 38 v94 z89, ownR [] ReportE 61 v77 z72] w440 ∧ Adv (mm [rowR 61 b308 [vi x337, vi x339, vi x341, vi x343, vi x345, vu x347, vi x349, vi x351], ownR [] ToldE 38 v94 z89, ownR [] ReportE 61 v77 z72] M) (mm [rowR 61 b308 [vi x424, vi x426, vi x428, vi x430, vi x432, vu x434, vi x436, vi x438], ownR [] ToldE 38 v94 z89, ownR [] ReportE 61 v77 z72] M) w385 w440 ∧ InK .i64 x424 ∧ InK .i64 x426 ∧ InK .i64 x428 ∧ InK .i64 x430 ∧ InK .i64 x432 ∧ InK .u8 x434 ∧ InK .i64 x436 ∧ InK .i64 x438 ∧ (x424, x426, x428, x430, x432, x434, x436, x438) = j422) ?_ ?_)
   ·refine cw_seq (cw_regF (s_mv rfl rfl (s_eql rfl rfl rfl (Reg.nil ?_))))
    obtain ⟨j443, h444, h423⟩ := bnd h423
    refine cw_sub (L := [(174, _), (0, _), (1, _), (2, _), (3, _), (5, _), (13, _), (16, _), (20, _), (21, _), (22, _), (23, _), (24, _), (25, _), (28, _), (108, _), (109, _), (110, _)]) (Sub.cons rfl (Sub.cons rfl (Sub.cons rfl (Sub.cons rfl (Sub.cons rfl (Sub.cons rfl (sb12 rfl rfl rfl rfl rfl rfl rfl rfl rfl rfl rfl rfl))))))) (cw_unitD 1 (ι := Int × Int × Int × Int × Int × Int × Int × Int) (fun ⟨x445, x447, x449, x451, x453, x455, x457, x459⟩ => []) (fun ⟨x445, x447, x449, x451, x453, x455, x457, x459⟩ => fun w461 => Hp w [] M [rowR 61 b308 [vi x445, vi x447, vi x449, vi x451, vi x453, vu x455, vi x457, vi x459], ownR [] ToldE 38 v94 z89, ownR [] ReportE 61 v77 z72] w461 ∧ Adv (mm [rowR 61 b308 [vi x337, vi x339, vi x341, vi x343, vi x345, vu x347, vi x349, vi x351], ownR [] ToldE 38 v94 z89, ownR [] ReportE 61 v77 z72] M) (mm [rowR 61 b308 [vi x445, vi x447, vi x449, vi x451, vi x453, vu x455, vi x457, vi x459], ownR [] ToldE 38 v94 z89, ownR [] ReportE 61 v77 z72] M) w385 w461 ∧ InK .i64 x445 ∧ InK .i64 x447 ∧ InK .i64 x449 ∧ InK .i64 x451 ∧ InK .i64 x453 ∧ InK .u8 x455 ∧ InK .i64 x457 ∧ InK .i64 x459 ∧ (x445, x447, x449, x451, x453, x455, x457, x459) = j443) ?_ ?_)
    ·refine cw_cond rfl (fun hc464 => ?_) (fun hc464 => ?_)
     ·replace h444 := cdT hc464 h444
      refine cw_regF (s_lda rfl hC389.cells Tryd.isAgg61 rfl Tryd.sizeOf61 rfl (y_st 0 hI388 rfl rfl rfl rfl Tryd.sizeOf61 rfl rfl (on8 rfl rfl rfl rfl rfl rfl rfl rfl) ?_))
      intro w465 hI466 x467
      refine Reg.nil ?_
      obtain rfl := Option.some.inj h444
      refine ⟨rfl, (z367.id, z367.source, z367.account, z367.made, z367.about, z367.kind, z367.cents, z367.of_), ⟨hI466, x467, r372, r373, r374, r375, r376, r377, r378, r379, rfl⟩, Sub.cons rfl (Sub.cons rfl (Sub.cons rfl (Sub.cons rfl (Sub.cons rfl (sb12 rfl rfl rfl rfl rfl rfl rfl rfl rfl rfl rfl rfl)))))⟩
     replace h444 := cdF hc464 h444
     refine cw_skip ?_
     obtain rfl := Option.some.inj h444
     refine ⟨rfl, (x337, x339, x341, x343, x345, x347, x349, x351), ⟨hI388, (Adv.refl _ _), r338, r340, r342, r344, r346, r348, r350, r352, rfl⟩, Sub.cons rfl (Sub.cons rfl (Sub.cons rfl (Sub.cons rfl (Sub.cons rfl (sb12 rfl rfl rfl rfl rfl rfl rfl rfl rfl rfl rfl rfl)))))⟩
    rintro ⟨x445, x447, x449, x451, x453, x455, x457, x459⟩ w461 ⟨hI462, hA463, r446, r448, r450, r452, r454, r456, r458, r460, rfl⟩
    obtain rfl := Option.some.inj h423
    refine ⟨rfl, (x445, x447, x449, x451, x453, x455, x457, x459), ⟨hI462, hA463, r446, r448, r450, r452, r454, r456, r458, r460, rfl⟩, Sub.cons rfl (Sub.cons rfl (Sub.cons rfl (Sub.cons rfl (Sub.cons rfl (sb12 rfl rfl rfl rfl rfl rfl rfl rfl rfl rfl rfl rfl)))))⟩
   rintro ⟨x424, x426, x428, x430, x432, x434, x436, x438⟩ w440 ⟨hI441, hA442, r425, r427, r429, r431, r433, r435, r437, r439, rfl⟩
   obtain ⟨j468, h469, h357⟩ := bnd h357
   refine cw_sub (L := [(25, _), (28, _), (0, _), (1, _), (2, _), (3, _), (5, _), (13, _), (16, _), (20, _), (21, _), (22, _), (23, _), (24, _), (108, _), (109, _), (110, _)]) (Sub.cons rfl (Sub.cons rfl (Sub.cons rfl (Sub.cons rfl (Sub.cons rfl (sb12 rfl rfl rfl rfl rfl rfl rfl rfl rfl rfl rfl rfl)))))) (cw_unitD 2 (ι := Bool) (fun x470 => [(25, Value.bool x470)]) (fun x470 => fun w471 => w440 = w471 ∧ x470 = j468) ?_ ?_)
   ·refine cw_regF (s_mv rfl rfl (s_mv rfl rfl (Reg.gsplit (t := 177) rfl (fun hg474 => ?_) (fun hg474 => ?_))))
    ·replace h469 := cdT hg474 h469
     iterate 5 refine Reg.pass rfl rfl rfl rfl ?_
     refine s_pkT rfl rfl rfl (s_mv rfl rfl ?_)
     iterate 5 refine Reg.pass rfl rfl rfl rfl ?_
     refine s_pkT rfl rfl rfl (s_as rfl rfl (Reg.nil ?_))
     obtain rfl := Option.some.inj h469
     refine ⟨rfl, true, ⟨rfl, rfl⟩, Sub.cons rfl (Sub.cons rfl (Sub.cons rfl (Sub.cons rfl (sb12 rfl rfl rfl rfl rfl rfl rfl rfl rfl rfl rfl rfl))))⟩
    replace h469 := cdF hg474 h469
    refine Reg.take rfl rfl (s_fa rfl Tryd.underlying61 rfl Tryd.sizeOf3 rfl (Reg.take rfl rfl (s_ld rfl ((hC389.adv hA442).cells.at 6 rfl) Tryd.isAgg3 rfl (Reg.take rfl rfl (s_fa rfl Tryd.underlying61 rfl Tryd.sizeOf3 rfl (Reg.take rfl rfl (s_ld rfl ((hI441.row 0 rfl).rd.cells.at 6 rfl) Tryd.isAgg3 rfl (Reg.take rfl rfl (s_neq rfl rfl rfl (s_pkF rfl rfl rfl (s_mv rfl rfl ?_)))))))))))
    refine Reg.gsplit (t := 184) rfl (fun hg475 => ?_) (fun hg475 => ?_)
    ·replace h469 := cdT hg475 h469
     iterate 5 refine Reg.pass rfl rfl rfl rfl ?_
     refine s_pkT rfl rfl rfl (s_as rfl rfl (Reg.nil ?_))
     obtain rfl := Option.some.inj h469
     refine ⟨rfl, true, ⟨rfl, rfl⟩, Sub.cons rfl (Sub.cons rfl (Sub.cons rfl (Sub.cons rfl (sb12 rfl rfl rfl rfl rfl rfl rfl rfl rfl rfl rfl rfl))))⟩
    replace h469 := cdF hg475 h469
    refine Reg.take rfl rfl (s_fa rfl Tryd.underlying61 rfl Tryd.sizeOf3 rfl (Reg.take rfl rfl (s_ld rfl ((hC389.adv hA442).cells.at 4 rfl) Tryd.isAgg3 rfl (Reg.take rfl rfl (s_fa rfl Tryd.underlying61 rfl Tryd.sizeOf3 rfl (Reg.take rfl rfl (s_ld rfl ((hI441.row 0 rfl).rd.cells.at 4 rfl) Tryd.isAgg3 rfl (Reg.take rfl rfl (s_neq rfl rfl rfl (s_pkF rfl rfl rfl (s_as rfl rfl ?_)))))))))))
    refine Reg.nil ?_
    obtain rfl := Option.some.inj h469
    refine ⟨rfl, !decide (z367.about = x432), ⟨rfl, rfl⟩, Sub.cons rfl (Sub.cons rfl (Sub.cons rfl (Sub.cons rfl (sb12 rfl rfl rfl rfl rfl rfl rfl rfl rfl rfl rfl rfl))))⟩
   rintro x470 _ ⟨rfl, rfl⟩
   refine cw_regF ?_
   obtain ⟨n476, hn476, h357⟩ := bnd h357
   replace hn476 := chk_out hn476
   refine p_add rfl rfl rfl hn476 (s_mv rfl rfl (Reg.nil ?_))
   obtain rfl := Option.some.inj h357
   refine ⟨rfl, (x470, n476, x424, x426, x428, x430, x432, x434, x436, x438), ⟨⟨hI441, (hA355.trans ((Adv.of_ext e371).trans (x384.trans (x387.trans ((hI386.eraseH 0).trans hA442))))), hn476.2, r425, r427, r429, r431, r433, r435, r437, r439⟩, rfl⟩, Sub.cons rfl (Sub.cons rfl (Sub.cons rfl (Sub.cons rfl (sb12 rfl rfl rfl rfl rfl rfl rfl rfl rfl rfl rfl rfl))))⟩
  replace h357 := cdF hc359 h357
  refine cw_exit (exB_same ?_)
  obtain rfl := Option.some.inj h357
  obtain rfl := hR358 _ rfl
  refine ⟨rfl, (x334, x337, x339, x341, x343, x345, x347, x349, x351), ⟨hI354, hA355, r338, r340, r342, r344, r346, r348, r350, r352, rfl⟩, Sub.cons rfl (sb12 rfl rfl rfl rfl rfl rfl rfl rfl rfl rfl rfl rfl)⟩
 rintro ⟨x314, x315, x317, x319, x321, x323, x325, x327, x329⟩ w331 ⟨hI332, hA333, r316, r318, r320, r322, r324, r326, r328, r330, rfl⟩
 replace h := elimL h
 refine cw_seq (cw_seq (cw_regF (s_mv rfl rfl (s_lenO rfl (hI332.ownAt 2 rfl) Tryd.underlying22 rfl ?_))))
 refine s_mv rfl rfl (Reg.nil ?_)
 obtain ⟨j477, h478, h⟩ := bnd h
 refine cw_sub (L := [(22, _), (23, _), (192, _), (193, _), (194, _), (0, _), (1, _), (2, _), (3, _), (5, _), (13, _), (16, _), (20, _), (21, _), (24, _), (25, _)]) (Sub.cons rfl (Sub.cons rfl (Sub.cons rfl (Sub.cons rfl (sb12 rfl rfl rfl rfl rfl rfl rfl rfl rfl rfl rfl rfl))))) (cw_unitD 5 (ι := Unit) (fun _ => []) (fun _ => fun w479 => Hp w [] M [rowR 61 b308 [vi x315, vi x317, vi x319, vi x321, vi x323, vu x325, vi x327, vi x329], ownR [] ToldE 38 v94 z89, ownR [] ReportE 61 v77 z72] w479 ∧ Adv (mm [rowR 61 b308 [vi x315, vi x317, vi x319, vi x321, vi x323, vu x325, vi x327, vi x329], ownR [] ToldE 38 v94 z89, ownR [] ReportE 61 v77 z72] M) (mm [rowR 61 b308 [vi x315, vi x317, vi x319, vi x321, vi x323, vu x325, vi x327, vi x329], ownR [] ToldE 38 v94 z89, ownR [] ReportE 61 v77 z72] M) w331 w479 ∧ (.inl ()) = j477) ?_ ?_)
 ·refine cw_block (cw_sub (L := [(194, _), (0, _), (1, _), (2, _), (3, _), (5, _), (13, _), (16, _), (20, _), (21, _), (22, _), (23, _), (24, _), (25, _), (192, _), (193, _)]) (Sub.cons rfl (Sub.cons rfl (Sub.cons rfl (Sub.cons rfl (sb12 rfl rfl rfl rfl rfl rfl rfl rfl rfl rfl rfl rfl))))) ?_)
  refine cw_loopM 1 (ι := Int) _ (fun x482 => [(194, vi x482)]) (fun x482 => x482) (fun x482 => fun w484 => Hp w [] M [rowR 61 b308 [vi x315, vi x317, vi x319, vi x321, vi x323, vu x325, vi x327, vi x329], ownR [] ToldE 38 v94 z89, ownR [] ReportE 61 v77 z72] w484 ∧ Adv (mm [rowR 61 b308 [vi x315, vi x317, vi x319, vi x321, vi x323, vu x325, vi x327, vi x329], ownR [] ToldE 38 v94 z89, ownR [] ReportE 61 v77 z72] M) (mm [rowR 61 b308 [vi x315, vi x317, vi x319, vi x321, vi x323, vu x325, vi x327, vi x329], ownR [] ToldE 38 v94 z89, ownR [] ReportE 61 v77 z72] M) w331 w484 ∧ InK .i64 x482) 0 h478 ⟨hI332, (Adv.refl _ _), (by decide)⟩ (Sub.cons rfl (Sub.cons rfl (Sub.cons rfl (Sub.cons rfl (sb12 rfl rfl rfl rfl rfl rfl rfl rfl rfl rfl rfl rfl))))) ?_
  rintro x482 w484 ⟨hI485, hA486, r483⟩ y487 h488 hR489
  refine cw_seq (cw_regF (s_lss rfl rfl rfl (Reg.nil (cw_seq (cw_cond rfl (fun hc490 => ?_) (fun hc490 => ?_))))))
  ·replace h488 := cdT hc490 h488
   refine cw_skip (cw_seq (cw_block (cw_seq (cw_regF ?_))))
   obtain ⟨y491, hy491, h488⟩ := bnd h488
   refine y_ia 2 hI485 rfl rfl rfl hy491 Tryd.underlying22 Tryd.sizeOf61 rfl ?_
   intro g492 cs493 hg494 hR495 hC496
   have khR495 := hR495
   obtain ⟨rfl, r497, r498, r499, r500, r501, r502, r503, r504⟩ := ReportE_R.1 hR495
   refine s_lda rfl hC496 Tryd.isAgg61 rfl Tryd.sizeOf61 rfl (y_al hI485 Tryd.zeroValue61 rfl rfl ?_)
   intro b505 w506 hI507 x508
   refine y_st 0 hI507 rfl rfl rfl rfl Tryd.sizeOf61 rfl rfl (on8 rfl rfl rfl rfl rfl rfl rfl rfl) ?_
   intro w509 hI510 x511
   have hC513 := hI510.freezeRow 0 rfl
   have hI512 := hI510.erase 0
   refine Reg.nil ?_
   obtain ⟨j514, h515, h488⟩ := bnd h488
   refine cw_sub (L := [(31, _), (0, _), (1, _), (2, _), (3, _), (5, _), (13, _), (16, _), (20, _), (21, _), (22, _), (23, _), (24, _), (25, _), (192, _), (193, _), (194, _)]) (Sub.cons rfl (Sub.cons rfl (Sub.cons rfl (Sub.cons rfl (Sub.cons rfl (sb12 rfl rfl rfl rfl rfl rfl rfl rfl rfl rfl rfl rfl)))))) (cw_seqD 1 (ι := Bool) (fun x516 => [(240, Value.bool x516)]) (fun x516 => fun w517 => w509 = w517 ∧ x516 = j514) ?_ ?_)
   ·refine cw_regF (s_fa rfl Tryd.underlying61 rfl Tryd.sizeOf5 rfl (s_ld rfl (hC513.cells.at 5 rfl) Tryd.isAgg5 rfl (s_mv rfl rfl (s_eql rfl rfl rfl (s_mv rfl rfl (Reg.gsplit (t := 202) rfl (fun hg520 => ?_) (fun hg520 => ?_)))))))
    ·replace h515 := cdT hg520 h515
     refine Reg.take rfl rfl (s_fa rfl Tryd.underlying61 rfl Tryd.sizeOf3 rfl (Reg.take rfl rfl (s_ld rfl (hC513.cells.at 2 rfl) Tryd.isAgg3 rfl (Reg.take rfl rfl (s_mv rfl rfl (Reg.take rfl rfl (s_eql rfl rfl rfl (s_pkT rfl rfl rfl (s_mv rfl rfl (Reg.gsplit (t := 208) rfl (fun hg521 => ?_) (fun hg521 => ?_)))))))))))
     ·replace h515 := cdT hg521 h515
      refine Reg.take rfl rfl (s_fa rfl Tryd.underlying61 rfl Tryd.sizeOf3 rfl (Reg.take rfl rfl (s_ld rfl (hC513.cells.at 4 rfl) Tryd.isAgg3 rfl (Reg.take rfl rfl (s_mv rfl rfl (Reg.take rfl rfl (s_leq rfl rfl rfl (s_pkT rfl rfl rfl (s_mv rfl rfl (Reg.gsplit (t := 214) rfl (fun hg522 => ?_) (fun hg522 => ?_)))))))))))
      ·replace h515 := cdT hg522 h515
       refine Reg.take rfl rfl (s_fa rfl Tryd.underlying38 rfl Tryd.sizeOf36 rfl (Reg.take rfl rfl (s_ld rfl ((hC110.adv (x311.trans (hA333.trans (hA486.trans (x508.trans (x511.trans (hI510.eraseH 0))))))).cells.at 3 rfl) Tryd.isAgg36 rfl (Reg.take rfl rfl (s_len rfl (hf108.adv (x311.trans (hA333.trans (hA486.trans (x508.trans (x511.trans (hI510.eraseH 0))))))) Tryd.underlying36 rfl (Reg.take rfl rfl (s_eql rfl rfl rfl (Reg.take rfl rfl (s_mv rfl rfl (Reg.gsplit (t := 219) rfl (fun hg523 => ?_) (fun hg523 => ?_)))))))))))
       ·replace h515 := cdT hg523 h515
        iterate 3 refine Reg.pass rfl rfl rfl rfl ?_
        iterate 5 refine Reg.passU rfl rfl rfl ?_
        refine Reg.pass rfl rfl rfl rfl (Reg.take rfl rfl (s_pkT rfl rfl rfl (Reg.take rfl rfl (s_mv rfl rfl ?_))))
        iterate 6 refine Reg.pass rfl rfl rfl rfl ?_
        refine Reg.passU rfl rfl rfl (Reg.pass rfl rfl rfl rfl (Reg.take rfl rfl (s_pkT rfl rfl rfl (s_pkT rfl rfl rfl (Reg.nil ?_)))))
        obtain rfl := Option.some.inj h515
        refine ⟨rfl, true, ⟨rfl, rfl⟩, Sub.cons rfl (Sub.cons rfl (Sub.cons rfl (Sub.cons rfl (Sub.cons rfl (sb12 rfl rfl rfl rfl rfl rfl rfl rfl rfl rfl rfl rfl)))))⟩
       replace h515 := cdF hg523 h515
       refine Reg.take rfl rfl (s_mv rfl rfl (Reg.take rfl rfl (s_not rfl rfl (Reg.take rfl rfl (s_mv rfl rfl (Reg.gsplit (t := 222) rfl (fun hg524 => ?_) (fun hg524 => ?_)))))))
       ·replace h515 := cdT hg524 h515
        refine Reg.take rfl rfl (s_fa rfl Tryd.underlying61 rfl Tryd.sizeOf3 rfl (Reg.take rfl rfl (s_ld rfl (hC513.cells.at 4 rfl) Tryd.isAgg3 rfl (Reg.take rfl rfl (s_fa rfl Tryd.underlying38 rfl Tryd.sizeOf3 rfl (Reg.take rfl rfl (s_ld rfl ((hC110.adv (x311.trans (hA333.trans (hA486.trans (x508.trans (x511.trans (hI510.eraseH 0))))))).cells.at 2 rfl) Tryd.isAgg3 rfl (Reg.take rfl rfl (s_gtr rfl rfl rfl (Reg.take rfl rfl (s_pkT rfl rfl rfl ?_)))))))))))
        refine Reg.take rfl rfl (s_pkF rfl rfl rfl (Reg.take rfl rfl (s_mv rfl rfl (Reg.gsplit (t := 230) rfl (fun hg525 => ?_) (fun hg525 => ?_)))))
        ·replace h515 := cdT hg525 h515
         iterate 6 refine Reg.pass rfl rfl rfl rfl ?_
         refine Reg.passU rfl rfl rfl (Reg.pass rfl rfl rfl rfl (Reg.take rfl rfl (s_pkT rfl rfl rfl (s_pkT rfl rfl rfl (Reg.nil ?_)))))
         obtain rfl := Option.some.inj h515
         refine ⟨rfl, true, ⟨rfl, rfl⟩, Sub.cons rfl (Sub.cons rfl (Sub.cons rfl (Sub.cons rfl (Sub.cons rfl (sb12 rfl rfl rfl rfl rfl rfl rfl rfl rfl rfl rfl rfl)))))⟩
        replace h515 := cdF hg525 h515
        refine Reg.take rfl rfl (s_fa rfl Tryd.underlying61 rfl Tryd.sizeOf3 rfl (Reg.take rfl rfl (s_ld rfl (hC513.cells.at 4 rfl) Tryd.isAgg3 rfl (Reg.take rfl rfl (s_fa rfl Tryd.underlying38 rfl Tryd.sizeOf3 rfl (Reg.take rfl rfl (s_ld rfl ((hC110.adv (x311.trans (hA333.trans (hA486.trans (x508.trans (x511.trans (hI510.eraseH 0))))))).cells.at 2 rfl) Tryd.isAgg3 rfl (Reg.take rfl rfl (s_lss rfl rfl rfl (Reg.take rfl rfl (s_mv rfl rfl ?_)))))))))))
        refine Reg.gsplit (t := 236) rfl (fun hg526 => ?_) (fun hg526 => ?_)
        ·replace h515 := cdT hg526 h515
         refine Reg.take rfl rfl (s_mv rfl rfl (Reg.take rfl rfl (s_pkT rfl rfl rfl (Reg.take rfl rfl (s_pkF rfl rfl rfl (s_pkT rfl rfl rfl (Reg.nil ?_)))))))
         obtain rfl := Option.some.inj h515
         refine ⟨rfl, x302, ⟨rfl, rfl⟩, Sub.cons rfl (Sub.cons rfl (Sub.cons rfl (Sub.cons rfl (Sub.cons rfl (sb12 rfl rfl rfl rfl rfl rfl rfl rfl rfl rfl rfl rfl)))))⟩
        replace h515 := cdF hg526 h515
        refine Reg.pass rfl rfl rfl rfl (Reg.take rfl rfl (s_pkF rfl rfl rfl (Reg.take rfl rfl (s_pkF rfl rfl rfl (s_pkT rfl rfl rfl (Reg.nil ?_))))))
        obtain rfl := Option.some.inj h515
        refine ⟨rfl, false, ⟨rfl, rfl⟩, Sub.cons rfl (Sub.cons rfl (Sub.cons rfl (Sub.cons rfl (Sub.cons rfl (sb12 rfl rfl rfl rfl rfl rfl rfl rfl rfl rfl rfl rfl)))))⟩
       replace h515 := cdF hg524 h515
       iterate 5 refine Reg.pass rfl rfl rfl rfl ?_
       refine Reg.take rfl rfl (s_pkF rfl rfl rfl (Reg.take rfl rfl (s_pkF rfl rfl rfl (Reg.take rfl rfl (s_mv rfl rfl (Reg.take rfl rfl (s_fa rfl Tryd.underlying61 rfl Tryd.sizeOf3 rfl (Reg.take rfl rfl (s_ld rfl (hC513.cells.at 4 rfl) Tryd.isAgg3 rfl (Reg.take rfl rfl (s_fa rfl Tryd.underlying38 rfl Tryd.sizeOf3 rfl ?_)))))))))))
       refine Reg.take rfl rfl (s_ld rfl ((hC110.adv (x311.trans (hA333.trans (hA486.trans (x508.trans (x511.trans (hI510.eraseH 0))))))).cells.at 2 rfl) Tryd.isAgg3 rfl (Reg.take rfl rfl (s_lss rfl rfl rfl (Reg.take rfl rfl (s_mv rfl rfl (Reg.gsplit (t := 236) rfl (fun hg527 => ?_) (fun hg527 => ?_)))))))
       ·replace h515 := cdT hg527 h515
        refine Reg.take rfl rfl (s_mv rfl rfl (Reg.take rfl rfl (s_pkT rfl rfl rfl (Reg.take rfl rfl (s_pkF rfl rfl rfl (s_pkT rfl rfl rfl (Reg.nil ?_)))))))
        obtain rfl := Option.some.inj h515
        refine ⟨rfl, x302, ⟨rfl, rfl⟩, Sub.cons rfl (Sub.cons rfl (Sub.cons rfl (Sub.cons rfl (Sub.cons rfl (sb12 rfl rfl rfl rfl rfl rfl rfl rfl rfl rfl rfl rfl)))))⟩
       replace h515 := cdF hg527 h515
       refine Reg.pass rfl rfl rfl rfl (Reg.take rfl rfl (s_pkF rfl rfl rfl (Reg.take rfl rfl (s_pkF rfl rfl rfl (s_pkT rfl rfl rfl (Reg.nil ?_))))))
       obtain rfl := Option.some.inj h515
       refine ⟨rfl, false, ⟨rfl, rfl⟩, Sub.cons rfl (Sub.cons rfl (Sub.cons rfl (Sub.cons rfl (Sub.cons rfl (sb12 rfl rfl rfl rfl rfl rfl rfl rfl rfl rfl rfl rfl)))))⟩
      replace h515 := cdF hg522 h515
      iterate 5 refine Reg.pass rfl rfl rfl rfl ?_
      iterate 9 refine Reg.passU rfl rfl rfl ?_
      refine Reg.pass rfl rfl rfl rfl (Reg.pass rfl rfl rfl rfl ?_)
      iterate 8 refine Reg.passU rfl rfl rfl ?_
      refine Reg.pass rfl rfl rfl rfl (s_pkF rfl rfl rfl (Reg.nil ?_))
      obtain rfl := Option.some.inj h515
      refine ⟨rfl, false, ⟨rfl, rfl⟩, Sub.cons rfl (Sub.cons rfl (Sub.cons rfl (Sub.cons rfl (Sub.cons rfl (sb12 rfl rfl rfl rfl rfl rfl rfl rfl rfl rfl rfl rfl)))))⟩
     replace h515 := cdF hg521 h515
     iterate 4 refine Reg.pass rfl rfl rfl rfl ?_
     refine s_pkF rfl rfl rfl (s_mv rfl rfl ?_)
     iterate 5 refine Reg.pass rfl rfl rfl rfl ?_
     iterate 9 refine Reg.passU rfl rfl rfl ?_
     refine Reg.pass rfl rfl rfl rfl (Reg.pass rfl rfl rfl rfl ?_)
     iterate 8 refine Reg.passU rfl rfl rfl ?_
     refine Reg.pass rfl rfl rfl rfl (s_pkF rfl rfl rfl (Reg.nil ?_))
     obtain rfl := Option.some.inj h515
     refine ⟨rfl, false, ⟨rfl, rfl⟩, Sub.cons rfl (Sub.cons rfl (Sub.cons rfl (Sub.cons rfl (Sub.cons rfl (sb12 rfl rfl rfl rfl rfl rfl rfl rfl rfl rfl rfl rfl)))))⟩
    replace h515 := cdF hg520 h515
    iterate 4 refine Reg.pass rfl rfl rfl rfl ?_
    refine s_pkF rfl rfl rfl (s_mv rfl rfl ?_)
    iterate 4 refine Reg.pass rfl rfl rfl rfl ?_
    refine s_pkF rfl rfl rfl (s_mv rfl rfl ?_)
    iterate 5 refine Reg.pass rfl rfl rfl rfl ?_
    iterate 9 refine Reg.passU rfl rfl rfl ?_
    refine Reg.pass rfl rfl rfl rfl (Reg.pass rfl rfl rfl rfl ?_)
    iterate 8 refine Reg.passU rfl rfl rfl ?_
    refine Reg.pass rfl rfl rfl rfl (s_pkF rfl rfl rfl (Reg.nil ?_))
    obtain rfl := Option.some.inj h515
    refine ⟨rfl, false, ⟨rfl, rfl⟩, Sub.cons rfl (Sub.cons rfl (Sub.cons rfl (Sub.cons rfl (Sub.cons rfl (sb12 rfl rfl rfl rfl rfl rfl rfl rfl rfl rfl rfl rfl)))))⟩
   rintro x516 _ ⟨rfl, rfl⟩
   refine cw_cond rfl (fun hc528 => ?_) (fun hc528 => ?_)
   ·replace h488 := cdT hc528 h488
    refine cw_seq (cw_regF (s_as rfl rfl (Reg.nil (cw_ret ?_))))
    obtain rfl := Option.some.inj h488
    obtain rfl := hR489 _ rfl
    replace h := elimR h
    obtain rfl := Option.some.inj h
    refine fin1 Tryd.results8 rfl ?_
    exact ⟨rfl, hI512.kp⟩
   replace h488 := cdF hc528 h488
   refine cw_skip (cw_regF ?_)
   obtain ⟨n529, hn529, h488⟩ := bnd h488
   replace hn529 := chk_out hn529
   refine p_add rfl rfl rfl hn529 (s_mv rfl rfl (Reg.nil ?_))
   obtain rfl := Option.some.inj h488
   refine ⟨rfl, n529, ⟨⟨hI512, (hA486.trans (x508.trans (x511.trans (hI510.eraseH 0)))), hn529.2⟩, rfl⟩, Sub.cons rfl (Sub.cons rfl (Sub.cons rfl (Sub.cons rfl (sb12 rfl rfl rfl rfl rfl rfl rfl rfl rfl rfl rfl rfl))))⟩
  replace h488 := cdF hc490 h488
  refine cw_exit (exB_same ?_)
  obtain rfl := Option.some.inj h488
  obtain rfl := hR489 _ rfl
  refine ⟨rfl, (), ⟨hI485, hA486, rfl⟩, sb11 rfl rfl rfl rfl rfl rfl rfl rfl rfl rfl rfl⟩
 rintro _ w479 ⟨hI480, hA481, rfl⟩
 replace h := elimL h
 refine cw_seq (cw_seq (cw_regF (s_fa rfl Tryd.underlying38 rfl Tryd.sizeOf5 rfl (s_ld rfl ((hC110.adv (x311.trans (hA333.trans hA481))).cells.at 0 rfl) Tryd.isAgg5 rfl (Reg.nil (cw_block (cw_seq (cw_regF (s_eql rfl rfl rfl (s_as rfl rfl (Reg.nil ?_)))))))))))
 refine cw_cond rfl (fun hc530 => ?_) (fun hc530 => ?_)
 ·replace h := cdT hc530 h
  obtain ⟨j531, h532, h⟩ := bnd h
  refine cw_keep [13, 21] rfl (cw_seqD 2 (ι := Bool) (fun x533 => [(12, Value.bool x533)]) (fun x533 => fun w534 => w479 = w534 ∧ x533 = j531) ?_ ?_)
  ·refine cw_regF (s_mv rfl rfl (s_mv rfl rfl (Reg.gsplit (t := 247) rfl (fun hg537 => ?_) (fun hg537 => ?_))))
   ·replace h532 := cdT hg537 h532
    refine Reg.take rfl rfl (s_fa rfl Tryd.underlying38 rfl Tryd.sizeOf36 rfl (Reg.take rfl rfl (s_ld rfl ((hC110.adv (x311.trans (hA333.trans hA481))).cells.at 3 rfl) Tryd.isAgg36 rfl (Reg.take rfl rfl (s_len rfl (hf108.adv (x311.trans (hA333.trans hA481))) Tryd.underlying36 rfl (Reg.take rfl rfl (s_eql rfl rfl rfl (s_pkT rfl rfl rfl (s_mv rfl rfl (Reg.gsplit (t := 253) rfl (fun hg538 => ?_) (fun hg538 => ?_)))))))))))
    ·replace h532 := cdT hg538 h532
     refine Reg.take rfl rfl (s_fa rfl Tryd.underlying38 rfl Tryd.sizeOf3 rfl (Reg.take rfl rfl (s_ld rfl ((hC110.adv (x311.trans (hA333.trans hA481))).cells.at 1 rfl) Tryd.isAgg3 rfl (Reg.take rfl rfl (s_eql rfl rfl rfl (s_pkT rfl rfl rfl (s_mv rfl rfl (Reg.gsplit (t := 258) rfl (fun hg539 => ?_) (fun hg539 => ?_)))))))))
     ·replace h532 := cdT hg539 h532
      refine Reg.take rfl rfl (s_fa rfl Tryd.underlying38 rfl Tryd.sizeOf3 rfl (Reg.take rfl rfl (s_ld rfl ((hC110.adv (x311.trans (hA333.trans hA481))).cells.at 2 rfl) Tryd.isAgg3 rfl (Reg.take rfl rfl (s_eql rfl rfl rfl (s_pkT rfl rfl rfl (s_as rfl rfl (Reg.nil ?_))))))))
      obtain rfl := Option.some.inj h532
      refine ⟨rfl, decide (x103.since = 0), ⟨rfl, rfl⟩, sb1 rfl⟩
     replace h532 := cdF hg539 h532
     iterate 3 refine Reg.pass rfl rfl rfl rfl ?_
     refine s_pkF rfl rfl rfl (s_as rfl rfl (Reg.nil ?_))
     obtain rfl := Option.some.inj h532
     refine ⟨rfl, false, ⟨rfl, rfl⟩, sb1 rfl⟩
    replace h532 := cdF hg538 h532
    iterate 3 refine Reg.pass rfl rfl rfl rfl ?_
    refine s_pkF rfl rfl rfl (s_mv rfl rfl ?_)
    iterate 3 refine Reg.pass rfl rfl rfl rfl ?_
    refine s_pkF rfl rfl rfl (s_as rfl rfl (Reg.nil ?_))
    obtain rfl := Option.some.inj h532
    refine ⟨rfl, false, ⟨rfl, rfl⟩, sb1 rfl⟩
   replace h532 := cdF hg537 h532
   iterate 4 refine Reg.pass rfl rfl rfl rfl ?_
   refine s_pkF rfl rfl rfl (s_mv rfl rfl ?_)
   iterate 3 refine Reg.pass rfl rfl rfl rfl ?_
   refine s_pkF rfl rfl rfl (s_mv rfl rfl ?_)
   iterate 3 refine Reg.pass rfl rfl rfl rfl ?_
   refine s_pkF rfl rfl rfl (s_as rfl rfl (Reg.nil ?_))
   obtain rfl := Option.some.inj h532
   refine ⟨rfl, false, ⟨rfl, rfl⟩, sb1 rfl⟩
  rintro x533 _ ⟨rfl, rfl⟩
  refine cw_ret ?_
  obtain rfl := Option.some.inj h
  refine fin1 Tryd.results8 rfl ?_
  exact ⟨rfl, hI480.kp⟩
 replace h := cdF hc530 h
 refine cw_seq (cw_regF (s_eql rfl rfl rfl (s_as rfl rfl (Reg.nil (cw_cond rfl (fun hc540 => ?_) (fun hc540 => ?_))))))
 ·replace h := cdT hc540 h
  obtain ⟨j541, h542, h⟩ := bnd h
  refine cw_keep [13, 21, 24, 25] rfl (cw_seqD 4 (ι := Bool) (fun x543 => [(12, Value.bool x543)]) (fun x543 => fun w544 => w479 = w544 ∧ x543 = j541) ?_ ?_)
  ·refine cw_regF (s_mv rfl rfl (s_mv rfl rfl (Reg.gsplit (t := 266) rfl (fun hg547 => ?_) (fun hg547 => ?_))))
   ·replace h542 := cdT hg547 h542
    refine Reg.take rfl rfl (s_fa rfl Tryd.underlying38 rfl Tryd.sizeOf36 rfl (Reg.take rfl rfl (s_ld rfl ((hC110.adv (x311.trans (hA333.trans hA481))).cells.at 3 rfl) Tryd.isAgg36 rfl (Reg.take rfl rfl (s_len rfl (hf108.adv (x311.trans (hA333.trans hA481))) Tryd.underlying36 rfl (Reg.take rfl rfl (s_gtr rfl rfl rfl (s_pkT rfl rfl rfl (s_mv rfl rfl (Reg.gsplit (t := 272) rfl (fun hg548 => ?_) (fun hg548 => ?_)))))))))))
    ·replace h542 := cdT hg548 h542
     refine Reg.take rfl rfl (s_mv rfl rfl (Reg.take rfl rfl (s_not rfl rfl (s_pkT rfl rfl rfl (s_mv rfl rfl (Reg.gsplit (t := 276) rfl (fun hg549 => ?_) (fun hg549 => ?_)))))))
     ·replace h542 := cdT hg549 h542
      refine Reg.take rfl rfl (s_fa rfl Tryd.underlying38 rfl Tryd.sizeOf3 rfl (Reg.take rfl rfl (s_ld rfl ((hC110.adv (x311.trans (hA333.trans hA481))).cells.at 1 rfl) Tryd.isAgg3 rfl (Reg.take rfl rfl (s_fa rfl Tryd.underlying61 rfl Tryd.sizeOf3 rfl (Reg.take rfl rfl (s_ld rfl ((hI480.row 0 rfl).rd.cells.at 6 rfl) Tryd.isAgg3 rfl (Reg.take rfl rfl (s_eql rfl rfl rfl (s_pkT rfl rfl rfl (s_mv rfl rfl ?_)))))))))))
      refine Reg.gsplit (t := 283) rfl (fun hg550 => ?_) (fun hg550 => ?_)
      ·replace h542 := cdT hg550 h542
       refine Reg.take rfl rfl (s_fa rfl Tryd.underlying38 rfl Tryd.sizeOf3 rfl (Reg.take rfl rfl (s_ld rfl ((hC110.adv (x311.trans (hA333.trans hA481))).cells.at 2 rfl) Tryd.isAgg3 rfl (Reg.take rfl rfl (s_fa rfl Tryd.underlying61 rfl Tryd.sizeOf3 rfl (Reg.take rfl rfl (s_ld rfl ((hI480.row 0 rfl).rd.cells.at 4 rfl) Tryd.isAgg3 rfl (Reg.take rfl rfl (s_eql rfl rfl rfl (s_pkT rfl rfl rfl (s_as rfl rfl ?_)))))))))))
       refine Reg.nil ?_
       obtain rfl := Option.some.inj h542
       refine ⟨rfl, decide (x103.since = x323), ⟨rfl, rfl⟩, sb1 rfl⟩
      replace h542 := cdF hg550 h542
      iterate 5 refine Reg.pass rfl rfl rfl rfl ?_
      refine s_pkF rfl rfl rfl (s_as rfl rfl (Reg.nil ?_))
      obtain rfl := Option.some.inj h542
      refine ⟨rfl, false, ⟨rfl, rfl⟩, sb1 rfl⟩
     replace h542 := cdF hg549 h542
     iterate 5 refine Reg.pass rfl rfl rfl rfl ?_
     refine s_pkF rfl rfl rfl (s_mv rfl rfl ?_)
     iterate 5 refine Reg.pass rfl rfl rfl rfl ?_
     refine s_pkF rfl rfl rfl (s_as rfl rfl (Reg.nil ?_))
     obtain rfl := Option.some.inj h542
     refine ⟨rfl, false, ⟨rfl, rfl⟩, sb1 rfl⟩
    replace h542 := cdF hg548 h542
    refine Reg.pass rfl rfl rfl rfl (Reg.pass rfl rfl rfl rfl (s_pkF rfl rfl rfl (s_mv rfl rfl ?_)))
    iterate 5 refine Reg.pass rfl rfl rfl rfl ?_
    refine s_pkF rfl rfl rfl (s_mv rfl rfl ?_)
    iterate 5 refine Reg.pass rfl rfl rfl rfl ?_
    refine s_pkF rfl rfl rfl (s_as rfl rfl (Reg.nil ?_))
    obtain rfl := Option.some.inj h542
    refine ⟨rfl, false, ⟨rfl, rfl⟩, sb1 rfl⟩
   replace h542 := cdF hg547 h542
   iterate 4 refine Reg.pass rfl rfl rfl rfl ?_
   refine s_pkF rfl rfl rfl (s_mv rfl rfl (Reg.pass rfl rfl rfl rfl (Reg.pass rfl rfl rfl rfl (s_pkF rfl rfl rfl (s_mv rfl rfl ?_)))))
   iterate 5 refine Reg.pass rfl rfl rfl rfl ?_
   refine s_pkF rfl rfl rfl (s_mv rfl rfl ?_)
   iterate 5 refine Reg.pass rfl rfl rfl rfl ?_
   refine s_pkF rfl rfl rfl (s_as rfl rfl (Reg.nil ?_))
   obtain rfl := Option.some.inj h542
   refine ⟨rfl, false, ⟨rfl, rfl⟩, sb1 rfl⟩
  rintro x543 _ ⟨rfl, rfl⟩
  refine cw_ret ?_
  obtain rfl := Option.some.inj h
  refine fin1 Tryd.results8 rfl ?_
  exact ⟨rfl, hI480.kp⟩
 replace h := cdF hc540 h
 refine cw_seq (cw_regF (s_eql rfl rfl rfl (s_as rfl rfl (Reg.nil (cw_cond rfl (fun hc551 => ?_) (fun hc551 => ?_))))))
 ·replace h := cdT hc551 h
  obtain ⟨j552, h553, h⟩ := bnd h
  refine cw_keep [25, 0, 1, 2, 3, 5, 13, 16, 20, 21] rfl (cw_seqD 1 (ι := Bool) (fun x554 => [(298, Value.bool x554)]) (fun x554 => fun w555 => w479 = w555 ∧ x554 = j552) ?_ ?_)
  ·refine cw_regF (s_mv rfl rfl (s_not rfl rfl (s_mv rfl rfl (Reg.gsplit (t := 294) rfl (fun hg558 => ?_) (fun hg558 => ?_)))))
   ·replace h553 := cdT hg558 h553
    iterate 3 refine Reg.pass rfl rfl rfl rfl ?_
    refine s_pkT rfl rfl rfl (Reg.nil ?_)
    obtain rfl := Option.some.inj h553
    refine ⟨rfl, true, ⟨rfl, rfl⟩, sb10 rfl rfl rfl rfl rfl rfl rfl rfl rfl rfl⟩
   replace h553 := cdF hg558 h553
   refine Reg.take rfl rfl (s_fa rfl Tryd.underlying38 rfl Tryd.sizeOf3 rfl (Reg.take rfl rfl (s_ld rfl ((hC110.adv (x311.trans (hA333.trans hA481))).cells.at 1 rfl) Tryd.isAgg3 rfl (Reg.take rfl rfl (s_neq rfl rfl rfl (s_pkF rfl rfl rfl (Reg.nil ?_)))))))
   obtain rfl := Option.some.inj h553
   refine ⟨rfl, !decide (x103.cents = 0), ⟨rfl, rfl⟩, sb10 rfl rfl rfl rfl rfl rfl rfl rfl rfl rfl⟩
  rintro x554 _ ⟨rfl, rfl⟩
  refine cw_cond rfl (fun hc559 => ?_) (fun hc559 => ?_)
  ·replace h := cdT hc559 h
   refine cw_seq (cw_regF (s_as rfl rfl (Reg.nil (cw_ret ?_))))
   obtain rfl := Option.some.inj h
   refine fin1 Tryd.results8 rfl ?_
   exact ⟨rfl, hI480.kp⟩
  replace h := cdF hc559 h
  refine cw_skip ?_
  obtain ⟨j560, h561, h⟩ := bnd h
  refine cw_keep [5, 0, 1, 2, 3, 13, 16, 20, 21] rfl (cw_seqD 1 (ι := Report × Nat) (fun ⟨x562, b571⟩ => [(32, vp b571 0)]) (fun ⟨x562, b571⟩ => fun w573 => Hp w [] M [rowR 61 b308 [vi x315, vi x317, vi x319, vi x321, vi x323, vu x325, vi x327, vi x329], ownR [] ToldE 38 v94 z89, ownR [] ReportE 61 v77 z72] w573 ∧ Adv (mm [rowR 61 b308 [vi x315, vi x317, vi x319, vi x321, vi x323, vu x325, vi x327, vi x329], ownR [] ToldE 38 v94 z89, ownR [] ReportE 61 v77 z72] M) (mm [rowR 61 b308 [vi x315, vi x317, vi x319, vi x321, vi x323, vu x325, vi x327, vi x329], ownR [] ToldE 38 v94 z89, ownR [] ReportE 61 v77 z72] M) w479 w573 ∧ InK .i64 x562.id ∧ InK .i64 x562.source ∧ InK .i64 x562.account ∧ InK .i64 x562.made ∧ InK .i64 x562.about ∧ InK .u8 x562.kind ∧ InK .i64 x562.cents ∧ InK .i64 x562.of_ ∧ RdC (mm [rowR 61 b308 [vi x315, vi x317, vi x319, vi x321, vi x323, vu x325, vi x327, vi x329], ownR [] ToldE 38 v94 z89, ownR [] ReportE 61 v77 z72] M) w573 b571 0 (vR x562) ∧ x562 = j560) ?_ ?_)
  ·refine cw_regSea [0, 1, 2, 3, 4, 5, 6, 7, 8, 9, 10, 11, 12, 13] [14, 15, 16, 17] [] [16] [[16, 1], [16, 2], [16, 4], [16, 5], [16, 6], [16, 7], [16, 8], [16, 9], [16, 10], [16, 11], [16, 13]] [] fol (by kernel_rfl) rfl (by kernel_rfl) rfl rfl ?_
   refine s_mv rfl rfl (s_fa rfl Tryd.underlying38 rfl Tryd.sizeOf36 rfl (s_ld rfl ((hC110.adv (x311.trans (hA333.trans hA481))).cells.at 3 rfl) Tryd.isAgg36 rfl (s_mv rfl rfl ?_)))
   obtain ⟨n576, hn576, h561⟩ := bnd h561
   replace hn576 := chk_out hn576
   refine p_cvt rfl Tryd.underlying5 Tryd.underlying3 rfl hn576 ?_
   refine s_fa rfl Tryd.underlying38 rfl Tryd.sizeOf36 rfl (s_ld rfl ((hC110.adv (x311.trans (hA333.trans hA481))).cells.at 3 rfl) Tryd.isAgg36 rfl (s_len rfl (hf108.adv (x311.trans (hA333.trans hA481))) Tryd.underlying36 rfl ?_))
   obtain ⟨n577, hn577, h561⟩ := bnd h561
   have kn577 := remO_out hn577
   refine p_rem rfl rfl rfl kn577 ?_
   obtain ⟨y578, hy578, h561⟩ := bnd h561
   refine p_ia rfl rfl (hf108.adv (x311.trans (hA333.trans hA481))) hy578 Tryd.underlying36 Tryd.sizeOf3 rfl ?_
   intro b579 o580 cs581 hR582 hC583
   obtain ⟨rfl, r584⟩ := hR582
   refine s_ld rfl (hC583.cells.at 0 rfl) Tryd.isAgg3 rfl ?_
   obtain ⟨⟨z585, z586⟩, hz587, h561⟩ := bnd h561
   refine s_callq rfl rfl Tryd.call33 rfl (fun w588 e589 => (C_law03_find ((hI480.sel [0, 1] rfl).mlt.ext e589) ((hI480.lendRd [0, 1] 2 rfl rfl).adv (Adv.of_ext e589)) r584 hz587).mono (fun _ _ hq => ⟨hq.1, hq.2.2.2.2.2.2.2.2.2⟩)) ?_
   have r590 := Calls.fact (C_law03_find (hI480.sel [0, 1] rfl).mlt (hI480.lendRd [0, 1] 2 rfl rfl) r584 hz587) (fun _ _ hq => hq.2.1)
   have r591 := Calls.fact (C_law03_find (hI480.sel [0, 1] rfl).mlt (hI480.lendRd [0, 1] 2 rfl rfl) r584 hz587) (fun _ _ hq => hq.2.2.1)
   have r592 := Calls.fact (C_law03_find (hI480.sel [0, 1] rfl).mlt (hI480.lendRd [0, 1] 2 rfl rfl) r584 hz587) (fun _ _ hq => hq.2.2.2.1)
   have r593 := Calls.fact (C_law03_find (hI480.sel [0, 1] rfl).mlt (hI480.lendRd [0, 1] 2 rfl rfl) r584 hz587) (fun _ _ hq => hq.2.2.2.2.1)
   have r594 := Calls.fact (C_law03_find (hI480.sel [0, 1] rfl).mlt (hI480.lendRd [0, 1] 2 rfl rfl) r584 hz587) (fun _ _ hq => hq.2.2.2.2.2.1)
   have r595 := Calls.fact (C_law03_find (hI480.sel [0, 1] rfl).mlt (hI480.lendRd [0, 1] 2 rfl rfl) r584 hz587) (fun _ _ hq => hq.2.2.2.2.2.2.1)
   have r596 := Calls.fact (C_law03_find (hI480.sel [0, 1] rfl).mlt (hI480.lendRd [0, 1] 2 rfl rfl) r584 hz587) (fun _ _ hq => hq.2.2.2.2.2.2.2.1)
   have r597 := Calls.fact (C_law03_find (hI480.sel [0, 1] rfl).mlt (hI480.lendRd [0, 1] 2 rfl rfl) r584 hz587) (fun _ _ hq => hq.2.2.2.2.2.2.2.2.1)
   refine s_mv rfl rfl (s_xt rfl rfl rfl (Reg.nilX ⟨rfl, rfl, rfl, ?_⟩))
   intro w598 e599
   have hI600 := (Hp.start (Mu := []) hI480.mlt).ext e599
   refine SeaWalk.step [14, 15] (by kernel_rfl) (AllL.cons ?_ (AllL.cons ?_ (AllL.nil)))
   ·refine ⟨_, [], rfl, RSub.nil, rfl, nodupB_spec rfl, ?_⟩
    simp only [relOut]
    refine s_xt rfl rfl rfl (Reg.nil ⟨rfl, .inr hI600.kp, rfl, ?_⟩)
    intro w623 e624
    have hI625 := hI600.ext e624
    refine SeaWalk.step [15] (by kernel_rfl) (AllL.cons ?_ (AllL.nil))
    refine ⟨_, [], rfl, RSub.nil, rfl, nodupB_spec rfl, ?_⟩
    simp only [relOut]
    refine y_al hI625 Tryd.zeroValue61 rfl rfl ?_
    intro b626 w627 hI628 x629
    refine Reg.nil ⟨rfl, .inr hI628.kp, rfl, ?_⟩
    intro w630 e631
    have hI632 := hI628.ext e631
    refine SeaWalk.step [16] (by kernel_rfl) (AllL.cons ?_ (AllL.nil))
    refine ⟨_, [], rfl, RSub.nil, rfl, nodupB_spec rfl, ?_⟩
    simp only [relOut]
    have hI633 := hI480.join hI632
    refine y_st 0 hI633 rfl rfl rfl rfl Tryd.sizeOf61 rfl rfl (on8 rfl rfl rfl rfl rfl rfl rfl rfl) ?_
    intro w634 hI635 x636
    have hC638 := hI635.freezeRow 0 rfl
    have hI637 := hI635.erase 0
    refine Reg.nil ⟨rfl, .inl rfl, rfl, ?_⟩
    intro w639 e640
    have hI641 := hI637.ext e640
    refine SeaWalk.step [17] (by kernel_rfl) (AllL.cons ?_ (AllL.nil))
    refine ⟨_, [], rfl, RSub.nil, rfl, nodupB_spec rfl, ?_⟩
    simp only [relOut]
    refine s_as rfl rfl (Reg.nil ⟨rfl, .inl rfl, rfl, ?_⟩)
    intro w642 e643
    have hI644 := hI641.ext e643
    refine SeaWalk.done ?_
    obtain rfl := Option.some.inj h561
    refine ⟨rfl, ((Report.mk z585.id z585.source z585.account z585.made z585.about z585.kind z585.cents z585.of_), b626), ⟨hI644, ((Adv.of_ext e599).trans ((Adv.of_ext e624).trans (x629.trans ((Adv.of_ext e631).trans (x636.trans ((hI635.eraseH 0).trans ((Adv.of_ext e640).trans (Adv.of_ext e643)))))))), r590, r591, r592, r593, r594, r595, r596, r597, (hC638.adv ((Adv.of_ext e640).trans (Adv.of_ext e643))), rfl⟩, sb9 rfl rfl rfl rfl rfl rfl rfl rfl rfl⟩
   refine ⟨_, [], rfl, RSub.nil, rfl, nodupB_spec rfl, ?_⟩
   simp only [relOut]
   refine y_al hI600 Tryd.zeroValue61 rfl rfl ?_
   intro b645 w646 hI647 x648
   refine Reg.nil ⟨rfl, .inr hI647.kp, rfl, ?_⟩
   intro w649 e650
   have hI651 := hI647.ext e650
   refine SeaWalk.step [14, 16] (by kernel_rfl) (AllL.cons ?_ (AllL.cons ?_ (AllL.nil)))
   ·refine ⟨_, [], rfl, RSub.nil, rfl, nodupB_spec rfl, ?_⟩
    simp only [relOut]
    refine s_xt rfl rfl rfl (Reg.nil ⟨rfl, .inr hI651.kp, rfl, ?_⟩)
    intro w652 e653
    have hI654 := hI651.ext e653
    refine SeaWalk.step [16] (by kernel_rfl) (AllL.cons ?_ (AllL.nil))
    refine ⟨_, [], rfl, RSub.nil, rfl, nodupB_spec rfl, ?_⟩
    simp only [relOut]
    have hI655 := hI480.join hI654
    refine y_st 0 hI655 rfl rfl rfl rfl Tryd.sizeOf61 rfl rfl (on8 rfl rfl rfl rfl rfl rfl rfl rfl) ?_
    intro w656 hI657 x658
    have hC660 := hI657.freezeRow 0 rfl
    have hI659 := hI657.erase 0
    refine Reg.nil ⟨rfl, .inl rfl, rfl, ?_⟩
    intro w661 e662
    have hI663 := hI659.ext e662
    refine SeaWalk.step [17] (by kernel_rfl) (AllL.cons ?_ (AllL.nil))
    refine ⟨_, [], rfl, RSub.nil, rfl, nodupB_spec rfl, ?_⟩
    simp only [relOut]
    refine s_as rfl rfl (Reg.nil ⟨rfl, .inl rfl, rfl, ?_⟩)
    intro w664 e665
    have hI666 := hI663.ext e665
    refine SeaWalk.done ?_
    obtain rfl := Option.some.inj h561
    refine ⟨rfl, ((Report.mk z585.id z585.source z585.account z585.made z585.about z585.kind z585.cents z585.of_), b645), ⟨hI666, ((Adv.of_ext e599).trans (x648.trans ((Adv.of_ext e650).trans ((Adv.of_ext e653).trans (x658.trans ((hI657.eraseH 0).trans ((Adv.of_ext e662).trans (Adv.of_ext e665)))))))), r590, r591, r592, r593, r594, r595, r596, r597, (hC660.adv ((Adv.of_ext e662).trans (Adv.of_ext e665))), rfl⟩, sb9 rfl rfl rfl rfl rfl rfl rfl rfl rfl⟩
   refine ⟨_, [], rfl, RSub.nil, rfl, nodupB_spec rfl, ?_⟩
   simp only [relOut]
   have hI667 := hI480.join hI651
   refine y_st 0 hI667 rfl rfl rfl rfl Tryd.sizeOf61 rfl rfl (on8 rfl rfl rfl rfl rfl rfl rfl rfl) ?_
   intro w668 hI669 x670
   have hC672 := hI669.freezeRow 0 rfl
   have hI671 := hI669.erase 0
   refine Reg.nil ⟨rfl, .inl rfl, rfl, ?_⟩
   intro w673 e674
   have hI675 := hI671.ext e674
   refine SeaWalk.step [14] (by kernel_rfl) (AllL.cons ?_ (AllL.nil))
   refine ⟨_, [], rfl, RSub.nil, rfl, nodupB_spec rfl, ?_⟩
   simp only [relOut]
   refine s_xt rfl rfl rfl (Reg.nil ⟨rfl, .inl rfl, rfl, ?_⟩)
   intro w676 e677
   have hI678 := hI675.ext e677
   refine SeaWalk.step [17] (by kernel_rfl) (AllL.cons ?_ (AllL.nil))
   refine ⟨_, [], rfl, RSub.nil, rfl, nodupB_spec rfl, ?_⟩
   simp only [relOut]
   refine s_as rfl rfl (Reg.nil ⟨rfl, .inl rfl, rfl, ?_⟩)
   intro w679 e680
   have hI681 := hI678.ext e680
   refine SeaWalk.done ?_
   obtain rfl := Option.some.inj h561
   refine ⟨rfl, ((Report.mk z585.id z585.source z585.account z585.made z585.about z585.kind z585.cents z585.of_), b645), ⟨hI681, ((Adv.of_ext e599).trans (x648.trans ((Adv.of_ext e650).trans (x670.trans ((hI669.eraseH 0).trans ((Adv.of_ext e674).trans ((Adv.of_ext e677).trans (Adv.of_ext e680)))))))), r590, r591, r592, r593, r594, r595, r596, r597, (hC672.adv ((Adv.of_ext e674).trans ((Adv.of_ext e677).trans (Adv.of_ext e680)))), rfl⟩, sb9 rfl rfl rfl rfl rfl rfl rfl rfl rfl⟩
  rintro ⟨x562, b571⟩ w573 ⟨hI574, hA575, r563, r564, r565, r566, r567, r568, r569, r570, hC572, rfl⟩
  refine cw_seq (cw_regF (y_bs (E := ReportE) (xs := []) sl22 hI574 rfl rfl Cls.nil Chs.nil rfl rfl ?_))
  intro v682 w683 hI684 x685
  refine s_mv rfl rfl ?_
  obtain ⟨l686, hl686, h⟩ := bnd h
  obtain ⟨hbl686, el686⟩ := appo_out hl686
  refine y_app 0 sl22 hI684 rfl rfl rfl (f_l_0.adv hI684.adv) hbl686 rfl ?_
  rw [← el686]
  intro v687 w688 hI689 x690
  refine s_as rfl rfl (Reg.nil (cw_seq (cw_regF (s_as rfl rfl (Reg.nil (cw_seq (cw_seq (cw_regF (s_fa rfl Tryd.underlying38 rfl Tryd.sizeOf36 rfl (s_ld rfl ((hC110.adv (x311.trans (hA333.trans (hA481.trans (hA575.trans (x685.trans x690)))))).cells.at 3 rfl) Tryd.isAgg36 rfl (s_len rfl (hf108.adv (x311.trans (hA333.trans (hA481.trans (hA575.trans (x685.trans x690)))))) Tryd.underlying36 rfl ?_)))))))))))
  refine s_mv rfl rfl (Reg.nil ?_)
  obtain ⟨j691, h692, h⟩ := bnd h
  refine cw_keep [16, 34, 35, 318, 319, 320, 1, 2, 3, 13, 20, 32] rfl (cw_unitD 6 (ι := (List Report) × Value) (fun ⟨x693, v694⟩ => [(34, v694)]) (fun ⟨x693, v694⟩ => fun w695 => Hp w [] M [ownR [] ReportE 61 v694 x693, rowR 61 b308 [vi x315, vi x317, vi x319, vi x321, vi x323, vu x325, vi x327, vi x329], ownR [] ToldE 38 v94 z89, ownR [] ReportE 61 v77 z72] w695 ∧ Adv (mm [ownR [] ReportE 61 v687 l686, rowR 61 b308 [vi x315, vi x317, vi x319, vi x321, vi x323, vu x325, vi x327, vi x329], ownR [] ToldE 38 v94 z89, ownR [] ReportE 61 v77 z72] M) (mm [ownR [] ReportE 61 v694 x693, rowR 61 b308 [vi x315, vi x317, vi x319, vi x321, vi x323, vu x325, vi x327, vi x329], ownR [] ToldE 38 v94 z89, ownR [] ReportE 61 v77 z72] M) w688 w695 ∧ x693 = j691) ?_ ?_)
  ·refine cw_block (cw_keep [34, 35, 320, 1, 2, 3, 13, 16, 20, 32, 318, 319] rfl ?_)
   refine cw_loopM 3 (ι := (List Report) × Int × Int × Value) _ (fun ⟨x698, x700, x702, v699⟩ => [(34, v699), (35, vi x700), (320, vi x702)]) (fun ⟨x698, x700, x702, v699⟩ => (x698, x700, x702)) (fun ⟨x698, x700, x702, v699⟩ => fun w704 => Hp w [] M [ownR [] ReportE 61 v699 x698, rowR 61 b308 [vi x315, vi x317, vi x319, vi x321, vi x323, vu x325, vi x327, vi x329], ownR [] ToldE 38 v94 z89, ownR [] ReportE 61 v77 z72] w704 ∧ Adv (mm [ownR [] ReportE 61 v687 l686, rowR 61 b308 [vi x315, vi x317, vi x319, vi x321, vi x323, vu x325, vi x327, vi x329], ownR [] ToldE 38 v94 z89, ownR [] ReportE 61 v77 z72] M) (mm [ownR [] ReportE 61 v699 x698, rowR 61 b308 [vi x315, vi x317, vi x319, vi x321, vi x323, vu x325, vi x327, vi x329], ownR [] ToldE 38 v94 z89, ownR [] ReportE 61 v77 z72] M) w688 w704 ∧ InK .i64 x700 ∧ InK .i64 x702) (l686, 0, 0, v687) h692 ⟨hI689, (Adv.refl _ _), (by decide), (by decide)⟩ (sb12 rfl rfl rfl rfl rfl rfl rfl rfl rfl rfl rfl rfl) ?_
   rintro ⟨x698, x700, x702, v699⟩ w704 ⟨hI705, hA706, r701, r703⟩ y707 h708 hR709
   refine cw_seq (cw_regF (s_lss rfl rfl rfl (Reg.nil (cw_seq (cw_cond rfl (fun hc710 => ?_) (fun hc710 => ?_))))))
   ·replace h708 := cdT hc710 h708
    refine cw_skip ?_
    obtain ⟨j711, h712, h708⟩ := bnd h708
    refine cw_keep [34, 35, 1, 2, 3, 13, 16, 20, 32, 318, 319, 320] rfl (cw_seqD 2 (ι := (List Report) × Int × Value) (fun ⟨x713, x715, v714⟩ => [(34, v714), (35, vi x715)]) (fun ⟨x713, x715, v714⟩ => fun w717 => Hp w [] M [ownR [] ReportE 61 v714 x713, rowR 61 b308 [vi x315, vi x317, vi x319, vi x321, vi x323, vu x325, vi x327, vi x329], ownR [] ToldE 38 v94 z89, ownR [] ReportE 61 v77 z72] w717 ∧ Adv (mm [ownR [] ReportE 61 v699 x698, rowR 61 b308 [vi x315, vi x317, vi x319, vi x321, vi x323, vu x325, vi x327, vi x329], ownR [] ToldE 38 v94 z89, ownR [] ReportE 61 v77 z72] M) (mm [ownR [] ReportE 61 v714 x713, rowR 61 b308 [vi x315, vi x317, vi x319, vi x321, vi x323, vu x325, vi x327, vi x329], ownR [] ToldE 38 v94 z89, ownR [] ReportE 61 v77 z72] M) w704 w717 ∧ InK .i64 x715 ∧ (x713, x715) = j711) ?_ ?_)
    ·refine cw_block (cw_seq (cw_regF ?_))
     obtain ⟨y720, hy720, h712⟩ := bnd h712
     refine p_ia rfl rfl (hf108.adv (x311.trans (hA333.trans (hA481.trans (hA575.trans (x685.trans (x690.trans hA706))))))) hy720 Tryd.underlying36 Tryd.sizeOf3 rfl ?_
     intro b721 o722 cs723 hR724 hC725
     obtain ⟨rfl, r726⟩ := hR724
     refine s_ld rfl (hC725.cells.at 0 rfl) Tryd.isAgg3 rfl (s_as rfl rfl (Reg.nil (cw_seq (cw_regF (s_mv rfl rfl (s_mv rfl rfl ?_))))))
     obtain ⟨⟨z727, z728⟩, hz729, h712⟩ := bnd h712
     refine s_call rfl Tryd.call33 rfl ((C_law03_find (hI705.sel [0, 1, 2] rfl).mlt (hI705.lendRd [0, 1, 2] 3 rfl rfl) r726 hz729).mono ?_)
     rintro _ w730 ⟨rfl, r732, r733, r734, r735, r736, r737, r738, r739, e731⟩
     refine ⟨_, rfl, ?_⟩
     have hI740 := hI705.ext e731
     refine s_mv rfl rfl (s_xt rfl rfl rfl (s_xt rfl rfl rfl (y_al hI740 Tryd.zeroValue61 rfl rfl ?_)))
     intro b741 w742 hI743 x744
     refine y_st 0 hI743 rfl rfl rfl rfl Tryd.sizeOf61 rfl rfl (on8 rfl rfl rfl rfl rfl rfl rfl rfl) ?_
     intro w745 hI746 x747
     have hC749 := hI746.freezeRow 0 rfl
     have hI748 := hI746.erase 0
     refine s_as rfl rfl (Reg.nil (cw_seq ?_))
     obtain ⟨j750, h751, h712⟩ := bnd h712
     refine cw_sub (L := [(1, _), (2, _), (3, _), (13, _), (16, _), (20, _), (32, _), (34, _), (35, _), (37, _), (38, _), (318, _), (319, _), (320, _)]) (Sub.cons rfl (Sub.cons rfl (sb12 rfl rfl rfl rfl rfl rfl rfl rfl rfl rfl rfl rfl))) (cw_seqD 0 (ι := Bool) (fun x752 => [(341, Value.bool x752)]) (fun x752 => fun w753 => w745 = w753 ∧ x752 = j750) ?_ ?_)
     ·refine cw_regF (s_fa rfl Tryd.underlying61 rfl Tryd.sizeOf3 rfl (s_ld rfl (hC749.cells.at 6 rfl) Tryd.isAgg3 rfl (s_fa rfl Tryd.underlying61 rfl Tryd.sizeOf3 rfl (s_ld rfl ((hC572.adv (x685.trans (x690.trans (hA706.trans ((Adv.of_ext e731).trans (x744.trans (x747.trans (hI746.eraseH 0)))))))).cells.at 6 rfl) Tryd.isAgg3 rfl (s_eql rfl rfl rfl (s_mv rfl rfl (Reg.gsplit (t := 335) rfl (fun hg756 => ?_) (fun hg756 => ?_))))))))
      ·replace h751 := cdT hg756 h751
       refine Reg.take rfl rfl (s_fa rfl Tryd.underlying61 rfl Tryd.sizeOf3 rfl (Reg.take rfl rfl (s_ld rfl (hC749.cells.at 4 rfl) Tryd.isAgg3 rfl (Reg.take rfl rfl (s_fa rfl Tryd.underlying61 rfl Tryd.sizeOf3 rfl (Reg.take rfl rfl (s_ld rfl ((hC572.adv (x685.trans (x690.trans (hA706.trans ((Adv.of_ext e731).trans (x744.trans (x747.trans (hI746.eraseH 0)))))))).cells.at 4 rfl) Tryd.isAgg3 rfl (Reg.take rfl rfl (s_eql rfl rfl rfl (s_pkT rfl rfl rfl (Reg.nil ?_)))))))))))
       obtain rfl := Option.some.inj h751
       refine ⟨rfl, decide (z727.about = x562.about), ⟨rfl, rfl⟩, Sub.cons rfl (Sub.cons rfl (Sub.cons rfl (sb12 rfl rfl rfl rfl rfl rfl rfl rfl rfl rfl rfl rfl)))⟩
      replace h751 := cdF hg756 h751
      iterate 5 refine Reg.pass rfl rfl rfl rfl ?_
      refine s_pkF rfl rfl rfl (Reg.nil ?_)
      obtain rfl := Option.some.inj h751
      refine ⟨rfl, false, ⟨rfl, rfl⟩, Sub.cons rfl (Sub.cons rfl (Sub.cons rfl (sb12 rfl rfl rfl rfl rfl rfl rfl rfl rfl rfl rfl rfl)))⟩
     rintro x752 _ ⟨rfl, rfl⟩
     refine cw_cond rfl (fun hc757 => ?_) (fun hc757 => ?_)
     ·replace h712 := cdT hc757 h712
      refine cw_exit (exB_same ?_)
      obtain rfl := Option.some.inj h712
      refine ⟨rfl, (x698, x700, v699), ⟨hI748, ((Adv.of_ext e731).trans (x744.trans (x747.trans (hI746.eraseH 0)))), r701, rfl⟩, sb12 rfl rfl rfl rfl rfl rfl rfl rfl rfl rfl rfl rfl⟩
     replace h712 := cdF hc757 h712
     refine cw_skip (cw_seq (cw_seq (cw_regF (s_mv rfl rfl (s_mv rfl rfl ?_)))))
     obtain ⟨⟨z758, z759⟩, hz760, h712⟩ := bnd h712
     refine s_call rfl Tryd.call33 rfl ((C_law03_find (hI748.sel [1, 2, 3] rfl).mlt (hI748.lendRd [1, 2, 3] 0 rfl rfl) r701 hz760).mono ?_)
     rintro _ w761 ⟨rfl, r763, r764, r765, r766, r767, r768, r769, r770, e762⟩
     refine ⟨_, rfl, ?_⟩
     have hI771 := hI748.ext e762
     refine s_mv rfl rfl (s_xt rfl rfl rfl (s_xt rfl rfl rfl (y_al hI771 Tryd.zeroValue61 rfl rfl ?_)))
     intro b772 w773 hI774 x775
     refine y_st 0 hI774 rfl rfl rfl rfl Tryd.sizeOf61 rfl rfl (on8 rfl rfl rfl rfl rfl rfl rfl rfl) ?_
     intro w776 hI777 x778
     have hC780 := hI777.freezeRow 0 rfl
     have hI779 := hI777.erase 0
     refine s_as rfl rfl (Reg.nil ?_)
     obtain ⟨j781, h782, h712⟩ := bnd h712
     refine cw_sub (L := [(35, _), (40, _), (41, _), (1, _), (2, _), (3, _), (13, _), (16, _), (20, _), (32, _), (34, _), (37, _), (38, _), (318, _), (319, _), (320, _)]) (Sub.cons rfl (Sub.cons rfl (Sub.cons rfl (Sub.cons rfl (sb12 rfl rfl rfl rfl rfl rfl rfl rfl rfl rfl rfl rfl))))) (cw_unitD 3 (ι := Int) (fun x783 => [(35, vi x783)]) (fun x783 => fun w785 => Hp w [] M [ownR [] ReportE 61 v699 x698, rowR 61 b308 [vi x315, vi x317, vi x319, vi x321, vi x323, vu x325, vi x327, vi x329], ownR [] ToldE 38 v94 z89, ownR [] ReportE 61 v77 z72] w785 ∧ Adv (mm [ownR [] ReportE 61 v699 x698, rowR 61 b308 [vi x315, vi x317, vi x319, vi x321, vi x323, vu x325, vi x327, vi x329], ownR [] ToldE 38 v94 z89, ownR [] ReportE 61 v77 z72] M) (mm [ownR [] ReportE 61 v699 x698, rowR 61 b308 [vi x315, vi x317, vi x319, vi x321, vi x323, vu x325, vi x327, vi x329], ownR [] ToldE 38 v94 z89, ownR [] ReportE 61 v77 z72] M) w776 w785 ∧ InK .i64 x783 ∧ x783 = j781) ?_ ?_)
     ·refine cw_block (cw_sub (L := [(35, _), (40, _), (41, _), (1, _), (2, _), (3, _), (13, _), (16, _), (20, _), (32, _), (34, _), (37, _), (38, _), (318, _), (319, _), (320, _)]) (Sub.cons rfl (Sub.cons rfl (Sub.cons rfl (Sub.cons rfl (sb12 rfl rfl rfl rfl rfl rfl rfl rfl rfl rfl rfl rfl))))) (cw_loopM 3 (ι := Int × Report × Bool × Nat) _ (fun ⟨x788, x790, x801, b799⟩ => [(35, vi x788), (40, vp b799 0), (41, Value.bool x801)]) (fun ⟨x788, x790, x801, b799⟩ => (x788, x790, x801)) (fun ⟨x788, x790, x801, b799⟩ => fun w802 => Hp w [] M [ownR [] ReportE 61 v699 x698, rowR 61 b308 [vi x315, vi x317, vi x319, vi x321, vi x323, vu x325, vi x327, vi x329], ownR [] ToldE 38 v94 z89, ownR [] ReportE 61 v77 z72] w802 ∧ Adv (mm [ownR [] ReportE 61 v699 x698, rowR 61 b308 [vi x315, vi x317, vi x319, vi x321, vi x323, vu x325, vi x327, vi x329], ownR [] ToldE 38 v94 z89, ownR [] ReportE 61 v77 z72] M) (mm [ownR [] ReportE 61 v699 x698, rowR 61 b308 [vi x315, vi x317, vi x319, vi x321, vi x323, vu x325, vi x327, vi x329], ownR [] ToldE 38 v94 z89, ownR [] ReportE 61 v77 z72] M) w776 w802 ∧ InK .i64 x788 ∧ InK .i64 x790.id ∧ InK .i64 x790.source ∧ InK .i64 x790.account ∧ InK .i64 x790.made ∧ InK .i64 x790.about ∧ InK .u8 x790.kind ∧ InK .i64 x790.cents ∧ InK .i64 x790.of_ ∧ RdC (mm [ownR [] ReportE 61 v699 x698, rowR 61 b308 [vi x315, vi x317, vi x319, vi x321, vi x323, vu x325, vi x327, vi x329], ownR [] ToldE 38 v94 z89, ownR [] ReportE 61 v77 z72] M) w802 b799 0 (vR x790)) (x700, (Report.mk z758.id z758.source z758.account z758.made z758.about z758.kind z758.cents z758.of_), z759, b772) h782 ⟨hI779, (Adv.refl _ _), r701, r763, r764, r765, r766, r767, r768, r769, r770, hC780⟩ (Sub.cons rfl (Sub.cons rfl (Sub.cons rfl (Sub.cons rfl (sb12 rfl rfl rfl rfl rfl rfl rfl rfl rfl rfl rfl rfl))))) ?_))
      rintro ⟨x788, x790, x801, b799⟩ w802 ⟨hI803, hA804, r789, r791, r792, r793, r794, r795, r796, r797, r798, hC800⟩ y805 h806 hR807
      refine cw_seq (cw_seq (cw_regF (s_mv rfl rfl (Reg.nil (cw_cond rfl (fun hc808 => ?_) (fun hc808 => ?_))))))
      ·replace h806 := cdT hc808 h806
       refine cw_skip (cw_seq (cw_block (cw_regF (s_mv rfl rfl ?_))))
       obtain ⟨n809, hn809, h806⟩ := bnd h806
       replace hn809 := chk_out hn809
       refine p_add rfl rfl rfl hn809 (s_as rfl rfl (Reg.nil (cw_seq (cw_seq (cw_regF (s_lda rfl hC800.cells Tryd.isAgg61 rfl Tryd.sizeOf61 rfl (Reg.nil (cw_regF (y_al hI803 Tryd.zeroValue61 rfl rfl ?_)))))))))
       intro b810 w811 hI812 x813
       refine y_st 0 hI812 rfl rfl rfl rfl Tryd.sizeOf61 rfl rfl (on8 rfl rfl rfl rfl rfl rfl rfl rfl) ?_
       intro w814 hI815 x816
       have hC818 := hI815.freezeRow 0 rfl
       have hI817 := hI815.erase 0
       refine Reg.nil (cw_regF (s_mv rfl rfl (s_mv rfl rfl ?_)))
       obtain ⟨⟨z819, z820⟩, hz821, h806⟩ := bnd h806
       refine s_call rfl Tryd.call33 rfl ((C_law03_find (hI817.sel [1, 2, 3] rfl).mlt (hI817.lendRd [1, 2, 3] 0 rfl rfl) hn809.2 hz821).mono ?_)
       rintro _ w822 ⟨rfl, r824, r825, r826, r827, r828, r829, r830, r831, e823⟩
       refine ⟨_, rfl, ?_⟩
       have hI832 := hI817.ext e823
       refine s_mv rfl rfl (s_xt rfl rfl rfl (s_xt rfl rfl rfl (s_as rfl rfl (Reg.nil ?_))))
       obtain rfl := Option.some.inj h806
       refine ⟨rfl, (n809, (Report.mk x790.id x790.source x790.account x790.made x790.about x790.kind x790.cents x790.of_), z820, b810), ⟨⟨hI832, (hA804.trans (x813.trans (x816.trans ((hI815.eraseH 0).trans (Adv.of_ext e823))))), hn809.2, r791, r792, r793, r794, r795, r796, r797, r798, (hC818.adv (Adv.of_ext e823))⟩, rfl⟩, Sub.cons rfl (Sub.cons rfl (Sub.cons rfl (Sub.cons rfl (sb12 rfl rfl rfl rfl rfl rfl rfl rfl rfl rfl rfl rfl))))⟩
      replace h806 := cdF hc808 h806
      refine cw_exit (exB_same ?_)
      obtain rfl := Option.some.inj h806
      obtain rfl := hR807 _ rfl
      refine ⟨rfl, x788, ⟨hI803, hA804, r789, rfl⟩, Sub.cons rfl (Sub.cons rfl (sb12 rfl rfl rfl rfl rfl rfl rfl rfl rfl rfl rfl rfl))⟩
     rintro x783 w785 ⟨hI786, hA787, r784, rfl⟩
     refine cw_regF (s_mv rfl rfl (s_mv rfl rfl (s_fa rfl Tryd.underlying61 rfl Tryd.sizeOf3 rfl (s_ld rfl ((hC749.adv ((Adv.of_ext e762).trans (x775.trans (x778.trans ((hI777.eraseH 0).trans hA787))))).cells.at 1 rfl) Tryd.isAgg3 rfl ?_))))
     iterate 3 refine s_mv rfl rfl ?_
     refine s_bd [(0, 1), (1, 1), (2, 1), (3, 1), (4, 1), (5, 1), (6, 1), (7, 1)] Tryd.zeroValue61 rfl Tryd.underlying61 (fun _ => by simp [Tryd.sizeOf3, Tryd.sizeOf5]) rfl (Cls.cons rfl (Cls.cons rfl (Cls.cons rfl (Cls.cons rfl (Cls.cons rfl (Cls.cons rfl (Cls.nil))))))) rfl rfl ?_
     refine y_bs (E := ReportE) (xs := [(Report.mk x783 z727.source id known 0 9 0 y720)]) sl22 hI786 rfl rfl (Cls.cons rfl Cls.nil) (Chs.cons ((ReportE_R (x := (Report.mk x783 z727.source id known 0 9 0 y720))).2 ⟨rfl, r784, r733, f_id_0, f_known_0, (show InK .i64 0 by decide), (show InK .u8 9 by decide), (show InK .i64 0 by decide), r726⟩) Chs.nil) rfl rfl ?_
     intro v833 w834 hI835 x836
     have hf837 := hI835.freeze 0 rfl
     have hI838 := hI835.erase 0
     obtain ⟨l839, hl839, h712⟩ := bnd h712
     obtain ⟨hbl839, el839⟩ := appo_out hl839
     refine y_app 0 sl22 hI838 rfl rfl rfl hf837 hbl839 rfl ?_
     rw [← el839]
     intro v840 w841 hI842 x843
     refine s_as rfl rfl (Reg.nil ?_)
     obtain rfl := Option.some.inj h712
     refine ⟨rfl, (l839, x783, v840), ⟨hI842, ((Adv.of_ext e731).trans (x744.trans (x747.trans ((hI746.eraseH 0).trans ((Adv.of_ext e762).trans (x775.trans (x778.trans ((hI777.eraseH 0).trans (hA787.trans (x836.trans ((hI835.eraseH 0).trans x843))))))))))), r784, rfl⟩, sb12 rfl rfl rfl rfl rfl rfl rfl rfl rfl rfl rfl rfl⟩
    rintro ⟨x713, x715, v714⟩ w717 ⟨hI718, hA719, r716, rfl⟩
    refine cw_regF ?_
    obtain ⟨n844, hn844, h708⟩ := bnd h708
    replace hn844 := chk_out hn844
    refine p_add rfl rfl rfl hn844 (s_mv rfl rfl (Reg.nil ?_))
    obtain rfl := Option.some.inj h708
    refine ⟨rfl, (x713, x715, n844, v714), ⟨⟨hI718, (hA706.trans hA719), r716, hn844.2⟩, rfl⟩, sb12 rfl rfl rfl rfl rfl rfl rfl rfl rfl rfl rfl rfl⟩
   replace h708 := cdF hc710 h708
   refine cw_exit (exB_same ?_)
   obtain rfl := Option.some.inj h708
   obtain rfl := hR709 _ rfl
   refine ⟨rfl, (x698, v699), ⟨hI705, hA706, rfl⟩, sb7 rfl rfl rfl rfl rfl rfl rfl⟩
  rintro ⟨x693, v694⟩ w695 ⟨hI696, hA697, rfl⟩
  refine cw_seq (cw_seq (cw_regF (s_mv rfl rfl ?_)))
  obtain ⟨z845, hz846, h⟩ := bnd h
  refine s_call rfl Tryd.call18 rfl ((C_ref03_Check (hI696.sel [1, 2, 3] rfl).mlt (hI696.lendRd [1, 2, 3] 0 rfl rfl) hz846).mono ?_)
  rintro _ w847 ⟨rfl, r849, e848⟩
  refine ⟨_, rfl, ?_⟩
  have hI850 := hI696.ext e848
  refine s_neq rfl rfl rfl (Reg.nil (cw_cond rfl (fun hc851 => ?_) (fun hc851 => ?_)))
  ·replace h := cdT hc851 h
   refine cw_seq (cw_regF (s_mv rfl rfl (s_as rfl rfl (Reg.nil (cw_ret ?_)))))
   obtain rfl := Option.some.inj h
   refine fin1 Tryd.results8 rfl ?_
   exact ⟨rfl, hI850.kp⟩
  replace h := cdF hc851 h
  refine cw_skip (cw_seq (cw_regF ?_))
  iterate 4 refine s_mv rfl rfl ?_
  have hf852 := hI850.freeze 0 rfl
  have hI853 := hI850.erase 0
  obtain ⟨⟨z854, z855⟩, hz856, h⟩ := bnd h
  refine s_call rfl Tryd.call20 rfl ((C_account_State hI853.mlt (hG.adv hI853.adv) hf852 f_id_0 f_day_0 f_known_0 hz856).mono ?_)
  rintro _ w857 ⟨v862, v867, v872, v877, v882, v887, rfl, r859, r860, r861, hf863, r864, r865, r866, hf868, r869, r870, r871, hf873, r874, r875, r876, hf878, r879, r880, r881, hf883, r884, r885, r886, hf888, r889, r890, r891, r892, e858⟩
  refine ⟨_, rfl, ?_⟩
  have hI893 := hI853.ext e858
  refine s_mv rfl rfl (s_xt rfl rfl rfl (s_xt rfl rfl rfl (y_al hI893 Tryd.zeroValue42 rfl rfl ?_)))
  intro b894 w895 hI896 x897
  refine y_st 0 hI896 rfl rfl rfl rfl Tryd.sizeOf42 rfl rfl (one1 rfl (one1 rfl (one1 rfl (one1 (RdS.oneC hf863) (one1 rfl (one1 rfl (one1 rfl (one1 (RdS.oneC hf868) (one1 rfl (one1 rfl (one1 rfl (one1 (RdS.oneC hf873) (one1 rfl (one1 rfl (one1 rfl (one1 (RdS.oneC hf878) (one1 rfl (one1 rfl (one1 rfl (one1 (RdS.oneC hf883) (one1 rfl (one1 rfl (one1 rfl (one1 (RdS.oneC hf888) (on3 rfl rfl rfl))))))))))))))))))))))))) ?_
  intro w898 hI899 x900
  have hC902 := hI899.freezeRow 0 rfl
  have hI901 := hI899.erase 0
  refine s_as rfl rfl (Reg.nil (cw_seq (cw_seq (cw_regF (s_mv rfl rfl (s_neq rfl rfl rfl (Reg.nil (cw_cond rfl (fun hc903 => ?_) (fun hc903 => ?_)))))))))
  ·replace h := cdT hc903 h
   refine cw_seq (cw_regF (s_as rfl rfl (Reg.nil (cw_ret ?_))))
   obtain rfl := Option.some.inj h
   refine fin1 Tryd.results8 rfl ?_
   exact ⟨rfl, hI901.kp⟩
  replace h := cdF hc903 h
  refine cw_skip (cw_seq (cw_regF (s_lda rfl hC902.cells Tryd.isAgg42 rfl Tryd.sizeOf42 rfl ?_)))
  obtain ⟨⟨z904, z905⟩, hz906, h⟩ := bnd h
  refine s_call rfl Tryd.call32 rfl ((C_law03_things (s := (State.mk (Told.mk z854.opened.known z854.opened.cents z854.opened.since z854.opened.by_) (Told.mk z854.limit.known z854.limit.cents z854.limit.since z854.limit.by_) (Told.mk z854.owed.known z854.owed.cents z854.owed.since z854.owed.by_) (Told.mk z854.late.known z854.late.cents z854.late.since z854.late.by_) (Told.mk z854.default.known z854.default.cents z854.default.since z854.default.by_) (Told.mk z854.closed.known z854.closed.cents z854.closed.since z854.closed.by_) (Span.mk z854.paid.lo z854.paid.hi) z854.is_)) hI901.mlt r859 r860 r861 (hf863.adv (x897.trans (x900.trans (hI899.eraseH 0)))) r864 r865 r866 (hf868.adv (x897.trans (x900.trans (hI899.eraseH 0)))) r869 r870 r871 (hf873.adv (x897.trans (x900.trans (hI899.eraseH 0)))) r874 r875 r876 (hf878.adv (x897.trans (x900.trans (hI899.eraseH 0)))) r879 r880 r881 (hf883.adv (x897.trans (x900.trans (hI899.eraseH 0)))) r884 r885 r886 (hf888.adv (x897.trans (x900.trans (hI899.eraseH 0)))) r889 r890 r891 hz906).mono ?_)
  rintro _ w907 ⟨v909, v911, rfl, hf910, hf912, e908⟩
  refine ⟨_, rfl, ?_⟩
  have hI913 := hI901.addOwn e908 hf910
  refine s_mv rfl rfl (s_xt rfl rfl rfl (s_xt rfl rfl rfl (s_as rfl rfl (s_as rfl rfl (Reg.nil ?_)))))
  obtain ⟨j914, h915, h⟩ := bnd h
  refine cw_keep [13, 20, 32, 44] rfl (cw_seqD 4 (ι := Bool) (fun x916 => [(12, Value.bool x916)]) (fun x916 => fun w917 => Hp w [] M [ownR [] ToldE 38 v909 z904, rowR 61 b308 [vi x315, vi x317, vi x319, vi x321, vi x323, vu x325, vi x327, vi x329], ownR [] ToldE 38 v94 z89, ownR [] ReportE 61 v77 z72] w917 ∧ Adv (mm [ownR [] ToldE 38 v909 z904, rowR 61 b308 [vi x315, vi x317, vi x319, vi x321, vi x323, vu x325, vi x327, vi x329], ownR [] ToldE 38 v94 z89, ownR [] ReportE 61 v77 z72] M) (mm [ownR [] ToldE 38 v909 z904, rowR 61 b308 [vi x315, vi x317, vi x319, vi x321, vi x323, vu x325, vi x327, vi x329], ownR [] ToldE 38 v94 z89, ownR [] ReportE 61 v77 z72] M) w907 w917 ∧ x916 = j914) ?_ ?_)
  ·refine cw_regT fol (by kernel_rfl) ?_
   refine s_mv rfl rfl (s_mv rfl rfl (Reg.gsplit (t := 389) rfl (fun hg920 => ?_) (fun hg920 => ?_)))
   ·replace h915 := cdT hg920 h915
    refine Reg.take rfl rfl (s_mv rfl rfl (Reg.take rfl rfl (s_mv rfl rfl (Reg.take rfl rfl ?_))))
    obtain ⟨y921, hy921, h915⟩ := bnd h915
    refine y_ia 0 hI913 rfl rfl rfl hy921 Tryd.underlying70 Tryd.sizeOf38 rfl ?_
    intro g922 cs923 hg924 hR925 hC926
    have khR925 := hR925
    obtain ⟨v930, rfl, r927, r928, r929, hf931⟩ := ToldE_R.1 hR925
    refine Reg.take rfl rfl (s_fa rfl Tryd.underlying38 rfl Tryd.sizeOf5 rfl (Reg.take rfl rfl (s_ld rfl (hC926.at 0 rfl) Tryd.isAgg5 rfl (Reg.take rfl rfl (s_eql rfl rfl rfl (s_pkT rfl rfl rfl (s_mv rfl rfl (Reg.gsplit (t := 397) rfl (fun hg932 => ?_) (fun hg932 => ?_)))))))))
    ·replace h915 := cdT hg932 h915
     refine Reg.take rfl rfl (s_mv rfl rfl (Reg.take rfl rfl (s_mv rfl rfl (Reg.take rfl rfl ?_))))
     obtain ⟨y933, hy933, h915⟩ := bnd h915
     refine y_ia 0 hI913 rfl rfl rfl hy933 Tryd.underlying70 Tryd.sizeOf38 rfl ?_
     intro g934 cs935 hg936 hR937 hC938
     have khR937 := hR937
     obtain ⟨v942, rfl, r939, r940, r941, hf943⟩ := ToldE_R.1 hR937
     refine Reg.take rfl rfl (s_fa rfl Tryd.underlying38 rfl Tryd.sizeOf3 rfl (Reg.take rfl rfl (s_ld rfl (hC938.at 1 rfl) Tryd.isAgg3 rfl (Reg.take rfl rfl (s_fa rfl Tryd.underlying61 rfl Tryd.sizeOf3 rfl (Reg.take rfl rfl (s_ld rfl ((hC572.adv (x685.trans (x690.trans (hA697.trans ((Adv.of_ext e848).trans ((hI850.eraseH 0).trans ((Adv.of_ext e858).trans (x897.trans (x900.trans ((hI899.eraseH 0).trans (hI901.addOwnA e908 hf910))))))))))).cells.at 6 rfl) Tryd.isAgg3 rfl (Reg.take rfl rfl (s_eql rfl rfl rfl (s_pkT rfl rfl rfl (s_mv rfl rfl ?_)))))))))))
     refine Reg.gsplit (t := 407) rfl (fun hg944 => ?_) (fun hg944 => ?_)
     ·replace h915 := cdT hg944 h915
      refine Reg.take rfl rfl (s_mv rfl rfl (Reg.take rfl rfl (s_mv rfl rfl (Reg.take rfl rfl ?_))))
      obtain ⟨y945, hy945, h915⟩ := bnd h915
      refine y_ia 0 hI913 rfl rfl rfl hy945 Tryd.underlying70 Tryd.sizeOf38 rfl ?_
      intro g946 cs947 hg948 hR949 hC950
      have khR949 := hR949
      obtain ⟨v954, rfl, r951, r952, r953, hf955⟩ := ToldE_R.1 hR949
      refine Reg.take rfl rfl (s_fa rfl Tryd.underlying38 rfl Tryd.sizeOf3 rfl (Reg.take rfl rfl (s_ld rfl (hC950.at 2 rfl) Tryd.isAgg3 rfl (Reg.take rfl rfl (s_fa rfl Tryd.underlying61 rfl Tryd.sizeOf3 rfl (Reg.take rfl rfl (s_ld rfl ((hC572.adv (x685.trans (x690.trans (hA697.trans ((Adv.of_ext e848).trans ((hI850.eraseH 0).trans ((Adv.of_ext e858).trans (x897.trans (x900.trans ((hI899.eraseH 0).trans (hI901.addOwnA e908 hf910))))))))))).cells.at 4 rfl) Tryd.isAgg3 rfl (Reg.take rfl rfl (s_eql rfl rfl rfl (s_pkT rfl rfl rfl (s_as rfl rfl ?_)))))))))))
      refine Reg.nilq (fun w956 e957 => ?_)
      have hI958 := hI913.ext e957
      obtain rfl := Option.some.inj h915
      refine ⟨rfl, decide (y945.since = x562.about), ⟨hI958, (Adv.of_ext e957), rfl⟩, sb1 rfl⟩
     replace h915 := cdF hg944 h915
     iterate 8 refine Reg.pass rfl rfl rfl rfl ?_
     refine s_pkF rfl rfl rfl (s_as rfl rfl (Reg.nilq (fun w959 e960 => ?_)))
     have hI961 := hI913.ext e960
     obtain rfl := Option.some.inj h915
     refine ⟨rfl, false, ⟨hI961, (Adv.of_ext e960), rfl⟩, sb1 rfl⟩
    replace h915 := cdF hg932 h915
    iterate 8 refine Reg.pass rfl rfl rfl rfl ?_
    refine s_pkF rfl rfl rfl (s_mv rfl rfl ?_)
    iterate 8 refine Reg.pass rfl rfl rfl rfl ?_
    refine s_pkF rfl rfl rfl (s_as rfl rfl (Reg.nilq (fun w962 e963 => ?_)))
    have hI964 := hI913.ext e963
    obtain rfl := Option.some.inj h915
    refine ⟨rfl, false, ⟨hI964, (Adv.of_ext e963), rfl⟩, sb1 rfl⟩
   replace h915 := cdF hg920 h915
   iterate 6 refine Reg.pass rfl rfl rfl rfl ?_
   refine s_pkF rfl rfl rfl (s_mv rfl rfl ?_)
   iterate 8 refine Reg.pass rfl rfl rfl rfl ?_
   refine s_pkF rfl rfl rfl (s_mv rfl rfl ?_)
   iterate 8 refine Reg.pass rfl rfl rfl rfl ?_
   refine s_pkF rfl rfl rfl (s_as rfl rfl (Reg.nilq (fun w965 e966 => ?_)))
   have hI967 := hI913.ext e966
   obtain rfl := Option.some.inj h915
   refine ⟨rfl, false, ⟨hI967, (Adv.of_ext e966), rfl⟩, sb1 rfl⟩
  rintro x916 w917 ⟨hI918, hA919, rfl⟩
  refine cw_ret ?_
  obtain rfl := Option.some.inj h
  refine fin1 Tryd.results8 rfl ?_
  exact ⟨rfl, hI918.kp⟩
 replace h := cdF hc551 h
 refine cw_seq (cw_regF (s_as rfl rfl (Reg.nil (cw_ret ?_))))
 obtain rfl := Option.some.inj h
 refine fin1 Tryd.results8 rfl ?_
 exact ⟨rfl, hI480.kp⟩
end Go.Proofs.YtepjkmoipjeghaaDoor
namespace Go.Proofs.YtepjkmoipjeghaaDoor
open Go Go.Sx
namespace S
def kinds : List Int := [1, 2, 3, 5, 6, 7]
theorem th_st (G : List Report) : P.law03_things (stF G) = some (kinds.map (tk G), kinds) := by
  show some _ = some _
  simp [tk, stF, kinds]
theorem sid_lt {Y : List Report} (nd : (Y.map (·.id)).Nodup) {n : Nat} (h : n + 1 < (sid Y).length) : (sid Y)[n]'(by omega) < (sid Y)[n + 1] := by
  have h1 := List.pairwise_iff_getElem.1 (sid_sorted Y) n (n + 1) (by omega) h (by omega)
  have hn : (sid Y).Nodup := (sid_perm Y).nodup_iff.2 nd
  have h2 := List.pairwise_iff_getElem.1 hn n (n + 1) (by omega) h (by omega)
  omega
theorem sid_mem {Y : List Report} {k : Int} : k ∈ sid Y ↔ ∃ y ∈ Y, y.id = k := by
  rw [(sid_perm Y).mem_iff, List.mem_map]
section
variable {F Y : List Report} (hF : FO F) (hY : ∀ y ∈ Y, y ∈ F)
include hF hY
theorem r_findY {k : Int} (hk : k ∈ sid Y) {Q : Report × Bool → Prop} (h : ∀ r ∈ Y, r.id = k → Q (r, true)) : Ret (P.law03_find F k) Q := by
  obtain ⟨y, hy, e⟩ := sid_mem.1 hk
  have := hF.len
  refine r_find (by omega) (fun r hr he => ?_) fun hn => absurd e (hn y (hY y hy))
  have : y = r := ids_one hF.nd (hY y hy) hr (by rw [e, he])
  subst this
  exact h y hy he
end
theorem p_AccountSources {l : List Report} (hin : ∀ r ∈ l, InR r) {id day known : Int} (_ : InK .i64 id) (_ : InK .i64 day) (_ : InK .i64 known) {which keep : Int} (hwh : InK .u8 which) (hkp : InK .u8 keep) : P.law03_AccountSources l id day known which keep = some true := by
  rw [InK.u8] at hwh hkp
  apply Ret.yes
  unfold P.law03_AccountSources
  refine Ret.bind (Ret.val alive_is (Ret.bind (Ret.bind (r_ready hin (by simp) (Ret.condT rfl (Ret.ok (Ret.condT rfl (Ret.ok rfl)))) fun c hid hd => Ret.condF rfl (Ret.ok (Ret.condF rfl ?_))))))
  have hl := (chk0 c).1
  have hv := (chk0 c).2.1
  have hknown := hd known (by simp)
  have bid : 0 ≤ id ∧ id ≤ 999999 := by simpa [inB] using hid
  have bkn : 0 ≤ known ∧ known ≤ 100000 := by simpa [inB] using hknown
  refine Ret.bind (r_State1 hin c (in3 hid hd) fun F hF => Ret.bind (r_Standing1 hin c hknown fun F' hF' => ?_))
  obtain rfl := hF'.uniq hF fun _ => Iff.rfl
  have hFd := hF
  obtain ⟨K, hk, hpK, hsK⟩ := hFd
  have fo := hF.fo
  have hFlen := fo.len
  dsimp only
  refine Ret.bind (Ret.condF rfl (Ret.ok (Ret.condF rfl ?_)))
  have fG : FO (F'.filter (ofA id day)) := fo.filter _
  have memG : ∀ r, r ∈ F'.filter (ofA id day) ↔ r ∈ F' ∧ r.account = id ∧ r.about ≤ day := fun r => by
    rw [List.mem_filter]; unfold ofA; simp
  refine Ret.bind (Ret.val (th_st (F'.filter (ofA id day))) ?_)
  dsimp only
  rw [show ((kinds.map (tk (F'.filter (ofA id day)))).length : Int) = 6 from rfl]
  refine Ret.bind (Ret.chk (by omega) (Ret.bind (Ret.remO (by omega) (by decide) ?_)))
  have q0 : 0 ≤ which % 6 := Int.emod_nonneg _ (by decide)
  have q1 : which % 6 < 6 := Int.emod_lt_of_pos _ (by decide)
  obtain ⟨i, hi⟩ : ∃ i : Nat, which % 6 = i := ⟨_, (Int.toNat_of_nonneg q0).symm⟩
  rw [hi] at q1 ⊢
  have hi6 : i < kinds.length := by show i < 6; omega
  obtain ⟨kd, hkd⟩ : ∃ kd, kinds[i]? = some kd := ⟨_, List.getElem?_eq_getElem hi6⟩
  have at_ : ∀ G, (kinds.map (tk G))[i]? = some (tk G kd) := fun G => by rw [List.getElem?_map, hkd]; rfl
  refine Ret.bind (Ret.bind (Ret.ixo (at_ _) (Ret.bind (Ret.ixo hkd (Ret.ok ?_)))))
  dsimp only
  obtain ⟨Y, hT⟩ := tells fG kd
  refine Ret.bind (Ret.mono (Q := fun b => b = decide (kd = 1 ∨ kd = 6 ∨ kd = 7)) (Ret.cond (fun h => Ret.ok (by simp [of_decide_eq_true h])) fun h1 => Ret.cond (fun h => Ret.ok (by simp [of_decide_eq_true h])) fun h2 => Ret.ok (by simp [of_decide_eq_false h1, of_decide_eq_false h2])) fun b hb => ?_)
  have tells2 : ∀ {G : List Report}, FO G → ∃ Y2, Tells b (fk G kd) (tk G kd) Y2 := fun hG => by rw [hb]; exact tells hG kd
  rw [← hb] at hT
  clear hb
  generalize tk (F'.filter (ofA id day)) kd = t at hT ⊢
  have memX : ∀ r, r ∈ fk (F'.filter (ofA id day)) kd ↔ r ∈ F' ∧ r.kind = kd ∧ r.account = id ∧ r.about ≤ day := fun r => by
    unfold fk; rw [List.mem_filter, memG, decide_eq_true_eq]; exact ⟨fun h => ⟨h.1.1, h.2, h.1.2⟩, fun h => ⟨⟨h.1, h.2.2⟩, h.2.1⟩⟩
  have hYX : ∀ y ∈ Y, y ∈ F' ∧ y.kind = kd ∧ y.account = id ∧ y.about ≤ day := fun y hy => (memX y).1 (hT.sub.subset hy)
  have hYF : ∀ y ∈ Y, y ∈ F' := fun y hy => (hYX y hy).1
  have fY : FO Y := (fG.filter _).sub hT.sub
  have hB := hT.by_
  have hBl : (sid Y).length = Y.length := sid_len Y
  have hYl := fY.len
  rw [hB]
  -- what tells it
  refine Ret.bind (Ret.mono (Q := fun j : (Bool × Int × Int × Int × Int × Int × Int × Int × Int) ⊕ Bool => ∃ df a1 a2 a3 a4 a5 a6 a7 a8, j = .inl (df, a1, a2, a3, a4, a5, a6, a7, a8) ∧ (Y ≠ [] → (⟨a1, a2, a3, a4, a5, a6, a7, a8⟩ : Report) ∈ Y ∧ (df = true ↔ ¬ Same Y))) (Ret.loop (fun t : Bool × Int × Int × Int × Int × Int × Int × Int × Int × Int => ∃ n : Nat, t.2.1 = n ∧ n ≤ (sid Y).length ∧ (n = 0 → t.1 = false) ∧ (0 < n → (⟨t.2.2.1, t.2.2.2.1, t.2.2.2.2.1, t.2.2.2.2.2.1, t.2.2.2.2.2.2.1, t.2.2.2.2.2.2.2.1, t.2.2.2.2.2.2.2.2.1, t.2.2.2.2.2.2.2.2.2⟩ : Report) ∈ Y ∧ (t.1 = true → ∃ b ∈ Y, ¬ (b.cents = t.2.2.2.2.2.2.2.2.1 ∧ b.about = t.2.2.2.2.2.2.1)) ∧ (t.1 = false → ∀ b ∈ Y, b.id ∈ (sid Y).take n → b.cents = t.2.2.2.2.2.2.2.2.1 ∧ b.about = t.2.2.2.2.2.2.1))) (fun t => (sid Y).length - t.2.1.toNat) ⟨0, rfl, Nat.zero_le _, fun _ => rfl, fun h => absurd h (by omega)⟩ ?_) fun j hj => ?_)
  · rintro ⟨df, _, a1, a2, a3, a4, a5, a6, a7, a8⟩ ⟨n, rfl, hn, h0, h1⟩
    dsimp only at h0 h1 ⊢
    refine Ret.cond (fun h => ?_) fun h => ?_
    · have hlt : n < (sid Y).length := by have := of_decide_eq_true h; omega
      refine Ret.bind (Ret.ixo (List.getElem?_eq_getElem hlt) (Ret.bind (r_findY fo hYF (List.getElem_mem hlt) fun r hr hre => ?_)))
      obtain ⟨g1, g2, g3, g4⟩ := hYX r hr
      have rise : Ret (cond (decide (0 < (n : Int))) (Option.bind (chk .i64 ((n : Int) - 1)) fun n195 => Option.bind (ixo (sid Y) n195) fun y196 => some (decide ((sid Y)[n] ≤ y196))) (some false)) fun b => b = false := by
        refine Ret.cond (fun h => ?_) fun _ => Ret.ok rfl
        obtain ⟨m, rfl⟩ : ∃ m : Nat, n = m + 1 := ⟨n - 1, by have := of_decide_eq_true h; omega⟩
        rw [show ((m + 1 : Nat) : Int) - 1 = (m : Int) by omega]
        refine Ret.bind (Ret.chk (by omega) (Ret.bind (Ret.ixo (List.getElem?_eq_getElem (show m < (sid Y).length by omega)) (Ret.ok (decide_eq_false ?_)))))
        have := sid_lt fY.nd hlt
        omega
      dsimp only
      have hfst := hT.first r hr
      refine Ret.bind (Ret.mono (Q := fun b => b = false) (Ret.condF rfl (Ret.condF (by simp [g2]) (Ret.condF (by simp [g3]) (Ret.condF (decide_eq_false (by omega)) (Ret.condF (decide_eq_false (by omega)) (Ret.cond (fun ho => Ret.condF ?_ rise) fun _ => rise)))))) fun x hx => ?_)
      · have ho : b = false := by simpa using ho
        have := ((hT.day ho r).1 hr).2
        simp [this]
      subst hx
      refine Ret.condF rfl ?_
      have fin : ∀ (e1 e2 e3 e4 e5 e6 e7 e8 : Int), (⟨e1, e2, e3, e4, e5, e6, e7, e8⟩ : Report) ∈ Y → (df = true → ∃ b ∈ Y, ¬ (b.cents = e7 ∧ b.about = e5)) → (df = false → ∀ b ∈ Y, b.id ∈ (sid Y).take n → b.cents = e7 ∧ b.about = e5) → Ret (Option.bind (cond df (some true) (cond (!decide (r.cents = e7)) (some true) (some (!decide (r.about = e5))))) fun x236 => Option.bind (chk .i64 ((n : Int) + 1)) fun n237 => some (Sum.inl (x236, n237, e1, e2, e3, e4, e5, e6, e7, e8) : (Bool × Int × Int × Int × Int × Int × Int × Int × Int × Int) ⊕ ((Bool × Int × Int × Int × Int × Int × Int × Int × Int) ⊕ Bool))) (Nxt (fun s' : Bool × Int × Int × Int × Int × Int × Int × Int × Int × Int => (∃ n : Nat, s'.2.1 = n ∧ n ≤ (sid Y).length ∧ (n = 0 → s'.1 = false) ∧ (0 < n → (⟨s'.2.2.1, s'.2.2.2.1, s'.2.2.2.2.1, s'.2.2.2.2.2.1, s'.2.2.2.2.2.2.1, s'.2.2.2.2.2.2.2.1, s'.2.2.2.2.2.2.2.2.1, s'.2.2.2.2.2.2.2.2.2⟩ : Report) ∈ Y ∧ (s'.1 = true → ∃ b ∈ Y, ¬ (b.cents = s'.2.2.2.2.2.2.2.2.1 ∧ b.about = s'.2.2.2.2.2.2.1)) ∧ (s'.1 = false → ∀ b ∈ Y, b.id ∈ (sid Y).take n → b.cents = s'.2.2.2.2.2.2.2.2.1 ∧ b.about = s'.2.2.2.2.2.2.1))) ∧ (sid Y).length - s'.2.1.toNat < (sid Y).length - (n : Int).toNat) fun j => ∃ df a1 a2 a3 a4 a5 a6 a7 a8, j = .inl (df, a1, a2, a3, a4, a5, a6, a7, a8) ∧ (Y ≠ [] → (⟨a1, a2, a3, a4, a5, a6, a7, a8⟩ : Report) ∈ Y ∧ (df = true ↔ ¬ Same Y))) := by
        intro e1 e2 e3 e4 e5 e6 e7 e8 k1 k2 k3
        have nextb : ∀ x : Bool, (x = true → ∃ b ∈ Y, ¬ (b.cents = e7 ∧ b.about = e5)) → (x = false → df = false ∧ r.cents = e7 ∧ r.about = e5) → _ := fun x y1 y2 => Ret.bind (o := chk .i64 ((n : Int) + 1)) (K := fun n237 => some (Sum.inl (x, n237, e1, e2, e3, e4, e5, e6, e7, e8) : (Bool × Int × Int × Int × Int × Int × Int × Int × Int × Int) ⊕ ((Bool × Int × Int × Int × Int × Int × Int × Int × Int) ⊕ Bool))) (Ret.chk (by omega) (Ret.next (A := fun s' : Bool × Int × Int × Int × Int × Int × Int × Int × Int × Int => (∃ n : Nat, s'.2.1 = n ∧ n ≤ (sid Y).length ∧ (n = 0 → s'.1 = false) ∧ (0 < n → (⟨s'.2.2.1, s'.2.2.2.1, s'.2.2.2.2.1, s'.2.2.2.2.2.1, s'.2.2.2.2.2.2.1, s'.2.2.2.2.2.2.2.1, s'.2.2.2.2.2.2.2.2.1, s'.2.2.2.2.2.2.2.2.2⟩ : Report) ∈ Y ∧ (s'.1 = true → ∃ b ∈ Y, ¬ (b.cents = s'.2.2.2.2.2.2.2.2.1 ∧ b.about = s'.2.2.2.2.2.2.1)) ∧ (s'.1 = false → ∀ b ∈ Y, b.id ∈ (sid Y).take n → b.cents = s'.2.2.2.2.2.2.2.2.1 ∧ b.about = s'.2.2.2.2.2.2.1))) ∧ (sid Y).length - s'.2.1.toNat < (sid Y).length - (n : Int).toNat) (Q := fun j : (Bool × Int × Int × Int × Int × Int × Int × Int × Int) ⊕ Bool => ∃ df a1 a2 a3 a4 a5 a6 a7 a8, j = .inl (df, a1, a2, a3, a4, a5, a6, a7, a8) ∧ (Y ≠ [] → (⟨a1, a2, a3, a4, a5, a6, a7, a8⟩ : Report) ∈ Y ∧ (df = true ↔ ¬ Same Y))) ⟨⟨n + 1, by dsimp only; omega, hlt, fun h => absurd h (by omega), fun _ => ⟨k1, y1, fun hx b hb hbt => by
            obtain ⟨z1, z2, z3⟩ := y2 hx
            rw [take_mem' hlt] at hbt
            rcases hbt with hbt | hbt
            · exact k3 z1 b hb hbt
            · obtain rfl : b = r := ids_one fY.nd hb hr (by rw [hbt, hre])
              exact ⟨z2, z3⟩⟩⟩, by dsimp only; omega⟩))
        refine Ret.bind (Ret.cond (fun hdf => Ret.ok (nextb true (fun _ => k2 hdf) fun h => by cases h)) fun hdf => Ret.cond (fun hc => Ret.ok (nextb true (fun _ => ⟨r, hr, fun h => by simp [h.1] at hc⟩) fun h => by cases h)) fun hc => Ret.ok ?_)
        have hc2 : r.cents = e7 := by simpa using hc
        cases hab : decide (r.about = e5) with
        | true => exact nextb false (fun h => by cases h) fun _ => ⟨hdf, hc2, of_decide_eq_true hab⟩
        | false => exact nextb true (fun _ => ⟨r, hr, fun h2 => of_decide_eq_false hab h2.2⟩) fun h => by cases h
      refine Ret.bind (Ret.bind (Ret.cond (fun hz => Ret.ok (Ret.ok ?_)) fun hz => Ret.ok (Ret.ok ?_)))
      · have hz : n = 0 := by have := of_decide_eq_true hz; omega
        subst hz
        exact fin _ _ _ _ _ _ _ _ hr (fun h => by rw [h0 rfl] at h; cases h) fun _ b _ hb => by simp at hb
      · have hz : 0 < n := by have := of_decide_eq_false hz; omega
        obtain ⟨k1, k2, k3⟩ := h1 hz
        exact fin _ _ _ _ _ _ _ _ k1 k2 k3
    · have hge : n = (sid Y).length := by have := of_decide_eq_false h; omega
      refine Ret.done ⟨_, _, _, _, _, _, _, _, _, rfl, fun hne => ?_⟩
      have hpos : 0 < n := by rw [hge, hBl]; exact List.length_pos_iff.2 hne
      obtain ⟨k1, k2, k3⟩ := h1 hpos
      refine ⟨k1, fun h hs => ?_, fun h => ?_⟩
      · obtain ⟨z, hz, hn⟩ := k2 h
        exact hn (hs z hz _ k1)
      · cases hdf : df with
        | true => rfl
        | false =>
          refine absurd (fun x hx y hy => ?_) h
          have e : ∀ x ∈ Y, x.cents = a7 ∧ x.about = a5 := fun x hx => k3 hdf x hx (by rw [hge, List.take_length]; exact sid_mem.2 ⟨x, hx, rfl⟩)
          have := e x hx
          have := e y hy
          omega
  obtain ⟨df, a1, a2, a3, a4, a5, a6, a7, a8, rfl, hfst⟩ := hj
  refine Ret.elimL ?_
  dsimp only
  -- none that stands is left out
  refine Ret.bind (Ret.mono (Q := fun j : Unit ⊕ Bool => j = .inl ()) (Ret.loop (fun t : Int => ∃ n : Nat, t = n ∧ n ≤ F'.length) (fun t => F'.length - t.toNat) ⟨0, rfl, Nat.zero_le _⟩ ?_) fun j hj => ?_)
  · rintro _ ⟨n, rfl, hn⟩
    refine Ret.cond (fun h => ?_) fun h => Ret.done rfl
    have hlt : n < F'.length := by have := of_decide_eq_true h; omega
    refine Ret.bind (Ret.ixo (List.getElem?_eq_getElem hlt) (Ret.bind (Ret.mono (Q := fun b => b = false) ?_ fun x hx => ?_)))
    · refine Ret.cond (fun h1 => Ret.cond (fun h2 => Ret.cond (fun h3 => ?_) fun _ => Ret.ok rfl) fun _ => Ret.ok rfl) fun _ => Ret.ok rfl
      have hX : F'[n] ∈ fk (F'.filter (ofA id day)) kd := (memX _).2 ⟨List.getElem_mem hlt, of_decide_eq_true h1, of_decide_eq_true h2, of_decide_eq_true h3⟩
      have hne := hT.ne (List.ne_nil_of_mem hX)
      have hpos := List.length_pos_iff.2 hne
      refine Ret.condF (decide_eq_false (by omega)) (Ret.cond (fun ho => ?_) fun ho => ?_)
      · have ho : b = false := by simpa using ho
        have := hT.last ho _ hX
        exact Ret.condF (decide_eq_false (by omega)) (Ret.cond (fun _ => Ret.ok ho) fun _ => Ret.ok rfl)
      · have ho : b = true := by simpa using ho
        have := hT.first F'[n] (by rw [hT.all ho]; exact hX)
        exact Ret.condF (decide_eq_false (by omega)) (Ret.ok rfl)
    · subst hx
      exact Ret.condF rfl (Ret.bind (Ret.chk (by omega) (Ret.next ⟨⟨n + 1, by omega, by omega⟩, by omega⟩)))
  subst hj
  refine Ret.elimL ?_
  by_cases hY0 : Y = []
  · have ht := hT.no hY0
    rw [ht, hY0]
    refine Ret.condT rfl (Ret.bind (Ret.condT rfl (Ret.condT (by simp [sid]) (Ret.condT rfl (Ret.ok (Ret.ok rfl))))))
  obtain ⟨hm, hdf⟩ := hfst hY0
  have hpos := List.length_pos_iff.2 hY0
  by_cases hS : Same Y
  · obtain ⟨y1, y2⟩ := hT.yes hY0 hS
    obtain ⟨y3, y4⟩ := y2 _ hm
    have hd0 : df = false := by
      cases h : df with
      | false => rfl
      | true => exact absurd hS (hdf.1 h)
    refine Ret.condF (by rw [y1]; rfl) (Ret.condT (by rw [y1]; rfl) (Ret.bind (Ret.condT rfl (Ret.condT (decide_eq_true (by omega)) (Ret.condT (by rw [hd0]; rfl) (Ret.condT (decide_eq_true y3) (Ret.ok (Ret.ok (decide_eq_true y4)))))))))
  obtain ⟨y1, y2⟩ := hT.dif hY0 hS
  have hd1 := hdf.2 hS
  refine Ret.condF (by rw [y1]; rfl) (Ret.condF (by rw [y1]; rfl) (Ret.condT (by rw [y1]; rfl) (Ret.bind (Ret.condF (by rw [hd1]; rfl) (Ret.ok (Ret.condF (by rw [y2]; rfl) ?_))))))
  -- the one that stays
  have q2 : 0 ≤ keep % ((sid Y).length : Int) := Int.emod_nonneg _ (by omega)
  have q3 : keep % ((sid Y).length : Int) < (sid Y).length := Int.emod_lt_of_pos _ (by omega)
  refine Ret.bind (Ret.bind (Ret.chk (by omega) (Ret.bind (Ret.remO (by omega) (by omega) (Ret.bind (Ret.ixoI q2 q3 fun ky hky => Ret.bind (r_findY fo hYF (List.mem_of_getElem? hky) fun z hz hze => Ret.ok ?_)))))))
  dsimp only
  refine Ret.bind (Ret.appo (by simp; omega) (by simp; omega) ?_)
  rw [List.nil_append]
  refine Ret.bind (Ret.mono (Q := fun M : List Report => ∃ W : List Report, M = l ++ W ∧ (∀ w ∈ W, ∀ x ∈ l, x.id ≠ w.id) ∧ (∀ w ∈ W, w.kind = 9 ∧ w.made = known ∧ w.account = id ∧ (0 ≤ w.id ∧ w.id ≤ 2000000) ∧ w.about = 0 ∧ w.cents = 0 ∧ ∃ y ∈ Y, ¬ (y.cents = z.cents ∧ y.about = z.about) ∧ w.of_ = y.id ∧ w.source = y.source) ∧ ∀ y ∈ Y, ¬ (y.cents = z.cents ∧ y.about = z.about) → ∃ w ∈ W, w.of_ = y.id) (Ret.loop (fun t : List Report × Int × Int => ∃ (n : Nat) (W : List Report), t.2.2 = n ∧ n ≤ (sid Y).length ∧ t.1 = l ++ W ∧ (0 ≤ t.2.1 ∧ t.2.1 ≤ 1000000 + W.length) ∧ (∀ r ∈ l ++ W, r.id ≤ 999999 + W.length) ∧ W.length ≤ n ∧ (∀ w ∈ W, ∀ x ∈ l, x.id ≠ w.id) ∧ (∀ w ∈ W, w.kind = 9 ∧ w.made = known ∧ w.account = id ∧ (0 ≤ w.id ∧ w.id ≤ 2000000) ∧ w.about = 0 ∧ w.cents = 0 ∧ ∃ y ∈ Y, ¬ (y.cents = z.cents ∧ y.about = z.about) ∧ w.of_ = y.id ∧ w.source = y.source) ∧ ∀ y ∈ Y, y.id ∈ (sid Y).take n → ¬ (y.cents = z.cents ∧ y.about = z.about) → ∃ w ∈ W, w.of_ = y.id) (fun t => (sid Y).length - t.2.2.toNat) ⟨0, [], rfl, Nat.zero_le _, by simp, (by simp), (fun r hr => by
      have := hv r (by simpa using hr)
      unfold V at this
      simp; omega), Nat.zero_le _, (fun w hw => by cases hw), (fun w hw => by cases hw), (fun y _ h => by simp at h)⟩ ?_) fun M hM => ?_)
  · rintro ⟨_, nx, _⟩ ⟨n, W, rfl, hn, rfl, hnx, hids, hWn, hW1, hW2, hW3⟩
    dsimp only at hnx ⊢
    refine Ret.cond (fun h => ?_) fun h => ?_
    · have hlt : n < (sid Y).length := by have := of_decide_eq_true h; omega
      refine Ret.bind (Ret.bind (Ret.ixo (List.getElem?_eq_getElem hlt) (Ret.bind (r_findY fo hYF (List.getElem_mem hlt) fun r hr hre => ?_))))
      dsimp only
      have tk1 : ∀ y ∈ Y, y.id ∈ (sid Y).take (n + 1) → y.id ∈ (sid Y).take n ∨ y = r := fun y hy h => by
        rw [take_mem' hlt] at h
        rcases h with h | h
        · exact .inl h
        · exact .inr (ids_one fY.nd hy hr (by rw [h, hre]))
      have skip : (r.cents = z.cents ∧ r.about = z.about) → ∀ Q, Ret (Option.bind (chk .i64 ((n : Int) + 1)) fun n459 => some (Sum.inl (l ++ W, nx, n459) : (List Report × Int × Int) ⊕ List Report)) (Nxt (fun s' : List Report × Int × Int => (∃ (n : Nat) (W : List Report), s'.2.2 = n ∧ n ≤ (sid Y).length ∧ s'.1 = l ++ W ∧ (0 ≤ s'.2.1 ∧ s'.2.1 ≤ 1000000 + W.length) ∧ (∀ r ∈ l ++ W, r.id ≤ 999999 + W.length) ∧ W.length ≤ n ∧ (∀ w ∈ W, ∀ x ∈ l, x.id ≠ w.id) ∧ (∀ w ∈ W, w.kind = 9 ∧ w.made = known ∧ w.account = id ∧ (0 ≤ w.id ∧ w.id ≤ 2000000) ∧ w.about = 0 ∧ w.cents = 0 ∧ ∃ y ∈ Y, ¬ (y.cents = z.cents ∧ y.about = z.about) ∧ w.of_ = y.id ∧ w.source = y.source) ∧ ∀ y ∈ Y, y.id ∈ (sid Y).take n → ¬ (y.cents = z.cents ∧ y.about = z.about) → ∃ w ∈ W, w.of_ = y.id) ∧ (sid Y).length - s'.2.2.toNat < (sid Y).length - (n : Int).toNat) Q) := fun he Q => Ret.bind (Ret.chk (by omega) (Ret.next ⟨⟨n + 1, W, by dsimp only; omega, hlt, rfl, hnx, hids, by omega, hW1, hW2, fun y hy ht hne => by
        rcases tk1 y hy ht with h | rfl
        · exact hW3 y hy h hne
        · exact absurd he hne⟩, by dsimp only; omega⟩))
      have put : ¬ (r.cents = z.cents ∧ r.about = z.about) → ∀ Q, Ret (Option.bind (Option.bind (P.law03_find (l ++ W) nx) fun (z394, z395) => Option.bind (loopM (S := Int × Report × Bool) (R := (Int)) (fun (x417, x418, x419) => cond x419 (Option.bind (chk .i64 (x417 + 1)) fun n421 => Option.bind (P.law03_find (l ++ W) n421) fun (z431, z432) => some (.inl (n421, (Report.mk x418.id x418.source x418.account x418.made x418.about x418.kind x418.cents x418.of_), z432))) (some (.inr x417))) (nx, (Report.mk z394.id z394.source z394.account z394.made z394.about z394.kind z394.cents z394.of_), z395)) fun x445 => Option.bind (appo 64 (l ++ W) ([(Report.mk x445 r.source id known 0 9 0 ((sid Y)[n]'hlt))] : List Report)) fun l452 => some (l452, x445)) fun (x457, x458) => Option.bind (chk .i64 ((n : Int) + 1)) fun n459 => some (Sum.inl (x457, x458, n459) : (List Report × Int × Int) ⊕ List Report)) (Nxt (fun s' : List Report × Int × Int => (∃ (n : Nat) (W : List Report), s'.2.2 = n ∧ n ≤ (sid Y).length ∧ s'.1 = l ++ W ∧ (0 ≤ s'.2.1 ∧ s'.2.1 ≤ 1000000 + W.length) ∧ (∀ r ∈ l ++ W, r.id ≤ 999999 + W.length) ∧ W.length ≤ n ∧ (∀ w ∈ W, ∀ x ∈ l, x.id ≠ w.id) ∧ (∀ w ∈ W, w.kind = 9 ∧ w.made = known ∧ w.account = id ∧ (0 ≤ w.id ∧ w.id ≤ 2000000) ∧ w.about = 0 ∧ w.cents = 0 ∧ ∃ y ∈ Y, ¬ (y.cents = z.cents ∧ y.about = z.about) ∧ w.of_ = y.id ∧ w.source = y.source) ∧ ∀ y ∈ Y, y.id ∈ (sid Y).take n → ¬ (y.cents = z.cents ∧ y.about = z.about) → ∃ w ∈ W, w.of_ = y.id) ∧ (sid Y).length - s'.2.2.toNat < (sid Y).length - (n : Int).toNat) Q) := by
        intro hne Q
        have hlen : (l ++ W).length ≤ 120 := by simp; omega
        have go : ∀ (x418 : Report) (fd : Bool), (fd = true → nx ≤ 999999 + W.length) → (fd = false → ∀ r ∈ l ++ W, r.id ≠ nx) → Ret (loopM (S := Int × Report × Bool) (R := (Int)) (fun (x417, x418, x419) => cond x419 (Option.bind (chk .i64 (x417 + 1)) fun n421 => Option.bind (P.law03_find (l ++ W) n421) fun (z431, z432) => some (.inl (n421, (Report.mk x418.id x418.source x418.account x418.made x418.about x418.kind x418.cents x418.of_), z432))) (some (.inr x417))) (nx, x418, fd)) fun x => (0 ≤ x ∧ x ≤ 1000000 + W.length) ∧ ∀ r ∈ l ++ W, r.id ≠ x := fun x418 fd f1 f2 => by
          refine Ret.loop (fun t : Int × Report × Bool => (0 ≤ t.1 ∧ t.1 ≤ 1000000 + W.length) ∧ (t.2.2 = true → t.1 ≤ 999999 + W.length) ∧ (t.2.2 = false → ∀ r ∈ l ++ W, r.id ≠ t.1)) (fun t => (1000001 + W.length - t.1).toNat) ⟨hnx, f1, f2⟩ ?_
          rintro ⟨x, x418, fd⟩ ⟨u1, u2, u3⟩
          dsimp only at u1 u2 u3 ⊢
          refine Ret.cond (fun hfd => ?_) fun hfd => Ret.done ⟨u1, u3 hfd⟩
          have u4 := u2 hfd
          refine Ret.bind (Ret.chk (by omega) (Ret.bind (r_find (by omega) (fun r' hr' he' => Ret.next ⟨⟨by dsimp only; omega, fun _ => by have := hids r' hr'; dsimp only; omega, (fun h => by cases h)⟩, by dsimp only; omega⟩) fun hn' _ => Ret.next ⟨⟨by dsimp only; omega, (fun h => by cases h), fun _ => hn'⟩, by dsimp only; omega⟩)))
        have rest : ∀ x, (0 ≤ x ∧ x ≤ 1000000 + (W.length : Int)) ∧ (∀ r ∈ l ++ W, r.id ≠ x) → Ret (Option.bind (appo 64 (l ++ W) ([(Report.mk x r.source id known 0 9 0 ((sid Y)[n]'hlt))] : List Report)) fun l452 => some (l452, x)) fun p => p = (l ++ W ++ [(Report.mk x r.source id known 0 9 0 ((sid Y)[n]'hlt))], x) := fun x _ => Ret.bind (Ret.appo (by simp; omega) (by simp; omega) (Ret.ok rfl))
        have step : ∀ x, (0 ≤ x ∧ x ≤ 1000000 + (W.length : Int)) ∧ (∀ r ∈ l ++ W, r.id ≠ x) → Ret (Option.bind (chk .i64 ((n : Int) + 1)) fun n459 => some (Sum.inl (l ++ W ++ [(Report.mk x r.source id known 0 9 0 ((sid Y)[n]'hlt))], x, n459) : (List Report × Int × Int) ⊕ List Report)) _ := fun x hx => Ret.bind (Ret.chk (by omega) (Ret.next (Q := Q) (A := fun s' : List Report × Int × Int => (∃ (n : Nat) (W : List Report), s'.2.2 = n ∧ n ≤ (sid Y).length ∧ s'.1 = l ++ W ∧ (0 ≤ s'.2.1 ∧ s'.2.1 ≤ 1000000 + W.length) ∧ (∀ r ∈ l ++ W, r.id ≤ 999999 + W.length) ∧ W.length ≤ n ∧ (∀ w ∈ W, ∀ x ∈ l, x.id ≠ w.id) ∧ (∀ w ∈ W, w.kind = 9 ∧ w.made = known ∧ w.account = id ∧ (0 ≤ w.id ∧ w.id ≤ 2000000) ∧ w.about = 0 ∧ w.cents = 0 ∧ ∃ y ∈ Y, ¬ (y.cents = z.cents ∧ y.about = z.about) ∧ w.of_ = y.id ∧ w.source = y.source) ∧ ∀ y ∈ Y, y.id ∈ (sid Y).take n → ¬ (y.cents = z.cents ∧ y.about = z.about) → ∃ w ∈ W, w.of_ = y.id) ∧ (sid Y).length - s'.2.2.toNat < (sid Y).length - (n : Int).toNat) ⟨⟨n + 1, W ++ [(Report.mk x r.source id known 0 9 0 ((sid Y)[n]'hlt))], by dsimp only; omega, hlt, by simp, by simp; omega, fun r' hr' => by
            rw [← List.append_assoc] at hr'
            rcases List.mem_append.1 hr' with hr' | hr'
            · have := hids r' hr'; simp; omega
            · rw [List.mem_singleton] at hr'; subst hr'; simp; omega, by simp; omega, fun w hw x' hx' => by
            rcases List.mem_append.1 hw with hw | hw
            · exact hW1 w hw x' hx'
            · rw [List.mem_singleton] at hw; subst hw; exact hx.2 x' (List.mem_append_left _ hx'), fun w hw => by
            rcases List.mem_append.1 hw with hw | hw
            · exact hW2 w hw
            · rw [List.mem_singleton] at hw; subst hw; exact ⟨rfl, rfl, rfl, by dsimp only; omega, rfl, rfl, r, hr, hne, hre.symm, rfl⟩, fun y hy ht hyn => by
            rcases tk1 y hy ht with h | rfl
            · obtain ⟨w, hw, e⟩ := hW3 y hy h hyn; exact ⟨w, List.mem_append_left _ hw, e⟩
            · exact ⟨_, List.mem_append_right _ (List.mem_singleton.2 rfl), hre.symm⟩⟩, by dsimp only; omega⟩))
        refine Ret.bind (Ret.bind (r_find (by omega) (fun r' hr' he' => ?_) fun hn' r' => ?_))
        · exact Ret.bind (Ret.mono (go _ true (fun _ => by have := hids r' hr'; omega) (fun h => by cases h)) fun x hx => Ret.mono (rest x hx) fun p hp => by subst hp; exact step x hx)
        · exact Ret.bind (Ret.mono (go _ false (fun h => by cases h) fun _ => hn') fun x hx => Ret.mono (rest x hx) fun p hp => by subst hp; exact step x hx)
      refine Ret.bind (Ret.cond (fun e1 => Ret.ok ?_) fun e1 => Ret.ok (Ret.condF rfl ?_))
      · cases e2 : decide (r.about = z.about) with
        | true => exact Ret.condT rfl (Ret.ok (skip ⟨of_decide_eq_true e1, of_decide_eq_true e2⟩ _))
        | false => exact Ret.condF rfl (Ret.unbind (put (fun h => of_decide_eq_false e2 h.2) _))
      · exact Ret.unbind (put (fun h => of_decide_eq_false e1 h.1) _)
    · have hge : n = (sid Y).length := by have := of_decide_eq_false h; omega
      exact Ret.done ⟨W, rfl, hW1, hW2, fun y hy hne => hW3 y hy (by rw [hge, List.take_length]; exact sid_mem.2 ⟨y, hy, rfl⟩) hne⟩
  obtain ⟨W, rfl, hW1, hW2, hW3⟩ := hM
  have srcF : ∀ y ∈ Y, ∃ o ∈ K, o.kind ≤ 7 ∧ o.id = y.id ∧ o.source = y.source ∧ o.account = y.account := fun y hy => by
    obtain ⟨o, ho, h7, _, e⟩ := T_el hk.ok ((hF.kw hk).mem_iff.1 (hYF y hy))
    obtain ⟨_, v2, v3, v4, _⟩ := fix_vals hk.ok ho
    exact ⟨o, ho, h7, by rw [e, v4], by rw [e, v3], by rw [e, v2]⟩
  have hin2 : ∀ r ∈ l ++ W, InR r := fun r hr => by
    rcases List.mem_append.1 hr with hr | hr
    · exact hin r hr
    · obtain ⟨k1, k2, k3, k4, k5, k6, y, hy, _, k7, k8⟩ := hW2 r hr
      obtain ⟨o, ho, _, o1, o2, _⟩ := srcF y hy
      have hvo := hk.ok.v o ho
      unfold V at hvo
      unfold InR
      simp only [InK.i64, InK.u8]
      omega
  refine Ret.bind (r_rcheck hin2 (Ret.cond (fun _ => Ret.ok rfl) fun h9 => ?_))
  have c9 : chkE (l ++ W) = 0 := by simpa using h9
  refine Ret.bind (r_State1 hin2 c9 (in3 hid hd) fun F2 hF2 => ?_)
  dsimp only
  refine Ret.condF rfl (Ret.bind (Ret.val (th_st (F2.filter (ofA id day))) ?_))
  have hF2d := hF2
  obtain ⟨K2, hk2, hpK2, _⟩ := hF2d
  have hmK : ∀ x, x ∈ K2 ↔ x ∈ K ∨ x ∈ W := fun x => by
    rw [hk2.mem, hk.mem, List.mem_append]
    constructor
    · rintro ⟨h | h, h2⟩
      · exact .inl ⟨h, h2⟩
      · exact .inr h
    · rintro (⟨h, h2⟩ | h)
      · exact ⟨.inl h, h2⟩
      · exact ⟨.inr h, by rw [(hW2 x h).2.1]; exact Int.le_refl _⟩
  have hT2 := T_gone hk.ok hk2.ok hmK (fun w hw x hx => hW1 w hw x ((hk.mem x).1 hx).1) fun w hw => by
    obtain ⟨k1, _, k3, _, _, _, y, hy, _, k7, k8⟩ := hW2 w hw
    obtain ⟨o, ho, h7, o1, o2, o3⟩ := srcF y hy
    exact ⟨k1, o, ho, h7, by rw [o1, k7], by rw [o2, k8], by rw [o3, k3, (hYX y hy).2.2.1]⟩
  have memF2 : ∀ r, r ∈ F2 ↔ r ∈ F' ∧ ∀ w ∈ W, w.of_ ≠ r.id := fun r => by
    rw [(hF2.kw hk2).mem_iff, hT2, (hF.kw hk).mem_iff]
  have fG2 : FO (F2.filter (ofA id day)) := hF2.fo.filter _
  obtain ⟨Y2, hTY2⟩ := tells2 fG2
  obtain ⟨z1, z2, z3⟩ := tells_left hT hTY2 hz fun r => by
    have e : r ∈ fk (F2.filter (ofA id day)) kd ↔ r ∈ F2 ∧ r.kind = kd ∧ r.account = id ∧ r.about ≤ day := by
      unfold fk ofA; rw [List.mem_filter, List.mem_filter]; simp
      exact ⟨fun h => ⟨h.1.1, h.2, h.1.2⟩, fun h => ⟨⟨h.1, h.2.2⟩, h.2.1⟩⟩
    rw [e, memF2, memX]
    constructor
    · rintro ⟨⟨k1, k2⟩, k3⟩
      refine ⟨⟨k1, k3⟩, fun ⟨k4, k5⟩ => ?_⟩
      obtain ⟨w, hw, k6⟩ := hW3 r k4 k5
      exact k2 w hw k6
    · rintro ⟨⟨k1, k3⟩, k4⟩
      refine ⟨⟨k1, fun w hw k5 => ?_⟩, k3⟩
      obtain ⟨_, _, _, _, _, _, y, hy, k6, k7, _⟩ := hW2 w hw
      obtain rfl : y = r := ids_one fo.nd (hYF y hy) k1 (by rw [← k7, k5])
      exact k4 ⟨hy, k6⟩
  dsimp only
  exact Ret.bind (Ret.condT rfl (Ret.bind (Ret.ixo (at_ _) (Ret.condT (decide_eq_true z1) (Ret.bind (Ret.ixo (at_ _) (Ret.condT (decide_eq_true z2) (Ret.bind (Ret.ixo (at_ _) (Ret.ok (Ret.ok (decide_eq_true z3))))))))))))
end S
end Go.Proofs.YtepjkmoipjeghaaDoor
