/-
  Part AccountPaid 1 of the texts that the statement's proof stands on: what memory holds, how code is walked, what the functions reckon. In the order in which they build.
-/
import Derived.Test.YtepjkmoipjeghaaDoorProg
import Derived.Test.YtepjkmoipjeghaaDoorAp8
set_option linter.unusedVariables false
set_option linter.unusedSectionVars false
namespace Go.Proofs.YtepjkmoipjeghaaDoor
open Go Go.Sx
namespace S
/-! Facts that come in besides. -/
section
variable {K K2 N : List Report} (hK : Ok K) (hK2 : Ok K2) (hm : ∀ x, x ∈ K2 ↔ x ∈ K ∨ x ∈ N) (h4 : ∀ n ∈ N, n.kind = 4) (hid : ∀ n ∈ N, ∀ x ∈ K, x.id ≠ n.id) (hno : ∀ n ∈ N, ∀ x ∈ K, 8 ≤ x.kind → ¬ Aim K2 x n)
include hK hK2 hm h4 hid hno
theorem T_more (r : Report) : r ∈ T K2 ↔ r ∈ T K ∨ r ∈ N := by
  classical
  have el : ∀ {K : List Report} {o : Report}, o ∈ K → o.kind ≤ 7 → WdR K o.id none → fix K o ∈ T K := fun {K o} ho h7 hw => by
    unfold T
    exact List.mem_map.2 ⟨o, List.mem_filter.2 ⟨ho, decide_eq_true ⟨h7, hw⟩⟩, rfl⟩
  have hsub : ∀ x, x ∈ K ↔ x ∈ K2 ∧ x ∈ K := fun x => ⟨fun h => ⟨(hm x).2 (.inl h), h⟩, fun h => h.2⟩
  have nw : ∀ x ∈ K2, x ∉ K → ∀ i, ¬ Wd K2 i x := fun x hx hn i hw => by
    have := h4 x (((hm x).1 hx).resolve_left hn)
    have := hw.2.1
    omega
  let A : Report → Bool := fun r => N.all fun n => !decide (n.id = r.id)
  have hA : ∀ r, A r = true ↔ ∀ n ∈ N, n.id ≠ r.id := fun r => by simp [A]
  have hp : ((T K2).filter A).Perm ((T K).filter A) := by
    refine T_sub hK2 hK (q := fun x => x ∈ K) hsub (fun o ho h7 _ ha => ?_) fun o ho h7 qo _ => ⟨fun x hx hq => nw x hx hq _, fun c _ _ _ _ x hx hq => nw x hx hq _, fun _ x hq hb => ?_⟩
    · rw [hA] at ha
      rcases (hm o).1 ho with h | h
      · exact h
      · exact absurd (fix_id hK2 o).symm (ha o h)
    · have hl := best_lt hK2 o
      rw [hb] at hl
      have := h4 x (((hm x).1 hl.1).resolve_left hq)
      have := hl.2.1.1
      omega
  have hN : ∀ n ∈ N, n ∈ T K2 := fun n hn => by
    have hn2 := (hm n).2 (.inr hn)
    have aim : ∀ x ∈ K2, 8 ≤ x.kind → ¬ Aim K2 x n := fun x hx h8 ha => by
      rcases (hm x).1 hx with h | h
      · exact hno n hn x h h8 ha
      · have := h4 x h; omega
    have hw : WdR K2 n.id none := fun x hx hw => by
      obtain ⟨_, h9, hof, o, ha, _⟩ := hw
      obtain rfl := hK2.one ha.1 hn2 (by rw [ha.2.1, hof])
      exact aim x hx (by omega) ha
    have hb : best K2 n = none := best_is hK2 fun x hx hc => aim x hx (by have := hc.1; omega) hc.2.1
    have := el hn2 (by have := h4 n hn; omega) hw
    unfold fix at this
    rwa [hb] at this
  constructor
  · intro hr
    cases ha : A r with
    | true => exact .inl (List.mem_filter.1 (hp.mem_iff.1 (List.mem_filter.2 ⟨hr, ha⟩))).1
    | false =>
      right
      obtain ⟨n, hn, e⟩ : ∃ n ∈ N, n.id = r.id := by
        have := mt (hA r).2 (by rw [ha]; exact Bool.false_ne_true)
        simpa using this
      have h2 := hN n hn
      have := ids_one (T_nd hK2) h2 hr e
      rwa [← this]
  · rintro (hr | hr)
    · refine (List.mem_filter.1 (hp.mem_iff.2 (List.mem_filter.2 ⟨hr, ?_⟩))).1
      rw [hA]
      intro n hn e
      obtain ⟨o, ho, _, _, rfl⟩ := T_el hK hr
      rw [fix_id hK] at e
      exact hid n hn o ho e.symm
    · exact hN r hr
end
/-! Sums. -/
theorem sum_le {α : Type} {f g : α → Int} : ∀ (l : List α), (∀ d ∈ l, f d ≤ g d) → (l.map f).sum ≤ (l.map g).sum
  | [], _ => by simp
  | d :: l, h => by
    have h1 := sum_le l fun x hx => h x (List.mem_cons_of_mem _ hx)
    have h2 := h d (List.mem_cons_self ..)
    simp only [List.map_cons, List.sum_cons]
    omega
theorem sum_pos {α : Type} {f : α → Int} : ∀ (l : List α), (∀ d ∈ l, 0 ≤ f d) → 0 ≤ (l.map f).sum
  | [], _ => by simp
  | d :: l, h => by
    have h1 := sum_pos l fun x hx => h x (List.mem_cons_of_mem _ hx)
    have h2 := h d (List.mem_cons_self ..)
    simp only [List.map_cons, List.sum_cons]
    omega
theorem sum_max {α : Type} {f : α → Int} {c : Int} : ∀ (l : List α), (∀ d ∈ l, f d ≤ c) → (l.map f).sum ≤ l.length * c
  | [], _ => by simp
  | d :: l, h => by
    have h1 := sum_max l fun x hx => h x (List.mem_cons_of_mem _ hx)
    have h2 := h d (List.mem_cons_self ..)
    simp only [List.map_cons, List.sum_cons, List.length_cons]
    have : ((l.length + 1 : Nat) : Int) * c = l.length * c + c := by rw [Int.natCast_add, Int.add_mul]; simp
    omega
/-- A sum over some days is at most one over more days, where each day tells no less. -/
theorem sum_sub {f g : Int → Int} : ∀ (l l' : List Int), l.Nodup → (∀ d ∈ l, d ∈ l') → (∀ d ∈ l, f d ≤ g d) → (∀ d ∈ l', 0 ≤ g d) → (l.map f).sum ≤ (l'.map g).sum
  | [], l', _, _, _, h => by simpa using sum_pos l' h
  | d :: l, l', nd, hs, hf, hg => by
    have hd := hs d (List.mem_cons_self ..)
    have hp : l'.Perm (d :: l'.erase d) := List.perm_cons_erase hd
    have nd' := List.nodup_cons.1 nd
    have h1 := sum_sub (f := f) (g := g) l (l'.erase d) nd'.2 (fun x hx => (List.mem_erase_of_ne (fun e => nd'.1 (by rw [← e]; exact hx))).2 (hs x (List.mem_cons_of_mem _ hx))) (fun x hx => hf x (List.mem_cons_of_mem _ hx)) fun x hx => hg x (List.mem_of_mem_erase hx)
    have h2 := hf d (List.mem_cons_self ..)
    rw [perm_sum (hp.map g)]
    simp only [List.map_cons, List.sum_cons]
    omega
/-! Days. -/
theorem min_ex {f : Report → Int} : ∀ {g : List Report}, g ≠ [] → ∃ r ∈ g, ∀ s ∈ g, f r ≤ f s
  | [], h => absurd rfl h
  | [r], _ => ⟨r, List.mem_cons_self .., fun s hs => by simp at hs; rw [hs]; exact Int.le_refl _⟩
  | r :: x :: g, _ => by
    obtain ⟨y, hy, h⟩ := min_ex (f := f) (g := x :: g) (by simp)
    rcases Int.le_total (f r) (f y) with c | c
    · refine ⟨r, List.mem_cons_self .., fun s hs => ?_⟩
      rcases List.mem_cons.1 hs with rfl | hs
      · exact Int.le_refl _
      · exact Int.le_trans c (h s hs)
    · refine ⟨y, List.mem_cons_of_mem _ hy, fun s hs => ?_⟩
      rcases List.mem_cons.1 hs with rfl | hs
      · exact c
      · exact h s hs
theorem grp_mem {L : List Report} {d : Int} {r : Report} : r ∈ grp L d ↔ r ∈ L ∧ r.about = d := by
  unfold grp; rw [List.mem_filter, decide_eq_true_eq]
theorem pd_ex {L : List Report} {d : Int} (h : d ∈ dl L) : Pd L d (pd L d) := by
  obtain ⟨r, hr, e⟩ := dl_mem.1 h
  have hne : grp L d ≠ [] := List.ne_nil_of_mem (grp_mem.2 ⟨hr, e⟩)
  obtain ⟨a, ha, h1⟩ := min_ex (f := fun r => sumL L d r.source) hne
  obtain ⟨b, hb, h2⟩ := min_ex (f := fun r => - sumL L d r.source) hne
  have hp : Pd L d ⟨sumL L d a.source, sumL L d b.source⟩ := ⟨⟨a, ha, rfl⟩, ⟨b, hb, rfl⟩, fun s hs => ⟨h1 s hs, by have := h2 s hs; dsimp only; omega⟩⟩
  rw [pd_is hp]; exact hp
theorem sumL_cons (L : List Report) (r : Report) (d s : Int) : sumL (r :: L) d s = (if r.about = d ∧ r.source = s then r.cents else 0) + sumL L d s := by
  unfold sumL
  rw [List.filter_cons]
  by_cases c : r.about = d ∧ r.source = s
  · rw [if_pos c]; simp [c.1, c.2]
  · rw [if_neg c]
    have : (decide (r.about = d) && decide (r.source = s)) = false := by
      rw [Bool.eq_false_iff]; intro h; apply c; simpa using h
    rw [this]; simp
theorem sumL_app (L L' : List Report) (d s : Int) : sumL (L ++ L') d s = sumL L d s + sumL L' d s := by
  unfold sumL
  rw [List.filter_append, List.map_append, List.sum_append]
theorem sumL_perm {L L' : List Report} (h : L.Perm L') (d s : Int) : sumL L d s = sumL L' d s := perm_sum ((h.filter _).map _)
theorem sumL_none {L : List Report} {d s : Int} (h : ∀ r ∈ L, r.about = d → r.source ≠ s) : sumL L d s = 0 := by
  unfold sumL
  rw [List.filter_eq_nil_iff.2 fun r hr => by
    have := h r hr
    simp only [Bool.and_eq_true, decide_eq_true_eq, not_and]
    exact this]
  rfl
theorem one_le : ∀ {L : List Report}, (∀ r ∈ L, 0 ≤ r.cents) → ∀ r ∈ L, r.cents ≤ sumL L r.about r.source
  | [], _, r, hr => by cases hr
  | x :: L, h, r, hr => by
    have hL : ∀ r ∈ L, 0 ≤ r.cents := fun r hr => h r (List.mem_cons_of_mem _ hr)
    rw [sumL_cons]
    rcases List.mem_cons.1 hr with rfl | hr
    · rw [if_pos ⟨rfl, rfl⟩]
      have : 0 ≤ sumL L r.about r.source := by
        unfold sumL
        exact sum_pos _ fun y hy => hL y (List.mem_filter.1 hy).1
      omega
    · have h1 := one_le hL r hr
      have := h x (List.mem_cons_self ..)
      split <;> omega
noncomputable def loS (L : List Report) : Int := ((dl L).map fun d => (pd L d).lo).sum
noncomputable def hiS (L : List Report) : Int := ((dl L).map fun d => (pd L d).hi).sum
theorem pd_in {L : List Report} (hL : FO L) {d : Int} (h : d ∈ dl L) : 0 ≤ (pd L d).lo ∧ (pd L d).lo ≤ (pd L d).hi ∧ (pd L d).hi ≤ 60000000000000 := by
  obtain ⟨⟨a, ha, e1⟩, ⟨b, hb, e2⟩, h3⟩ := pd_ex h
  have h4 := h3 a ha
  have h5 := sumL_bd hL.c d a.source
  have h6 := sumL_bd hL.c d b.source
  have := hL.len
  omega
theorem pay_in {L : List Report} (hL : FO L) : 0 ≤ loS L ∧ loS L ≤ hiS L ∧ hiS L ≤ 3600000000000000 := by
  refine ⟨sum_pos _ fun d hd => (pd_in hL hd).1, sum_le _ fun d hd => (pd_in hL hd).2.1, ?_⟩
  have h1 := sum_max (f := fun d => (pd L d).hi) (dl L) fun d hd => (pd_in hL hd).2.2
  have h2 := dl_len L
  have h3 := hL.len
  unfold hiS
  omega
/-- With more paid the greatest is no less. -/
theorem hi_mono {L L2 N : List Report} (hL2 : FO L2) (hp : L2.Perm (L ++ N)) : hiS L ≤ hiS L2 := by
  have hm : ∀ r ∈ L, r ∈ L2 := fun r hr => hp.mem_iff.2 (List.mem_append_left _ hr)
  refine sum_sub _ _ (dl_nd L) (fun d hd => ?_) (fun d hd => ?_) fun d hd => by have := pd_in hL2 hd; omega
  · obtain ⟨r, hr, e⟩ := dl_mem.1 hd
    exact dl_mem.2 ⟨r, hm r hr, e⟩
  · obtain ⟨_, ⟨b, hb, e2⟩, _⟩ := pd_ex hd
    obtain ⟨r, hr, e⟩ := dl_mem.1 hd
    obtain ⟨_, _, h3⟩ := pd_ex (L := L2) (dl_mem.2 ⟨r, hm r hr, e⟩)
    have h4 := (h3 b (grp_mem.2 ⟨hm b (grp_mem.1 hb).1, (grp_mem.1 hb).2⟩)).2
    rw [sumL_perm hp, sumL_app] at h4
    have h5 : 0 ≤ sumL N d b.source := by
      unfold sumL
      exact sum_pos _ fun y hy => (hL2.c y (hp.mem_iff.2 (List.mem_append_right _ (List.mem_filter.1 hy).1))).1
    rw [← e2]; omega
/-! All payments of a source once more. -/
def cps (one fresh id known : Int) : List Report → Int → List Report
  | [], _ => []
  | r :: L, nx => if r.source = one then ⟨nx, fresh, id, known, r.about, 4, r.cents, 0⟩ :: cps one fresh id known L (nx + 1) else cps one fresh id known L nx
section
variable {one fresh id known : Int}
theorem cps_cons {r : Report} {L : List Report} {nx : Int} : cps one fresh id known (r :: L) nx = if r.source = one then ⟨nx, fresh, id, known, r.about, 4, r.cents, 0⟩ :: cps one fresh id known L (nx + 1) else cps one fresh id known L nx := rfl
theorem cps_mem : ∀ {L : List Report} {nx : Int} {x : Report}, x ∈ cps one fresh id known L nx → nx ≤ x.id ∧ ∃ r ∈ L, r.source = one ∧ x = ⟨x.id, fresh, id, known, r.about, 4, r.cents, 0⟩
  | [], _, _, h => by cases h
  | r :: L, nx, x, h => by
    unfold cps at h
    split at h
    · rename_i e
      rcases List.mem_cons.1 h with rfl | h
      · exact ⟨Int.le_refl _, r, List.mem_cons_self .., e, rfl⟩
      · obtain ⟨h1, r', hr', h2⟩ := cps_mem h
        exact ⟨by omega, r', List.mem_cons_of_mem _ hr', h2⟩
    · obtain ⟨h1, r', hr', h2⟩ := cps_mem h
      exact ⟨h1, r', List.mem_cons_of_mem _ hr', h2⟩
theorem cps_nd : ∀ (L : List Report) (nx : Int), ((cps one fresh id known L nx).map (·.id)).Nodup
  | [], _ => List.nodup_nil
  | r :: L, nx => by
    unfold cps
    split
    · rw [List.map_cons, List.nodup_cons]
      refine ⟨fun h => ?_, cps_nd L _⟩
      obtain ⟨x, hx, e⟩ := List.mem_map.1 h
      have := (cps_mem hx).1
      dsimp only at e
      omega
    · exact cps_nd L _
theorem cps_sum : ∀ (L : List Report) (nx d : Int), sumL (cps one fresh id known L nx) d fresh = sumL L d one
  | [], _, _ => rfl
  | r :: L, nx, d => by
    unfold cps
    rw [sumL_cons]
    split
    · rename_i e
      rw [sumL_cons, cps_sum L]
      simp [e]
    · rename_i e
      rw [cps_sum L]
      simp [e]
/-- No payment is counted twice. -/
theorem pay_twice {L L2 : List Report} {nx : Int} (hp : L2.Perm (L ++ cps one fresh id known L nx)) (hf : ∀ r ∈ L, r.source ≠ fresh) : loS L2 = loS L ∧ hiS L2 = hiS L := by
  have hs : ∀ d s, sumL L2 d s = sumL L d s + sumL (cps one fresh id known L nx) d s := fun d s => by rw [sumL_perm hp, sumL_app]
  have hmem : ∀ r, r ∈ L2 ↔ r ∈ L ∨ r ∈ cps one fresh id known L nx := fun r => hp.mem_iff.trans List.mem_append
  have src : ∀ x ∈ cps one fresh id known L nx, x.source = fresh ∧ ∃ r ∈ L, r.source = one ∧ x.about = r.about := fun x hx => by
    obtain ⟨_, r, hr, h1, h2⟩ := cps_mem hx
    rw [h2]; exact ⟨rfl, r, hr, h1, rfl⟩
  have old : ∀ d s, s ≠ fresh → sumL L2 d s = sumL L d s := fun d s h => by
    rw [hs, sumL_none (L := cps one fresh id known L nx) fun x hx _ => by rw [(src x hx).1]; exact Ne.symm h]; omega
  have new : ∀ d, sumL L2 d fresh = sumL L d one := fun d => by
    rw [hs, cps_sum, sumL_none (L := L) fun r hr _ => hf r hr]; omega
  have hd : ∀ d, d ∈ dl L2 ↔ d ∈ dl L := fun d => by
    rw [dl_mem, dl_mem]
    constructor
    · rintro ⟨r, hr, e⟩
      rcases (hmem r).1 hr with h | h
      · exact ⟨r, h, e⟩
      · obtain ⟨_, r', hr', _, e'⟩ := src r h
        exact ⟨r', hr', by rw [← e', e]⟩
    · rintro ⟨r, hr, e⟩; exact ⟨r, (hmem r).2 (.inl hr), e⟩
  have hpd : ∀ d ∈ dl L, pd L2 d = pd L d := fun d hdl => by
    obtain ⟨⟨a, ha, e1⟩, ⟨b, hb, e2⟩, h3⟩ := pd_ex hdl
    have up : ∀ r ∈ grp L d, r ∈ grp L2 d ∧ sumL L2 d r.source = sumL L d r.source := fun r hr => by
      obtain ⟨h1, h2⟩ := grp_mem.1 hr
      exact ⟨grp_mem.2 ⟨(hmem r).2 (.inl h1), h2⟩, old d _ (hf r h1)⟩
    refine pd_is ⟨⟨a, (up a ha).1, by rw [(up a ha).2, e1]⟩, ⟨b, (up b hb).1, by rw [(up b hb).2, e2]⟩, fun r hr => ?_⟩
    obtain ⟨h1, h2⟩ := grp_mem.1 hr
    rcases (hmem r).1 h1 with h | h
    · have := h3 r (grp_mem.2 ⟨h, h2⟩)
      rwa [old d _ (hf r h)]
    · obtain ⟨g1, r', hr', g2, g3⟩ := src r h
      rw [g1, new, ← g2]
      exact h3 r' (grp_mem.2 ⟨hr', by rw [← g3, h2]⟩)
  have hpm : (dl L2).Perm (dl L) := (List.perm_ext_iff_of_nodup (dl_nd _) (dl_nd _)).2 hd
  unfold loS hiS
  refine ⟨?_, ?_⟩
  · rw [perm_sum (hpm.map _)]
    exact congrArg List.sum (List.map_congr_left fun d h => by rw [hpd d h])
  · rw [perm_sum (hpm.map _)]
    exact congrArg List.sum (List.map_congr_left fun d h => by rw [hpd d h])
end
end S
end Go.Proofs.YtepjkmoipjeghaaDoor
set_option maxRecDepth 20000
set_option maxHeartbeats 4000000
namespace Go.Proofs.YtepjkmoipjeghaaDoor
open Go Go.Sx Go.RowKit
noncomputable def P.law03_AccountPaid (l : (List Report)) (id : Int) (day : Int) (known : Int) (source : Int) (more : Report) : Option Bool :=
  Option.bind (P.law03_alive ) fun z5 => Option.bind (Option.bind (P.law03_ready l id ([day, known] : List Int)) fun z14 => cond (!z14) (some true) (some (!z5))) fun x20 => cond x20 (some z5) (Option.bind (P.account_State l id day known) fun (z22, z23) => Option.bind (P.account_Standing l known) fun (z71, z72) => Option.bind (cond (!decide (z23 = 0)) (some true) (cond (!decide (z72 = 0)) (some true) (cond (decide (z22.paid.lo < 0)) (some true) (some (decide (z22.paid.hi < z22.paid.lo)))))) fun x83 => cond x83 (some false) (Option.bind (loopM (S := Int × Int × Int) (R := (Int × Int)) (fun (x85, x86, x87) => cond (decide (x87 < (l.length : Int))) (Option.bind (ixo l x87) fun y89 => Option.bind (chk .i64 (y89.source + 1)) fun n112 => Option.bind (chk .i64 (y89.id + 1)) fun n113 => Option.bind (chk .i64 (x87 + 1)) fun n117 => some (.inl (max x85 n112, max x86 n113, n117))) (some (.inr (x85, x86)))) (0, 0, 0)) fun (x118, x119) => Option.bind (loopM (S := (List Report) × Int × (FMap Int Int)) (R := ((List Report) × (FMap Int Int))) (fun (x124, x125, x126) => cond (decide (x125 < (z71.length : Int))) (Option.bind (Option.bind (ixo z71 x125) fun y128 => Option.bind (cond (decide (y128.kind = 4)) (cond (decide (y128.account = id)) (some (decide (y128.about ≤ day))) (some false)) (some false)) fun x153 => Option.bind (cond x153 (Option.bind (appo 64 x124 ([(Report.mk y128.id y128.source y128.account y128.made y128.about y128.kind y128.cents y128.of_)] : List Report)) fun l161 => Option.bind (some ((x126 y128.about).getD 0)) fun y166 => some (l161, (fput x126 y128.about (max y166 y128.cents)))) (some (x124, x126))) fun (x174, x175) => some (x174, x175)) fun (x176, x177) => Option.bind (chk .i64 (x125 + 1)) fun n178 => some (.inl (x176, n178, x177))) (some (.inr (x124, x126)))) ([], 0, fnone)) fun (x179, x180) => Option.bind (anyM (S := Int) (fun x193 (y194 : Int × Int) => Option.bind (chk .i64 (x193 + y194.2)) fun n202 => some n202) x180 0) fun x203 => cond (decide (z22.paid.hi < x203)) (some false) (Option.bind (Option.bind (cond (decide (0 < (x179.length : Int))) (Option.bind (chk .i64 source) fun n206 => Option.bind (remO n206 (x179.length : Int)) fun n207 => Option.bind (ixo x179 n207) fun y208 => Option.bind (appo 64 ([] : List Report) l) fun l226 => Option.bind (loopM (S := Int × (List Report) × Int) (R := ((List Report))) (fun (x231, x232, x233) => cond (decide (x233 < (x179.length : Int))) (Option.bind (Option.bind (ixo x179 x233) fun y235 => Option.bind (cond (decide (y235.source = y208.source)) (Option.bind (appo 64 x232 ([(Report.mk x231 x118 id known y235.about 4 y235.cents 0)] : List Report)) fun l265 => Option.bind (chk .i64 (x231 + 1)) fun n270 => some (n270, l265)) (some (x231, x232))) fun (x271, x272) => some (x271, x272)) fun (x273, x274) => Option.bind (chk .i64 (x233 + 1)) fun n275 => some (.inl (x273, x274, n275))) (some (.inr x232))) (x119, l226, 0)) fun x276 => Option.bind (P.ref03_Check x276) fun z277 => Option.bind (cond (decide (z277 = 0)) (Option.bind (P.account_State x276 id day known) fun (z286, z287) => Option.bind (cond (!decide (z287 = 0)) (some true) (some (!decide ((Span.mk z286.paid.lo z286.paid.hi) = (Span.mk z22.paid.lo z22.paid.hi))))) fun x336 => cond x336 (some (.inr false)) (some (.inl ()))) (some (.inl ()))) fun j338 => Sum.elim (fun _ => some (.inl ())) (fun r339 => some (.inr r339))  j338) (some (.inl ()))) fun j340 => Sum.elim (fun _ => some (.inl ())) (fun r341 => some (.inr r341))  j340) fun j342 => Sum.elim (fun _ => Option.bind (Option.bind (appo 64 ([] : List Report) l) fun l359 => Option.bind (appo 64 l359 ([(Report.mk more.id more.source id more.made more.about 4 more.cents more.of_)] : List Report)) fun l376 => some l376) fun x388 => Option.bind (P.ref03_Check x388) fun z389 => cond (!decide (z389 = 0)) (some z5) (Option.bind (loopM (S := Int) (R := (Unit) ⊕ (Bool)) (fun x396 => cond (decide (x396 < (l.length : Int))) (Option.bind (ixo l x396) fun y398 => Option.bind (cond (decide (y398.of_ = more.id)) (some (decide (8 ≤ y398.kind))) (some false)) fun x422 => cond x422 (some (.inr (.inr z5))) (Option.bind (chk .i64 (x396 + 1)) fun n424 => some (.inl n424))) (some (.inr (.inl ())))) 0) fun j425 => Sum.elim (fun _ => Option.bind (P.account_State x388 id day known) fun (z428, z429) => Option.bind (cond z5 (cond (decide (z429 = 0)) (some (decide (z22.paid.hi ≤ z428.paid.hi))) (some false)) (some false)) fun x479 => some x479) (fun r480 => some r480)  j425)) (fun r481 => some r481)  j342)))
theorem C_law03_AccountPaid {M : List Nat} {w : World} (hM : MLt M w) (hG : RdC M w 0 0 (glob0.map (Value.int .i64))) {l : (List Report)} {v_l_0 : Value} (f_l_0 : RdS ReportE M w v_l_0 l) {id : Int} (f_id_0 : InK .i64 id) {day : Int} (f_day_0 : InK .i64 day) {known : Int} (f_known_0 : InK .i64 known) {source : Int} (f_source_0 : InK .u8 source) {more : Report} (f_more_0 : InK .i64 more.id) (f_more_1 : InK .i64 more.source) (f_more_2 : InK .i64 more.account) (f_more_3 : InK .i64 more.made) (f_more_4 : InK .i64 more.about) (f_more_5 : InK .u8 more.kind) (f_more_6 : InK .i64 more.cents) (f_more_7 : InK .i64 more.of_) {r0 : Bool} (h : P.law03_AccountPaid l id day known source more = some r0) :
  Calls Tryd.prog 11 (List.toArray [v_l_0, vi id, vi day, vi known, vu source, Value.agg (List.toArray (vR more))]) w fun e w' => e = .returned (Value.bool r0) ∧ Ext w w' := by
 have hI := Hp.start (Mu := []) hM
 refine calls_cw Tryd.func11 rfl Tryd.ntmps11 rfl ?_
 refine cw_seq (cw_regF (y_box hI rfl rfl rfl ?_))
 intro b1 w2 hI3 x4
 refine s_as rfl rfl (Reg.nil (cw_seq (cw_regF ?_)))
 obtain ⟨z5, hz6, h⟩ := bnd h
 refine s_call rfl Tryd.call26 rfl ((C_law03_alive hI3.mlt (hG.adv hI3.adv) hz6).mono ?_)
 rintro _ w7 ⟨rfl, e8⟩
 refine ⟨_, rfl, ?_⟩
 have hI9 := hI3.ext e8
 refine s_as rfl rfl (Reg.nil (cw_seq ?_))
 obtain ⟨j10, h11, h⟩ := bnd h
 refine cw_keep [0, 1, 2, 3, 4, 11, 13] rfl (cw_seqD 0 (ι := Bool) (fun x12 => [(51, Value.bool x12)]) (fun x12 => fun w13 => Hp w [] M [rowR 61 b1 (vR more)] w13 ∧ Adv (mm [rowR 61 b1 (vR more)] M) (mm [rowR 61 b1 (vR more)] M) w7 w13 ∧ x12 = j10) ?_ ?_)
 ·refine cw_regF ?_
  iterate 4 refine s_mv rfl rfl ?_
  refine y_bs (E := (intE .i64)) (xs := [day, known]) sl36 hI9 rfl rfl (Cls.cons rfl (Cls.cons rfl Cls.nil)) (Chs.cons ⟨rfl, f_day_0⟩ (Chs.cons ⟨rfl, f_known_0⟩ Chs.nil)) rfl rfl ?_
  intro v16 w17 hI18 x19
  obtain ⟨z20, hz21, h11⟩ := bnd h11
  refine s_call rfl Tryd.call30 rfl ((C_law03_ready (hI18.sel [1] rfl).mlt ((f_l_0.adv hI18.adv).adv (Hp.selA (σ := [ownR [] (intE .i64) 3 v16 ([day, known] : List Int), rowR 61 b1 (vR more)]) [1])) f_id_0 (hI18.lendRd [1] 0 rfl rfl) hz21).mono ?_)
  rintro _ w22 ⟨rfl, e23⟩
  refine ⟨_, rfl, ?_⟩
  have hI24 := hI18.ext e23
  refine s_not rfl rfl (s_mv rfl rfl (Reg.gsplit (t := 48) rfl (fun hg25 => ?_) (fun hg25 => ?_)))
  ·replace h11 := cdT hg25 h11
   refine Reg.pass rfl rfl rfl rfl (Reg.pass rfl rfl rfl rfl (s_pkT rfl rfl rfl (Reg.nil ?_)))
   obtain rfl := Option.some.inj h11
   refine ⟨rfl, true, ⟨(hI24.sel [1] rfl), ((x19.trans (Adv.of_ext e23)).trans (Hp.selA (σ := [ownR [] (intE .i64) 3 v16 ([day, known] : List Int), rowR 61 b1 (vR more)]) [1])), rfl⟩, sb8 rfl rfl rfl rfl rfl rfl rfl rfl⟩
  replace h11 := cdF hg25 h11
  refine Reg.take rfl rfl (s_mv rfl rfl (Reg.take rfl rfl (s_not rfl rfl (s_pkF rfl rfl rfl (Reg.nil ?_)))))
  obtain rfl := Option.some.inj h11
  refine ⟨rfl, !z5, ⟨(hI24.sel [1] rfl), ((x19.trans (Adv.of_ext e23)).trans (Hp.selA (σ := [ownR [] (intE .i64) 3 v16 ([day, known] : List Int), rowR 61 b1 (vR more)]) [1])), rfl⟩, sb8 rfl rfl rfl rfl rfl rfl rfl rfl⟩
 rintro x12 w13 ⟨hI14, hA15, rfl⟩
 refine cw_cond rfl (fun hc26 => ?_) (fun hc26 => ?_)
 ·replace h := cdT hc26 h
  refine cw_seq (cw_regF (s_mv rfl rfl (s_as rfl rfl (Reg.nil (cw_ret ?_)))))
  obtain rfl := Option.some.inj h
  refine fin1 Tryd.results11 rfl ?_
  exact ⟨rfl, hI14.kp⟩
 replace h := cdF hc26 h
 refine cw_skip (cw_seq (cw_regF ?_))
 iterate 4 refine s_mv rfl rfl ?_
 obtain ⟨⟨z27, z28⟩, hz29, h⟩ := bnd h
 refine s_call rfl Tryd.call20 rfl ((C_account_State hI14.mlt (hG.adv hI14.adv) (f_l_0.adv hI14.adv) f_id_0 f_day_0 f_known_0 hz29).mono ?_)
 rintro _ w30 ⟨v35, v40, v45, v50, v55, v60, rfl, r32, r33, r34, hf36, r37, r38, r39, hf41, r42, r43, r44, hf46, r47, r48, r49, hf51, r52, r53, r54, hf56, r57, r58, r59, hf61, r62, r63, r64, r65, e31⟩
 refine ⟨_, rfl, ?_⟩
 have hI66 := hI14.ext e31
 refine s_mv rfl rfl (s_xt rfl rfl rfl (s_xt rfl rfl rfl (y_al hI66 Tryd.zeroValue42 rfl rfl ?_)))
 intro b67 w68 hI69 x70
 refine y_st 0 hI69 rfl rfl rfl rfl Tryd.sizeOf42 rfl rfl (one1 rfl (one1 rfl (one1 rfl (one1 (RdS.oneC hf36) (one1 rfl (one1 rfl (one1 rfl (one1 (RdS.oneC hf41) (one1 rfl (one1 rfl (one1 rfl (one1 (RdS.oneC hf46) (one1 rfl (one1 rfl (one1 rfl (one1 (RdS.oneC hf51) (one1 rfl (one1 rfl (one1 rfl (one1 (RdS.oneC hf56) (one1 rfl (one1 rfl (one1 rfl (one1 (RdS.oneC hf61) (on3 rfl rfl rfl))))))))))))))))))))))))) ?_
 intro w71 hI72 x73
 have hC75 := hI72.freezeRow 0 rfl
 have hI74 := hI72.erase 0
 refine s_as rfl rfl (Reg.nil (cw_seq (cw_regF (s_mv rfl rfl (s_mv rfl rfl ?_)))))
 obtain ⟨⟨z76, z77⟩, hz78, h⟩ := bnd h
 refine s_call rfl Tryd.call13 rfl ((C_account_Standing hI74.mlt (hG.adv hI74.adv) (f_l_0.adv hI74.adv) f_known_0 hz78).mono ?_)
 rintro _ w79 ⟨v81, rfl, hf82, r83, e80⟩
 refine ⟨_, rfl, ?_⟩
 have hI84 := hI74.addOwn e80 hf82
 refine s_mv rfl rfl (s_xt rfl rfl rfl (s_xt rfl rfl rfl (s_as rfl rfl (s_as rfl rfl (Reg.nil (cw_seq ?_))))))
 obtain ⟨j85, h86, h⟩ := bnd h
 refine cw_keep [15, 17, 0, 1, 2, 3, 4, 11, 13, 14, 16] rfl (cw_seqD 2 (ι := Bool) (fun x87 => [(87, Value.bool x87)]) (fun x87 => fun w88 => w79 = w88 ∧ x87 = j85) ?_ ?_)
 ·refine cw_regF (s_mv rfl rfl (s_neq rfl rfl rfl (s_mv rfl rfl (Reg.gsplit (t := 69) rfl (fun hg91 => ?_) (fun hg91 => ?_)))))
  ·replace h86 := cdT hg91 h86
   refine Reg.pass rfl rfl rfl rfl (Reg.pass rfl rfl rfl rfl (s_pkT rfl rfl rfl (s_mv rfl rfl ?_)))
   iterate 4 refine Reg.pass rfl rfl rfl rfl ?_
   refine s_pkT rfl rfl rfl (s_mv rfl rfl ?_)
   iterate 7 refine Reg.pass rfl rfl rfl rfl ?_
   refine s_pkT rfl rfl rfl (Reg.nil ?_)
   obtain rfl := Option.some.inj h86
   refine ⟨rfl, true, ⟨rfl, rfl⟩, sb10 rfl rfl rfl rfl rfl rfl rfl rfl rfl rfl⟩
  replace h86 := cdF hg91 h86
  refine Reg.take rfl rfl (s_mv rfl rfl (Reg.take rfl rfl (s_neq rfl rfl rfl (s_pkF rfl rfl rfl (s_mv rfl rfl (Reg.gsplit (t := 73) rfl (fun hg92 => ?_) (fun hg92 => ?_)))))))
  ·replace h86 := cdT hg92 h86
   iterate 4 refine Reg.pass rfl rfl rfl rfl ?_
   refine s_pkT rfl rfl rfl (s_mv rfl rfl ?_)
   iterate 7 refine Reg.pass rfl rfl rfl rfl ?_
   refine s_pkT rfl rfl rfl (Reg.nil ?_)
   obtain rfl := Option.some.inj h86
   refine ⟨rfl, true, ⟨rfl, rfl⟩, sb10 rfl rfl rfl rfl rfl rfl rfl rfl rfl rfl⟩
  replace h86 := cdF hg92 h86
  refine Reg.take rfl rfl (s_fa rfl Tryd.underlying42 rfl Tryd.sizeOf40 rfl (Reg.take rfl rfl (s_fa rfl Tryd.underlying40 rfl Tryd.sizeOf3 rfl (Reg.take rfl rfl (s_ld rfl ((hC75.adv (hI74.addOwnA e80 hf82)).cells.at 24 rfl) Tryd.isAgg3 rfl (Reg.take rfl rfl (s_lss rfl rfl rfl (s_pkF rfl rfl rfl (s_mv rfl rfl (Reg.gsplit (t := 79) rfl (fun hg93 => ?_) (fun hg93 => ?_)))))))))))
  ·replace h86 := cdT hg93 h86
   iterate 7 refine Reg.pass rfl rfl rfl rfl ?_
   refine s_pkT rfl rfl rfl (Reg.nil ?_)
   obtain rfl := Option.some.inj h86
   refine ⟨rfl, true, ⟨rfl, rfl⟩, sb10 rfl rfl rfl rfl rfl rfl rfl rfl rfl rfl⟩
  replace h86 := cdF hg93 h86
  refine Reg.take rfl rfl (s_fa rfl Tryd.underlying42 rfl Tryd.sizeOf40 rfl (Reg.take rfl rfl (s_fa rfl Tryd.underlying40 rfl Tryd.sizeOf3 rfl (Reg.take rfl rfl (s_ld rfl ((hC75.adv (hI74.addOwnA e80 hf82)).cells.at 24 rfl) Tryd.isAgg3 rfl (Reg.take rfl rfl (s_fa rfl Tryd.underlying42 rfl Tryd.sizeOf40 rfl (Reg.take rfl rfl (s_fa rfl Tryd.underlying40 rfl Tryd.sizeOf3 rfl (Reg.take rfl rfl (s_ld rfl ((hC75.adv (hI74.addOwnA e80 hf82)).cells.at 25 rfl) Tryd.isAgg3 rfl ?_)))))))))))
  refine Reg.take rfl rfl (s_gtr rfl rfl rfl (s_pkF rfl rfl rfl (Reg.nil ?_)))
  obtain rfl := Option.some.inj h86
  refine ⟨rfl, decide (z27.paid.hi < z27.paid.lo), ⟨rfl, rfl⟩, sb10 rfl rfl rfl rfl rfl rfl rfl rfl rfl rfl⟩
 rintro x87 _ ⟨rfl, rfl⟩
 refine cw_cond rfl (fun hc94 => ?_) (fun hc94 => ?_)
 ·replace h := cdT hc94 h
  refine cw_seq (cw_regF (s_as rfl rfl (Reg.nil (cw_ret ?_))))
  obtain rfl := Option.some.inj h
  refine fin1 Tryd.results11 rfl ?_
  exact ⟨rfl, hI84.kp⟩
 replace h := cdF hc94 h
 refine cw_skip (cw_seq (cw_regF (s_as rfl rfl (s_as rfl rfl (Reg.nil (cw_seq (cw_seq (cw_regF (s_mv rfl rfl (s_len rfl (f_l_0.adv hI84.adv) Tryd.underlying22 rfl (s_mv rfl rfl ?_)))))))))))
 refine Reg.nil ?_
 obtain ⟨j95, h96, h⟩ := bnd h
 refine cw_sub (L := [(18, _), (19, _), (88, _), (89, _), (90, _), (0, _), (1, _), (2, _), (3, _), (4, _), (11, _), (13, _), (14, _), (16, _)]) (Sub.cons rfl (Sub.cons rfl (sb12 rfl rfl rfl rfl rfl rfl rfl rfl rfl rfl rfl rfl))) (cw_unitD 5 (ι := Int × Int) (fun ⟨x97, x99⟩ => [(18, vi x97), (19, vi x99)]) (fun ⟨x97, x99⟩ => fun w101 => Hp w [] M [ownR [] ReportE 61 v81 z76, rowR 61 b1 (vR more)] w101 ∧ Adv (mm [ownR [] ReportE 61 v81 z76, rowR 61 b1 (vR more)] M) (mm [ownR [] ReportE 61 v81 z76, rowR 61 b1 (vR more)] M) w79 w101 ∧ InK .i64 x97 ∧ InK .i64 x99 ∧ (x97, x99) = j95) ?_ ?_)
 ·refine cw_block (cw_sub (L := [(18, _), (19, _), (90, _), (0, _), (1, _), (2, _), (3, _), (4, _), (11, _), (13, _), (14, _), (16, _), (88, _), (89, _)]) (Sub.cons rfl (Sub.cons rfl (sb12 rfl rfl rfl rfl rfl rfl rfl rfl rfl rfl rfl rfl))) ?_)
  refine cw_loopM 3 (ι := Int × Int × Int) _ (fun ⟨x104, x106, x108⟩ => [(18, vi x104), (19, vi x106), (90, vi x108)]) (fun ⟨x104, x106, x108⟩ => (x104, x106, x108)) (fun ⟨x104, x106, x108⟩ => fun w110 => Hp w [] M [ownR [] ReportE 61 v81 z76, rowR 61 b1 (vR more)] w110 ∧ Adv (mm [ownR [] ReportE 61 v81 z76, rowR 61 b1 (vR more)] M) (mm [ownR [] ReportE 61 v81 z76, rowR 61 b1 (vR more)] M) w79 w110 ∧ InK .i64 x104 ∧ InK .i64 x106 ∧ InK .i64 x108) (0, 0, 0) h96 ⟨hI84, (Adv.refl _ _), (by decide), (by decide), (by decide)⟩ (Sub.cons rfl (Sub.cons rfl (sb12 rfl rfl rfl rfl rfl rfl rfl rfl rfl rfl rfl rfl))) ?_
  rintro ⟨x104, x106, x108⟩ w110 ⟨hI111, hA112, r105, r107, r109⟩ y113 h114 hR115
  refine cw_seq (cw_regF (s_lss rfl rfl rfl (Reg.nil (cw_seq (cw_cond rfl (fun hc116 => ?_) (fun hc116 => ?_))))))
  ·replace h114 := cdT hc116 h114
   refine cw_skip (cw_seq (cw_block (cw_seq (cw_regF ?_))))
   obtain ⟨y117, hy117, h114⟩ := bnd h114
   refine p_ia rfl rfl (f_l_0.adv hI111.adv) hy117 Tryd.underlying22 Tryd.sizeOf61 rfl ?_
   intro b118 o119 cs120 hR121 hC122
   obtain ⟨rfl, r123, r124, r125, r126, r127, r128, r129, r130⟩ := ReportE_R.1 hR121
   refine s_lda rfl hC122.cells Tryd.isAgg61 rfl Tryd.sizeOf61 rfl (y_al hI111 Tryd.zeroValue61 rfl rfl ?_)
   intro b131 w132 hI133 x134
   refine y_st 0 hI133 rfl rfl rfl rfl Tryd.sizeOf61 rfl rfl (on8 rfl rfl rfl rfl rfl rfl rfl rfl) ?_
   intro w135 hI136 x137
   have hC139 := hI136.freezeRow 0 rfl
   have hI138 := hI136.erase 0
   refine Reg.nil ?_
   refine cw_regT fol (by kernel_rfl) ?_
   refine s_mv rfl rfl (s_fa rfl Tryd.underlying61 rfl Tryd.sizeOf3 rfl (s_ld rfl (hC139.cells.at 1 rfl) Tryd.isAgg3 rfl ?_))
   obtain ⟨n140, hn140, h114⟩ := bnd h114
   replace hn140 := chk_out hn140
   refine p_add rfl rfl rfl hn140 (s_max rfl rfl rfl ?_)
   refine s_mv rfl rfl (s_fa rfl Tryd.underlying61 rfl Tryd.sizeOf3 rfl (s_ld rfl (hC139.cells.at 0 rfl) Tryd.isAgg3 rfl ?_))
   obtain ⟨n141, hn141, h114⟩ := bnd h114
   replace hn141 := chk_out hn141
   refine p_add rfl rfl rfl hn141 (s_max rfl rfl rfl ?_)
   refine s_as rfl rfl (s_as rfl rfl (Reg.nilq (fun w142 e143 => ?_)))
   have hI144 := hI138.ext e143
   refine cw_regF ?_
   obtain ⟨n145, hn145, h114⟩ := bnd h114
   replace hn145 := chk_out hn145
   refine p_add rfl rfl rfl hn145 (s_mv rfl rfl (Reg.nil ?_))
   obtain rfl := Option.some.inj h114
   refine ⟨rfl, (max x104 n140, max x106 n141, n145), ⟨⟨hI144, (hA112.trans (x134.trans (x137.trans ((hI136.eraseH 0).trans (Adv.of_ext e143))))), (InK.imax r105 hn140.2), (InK.imax r107 hn141.2), hn145.2⟩, rfl⟩, Sub.cons rfl (Sub.cons rfl (sb12 rfl rfl rfl rfl rfl rfl rfl rfl rfl rfl rfl rfl))⟩
  replace h114 := cdF hc116 h114
  refine cw_exit (exB_same ?_)
  obtain rfl := Option.some.inj h114
  obtain rfl := hR115 _ rfl
  refine ⟨rfl, (x104, x106), ⟨hI111, hA112, r105, r107, rfl⟩, sb11 rfl rfl rfl rfl rfl rfl rfl rfl rfl rfl rfl⟩
 rintro ⟨x97, x99⟩ w101 ⟨hI102, hA103, r98, r100, rfl⟩
 refine cw_seq (cw_regF (s_as rfl rfl (Reg.nil (cw_seq (cw_regF (y_mkF Ky3 (intE .i64) false hI102 rfl ?_))))))
 intro b146 w147 hI148 x149
 refine s_as rfl rfl (Reg.nil (cw_seq (cw_seq (cw_regF (s_mv rfl rfl (s_lenO rfl (hI148.ownAt 1 rfl) Tryd.underlying22 rfl ?_))))))
 refine s_mv rfl rfl (Reg.nil ?_)
 obtain ⟨j150, h151, h⟩ := bnd h
 refine cw_sub (L := [(22, _), (106, _), (107, _), (108, _), (0, _), (1, _), (2, _), (3, _), (4, _), (11, _), (13, _), (14, _), (18, _), (19, _), (23, _)]) (Sub.cons rfl (Sub.cons rfl (Sub.cons rfl (sb12 rfl rfl rfl rfl rfl rfl rfl rfl rfl rfl rfl rfl)))) (cw_unitD 4 (ι := (List Report) × (FMap Int Int) × Value) (fun ⟨x152, x154, v153⟩ => [(22, v153)]) (fun ⟨x152, x154, v153⟩ => fun w155 => Hp w [] M [ownR [] ReportE 61 v153 x152, mapO Ky3 (intE .i64) false b146 x154, ownR [] ReportE 61 v81 z76, rowR 61 b1 (vR more)] w155 ∧ Adv (mm [mapO Ky3 (intE .i64) false b146 fnone, ownR [] ReportE 61 v81 z76, rowR 61 b1 (vR more)] M) (mm [ownR [] ReportE 61 v153 x152, mapO Ky3 (intE .i64) false b146 x154, ownR [] ReportE 61 v81 z76, rowR 61 b1 (vR more)] M) w147 w155 ∧ (x152, x154) = j150) ?_ ?_)
 ·refine cw_block (cw_sub (L := [(22, _), (108, _), (0, _), (1, _), (2, _), (3, _), (4, _), (11, _), (13, _), (14, _), (18, _), (19, _), (23, _), (106, _), (107, _)]) (Sub.cons rfl (Sub.cons rfl (Sub.cons rfl (sb12 rfl rfl rfl rfl rfl rfl rfl rfl rfl rfl rfl rfl)))) ?_)
  have hI166 := hI148.addNil ReportE 61
  refine cw_loopM 2 (ι := (List Report) × Int × (FMap Int Int) × Value) _ (fun ⟨x158, x160, x162, v159⟩ => [(22, v159), (108, vi x160)]) (fun ⟨x158, x160, x162, v159⟩ => (x158, x160, x162)) (fun ⟨x158, x160, x162, v159⟩ => fun w163 => Hp w [] M [ownR [] ReportE 61 v159 x158, mapO Ky3 (intE .i64) false b146 x162, ownR [] ReportE 61 v81 z76, rowR 61 b1 (vR more)] w163 ∧ Adv (mm [mapO Ky3 (intE .i64) false b146 fnone, ownR [] ReportE 61 v81 z76, rowR 61 b1 (vR more)] M) (mm [ownR [] ReportE 61 v159 x158, mapO Ky3 (intE .i64) false b146 x162, ownR [] ReportE 61 v81 z76, rowR 61 b1 (vR more)] M) w147 w163 ∧ InK .i64 x160) (([] : List Report), 0, fnone, (vn)) h151 ⟨hI166, (hI148.addNilH ReportE 61), (by decide)⟩ (Sub.cons rfl (Sub.cons rfl (Sub.cons rfl (sb12 rfl rfl rfl rfl rfl rfl rfl rfl rfl rfl rfl rfl)))) ?_
  rintro ⟨x158, x160, x162, v159⟩ w163 ⟨hI164, hA165, r161⟩ y167 h168 hR169
  refine cw_seq (cw_regF (s_lss rfl rfl rfl (Reg.nil (cw_seq (cw_cond rfl (fun hc170 => ?_) (fun hc170 => ?_))))))
  ·replace h168 := cdT hc170 h168
   refine cw_skip ?_
   obtain ⟨j171, h172, h168⟩ := bnd h168
   refine cw_sub (L := [(22, _), (0, _), (1, _), (2, _), (3, _), (4, _), (11, _), (13, _), (14, _), (18, _), (19, _), (23, _), (106, _), (107, _), (108, _)]) (Sub.cons rfl (Sub.cons rfl (Sub.cons rfl (sb12 rfl rfl rfl rfl rfl rfl rfl rfl rfl rfl rfl rfl)))) (cw_seqD 1 (ι := (List Report) × (FMap Int Int) × Value) (fun ⟨x173, x175, v174⟩ => [(22, v174)]) (fun ⟨x173, x175, v174⟩ => fun w176 => Hp w [] M [ownR [] ReportE 61 v174 x173, mapO Ky3 (intE .i64) false b146 x175, ownR [] ReportE 61 v81 z76, rowR 61 b1 (vR more)] w176 ∧ Adv (mm [ownR [] ReportE 61 v159 x158, mapO Ky3 (intE .i64) false b146 x162, ownR [] ReportE 61 v81 z76, rowR 61 b1 (vR more)] M) (mm [ownR [] ReportE 61 v174 x173, mapO Ky3 (intE .i64) false b146 x175, ownR [] ReportE 61 v81 z76, rowR 61 b1 (vR more)] M) w163 w176 ∧ (x173, x175) = j171) ?_ ?_)
   ·refine cw_block (cw_seq (cw_regF ?_))
    obtain ⟨y179, hy179, h172⟩ := bnd h172
    refine y_ia 2 hI164 rfl rfl rfl hy179 Tryd.underlying22 Tryd.sizeOf61 rfl ?_
    intro g180 cs181 hg182 hR183 hC184
    have khR183 := hR183
    obtain ⟨rfl, r185, r186, r187, r188, r189, r190, r191, r192⟩ := ReportE_R.1 hR183
    refine s_lda rfl hC184 Tryd.isAgg61 rfl Tryd.sizeOf61 rfl (y_al hI164 Tryd.zeroValue61 rfl rfl ?_)
    intro b193 w194 hI195 x196
    refine y_st 0 hI195 rfl rfl rfl rfl Tryd.sizeOf61 rfl rfl (on8 rfl rfl rfl rfl rfl rfl rfl rfl) ?_
    intro w197 hI198 x199
    have hC201 := hI198.freezeRow 0 rfl
    have hI200 := hI198.erase 0
    refine Reg.nil ?_
    obtain ⟨j202, h203, h172⟩ := bnd h172
    refine cw_sub (L := [(0, _), (1, _), (2, _), (3, _), (4, _), (11, _), (13, _), (14, _), (18, _), (19, _), (22, _), (23, _), (25, _), (106, _), (107, _), (108, _)]) (Sub.cons rfl (Sub.cons rfl (Sub.cons rfl (Sub.cons rfl (sb12 rfl rfl rfl rfl rfl rfl rfl rfl rfl rfl rfl rfl))))) (cw_seqD 0 (ι := Bool) (fun x204 => [(126, Value.bool x204)]) (fun x204 => fun w205 => w197 = w205 ∧ x204 = j202) ?_ ?_)
    ·refine cw_regF (s_fa rfl Tryd.underlying61 rfl Tryd.sizeOf5 rfl (s_ld rfl (hC201.cells.at 5 rfl) Tryd.isAgg5 rfl (s_eql rfl rfl rfl (s_mv rfl rfl (Reg.gsplit (t := 115) rfl (fun hg208 => ?_) (fun hg208 => ?_))))))
     ·replace h203 := cdT hg208 h203
      refine Reg.take rfl rfl (s_fa rfl Tryd.underlying61 rfl Tryd.sizeOf3 rfl (Reg.take rfl rfl (s_ld rfl (hC201.cells.at 2 rfl) Tryd.isAgg3 rfl (Reg.take rfl rfl (s_mv rfl rfl (Reg.take rfl rfl (s_eql rfl rfl rfl (s_pkT rfl rfl rfl (s_mv rfl rfl (Reg.gsplit (t := 121) rfl (fun hg209 => ?_) (fun hg209 => ?_)))))))))))
      ·replace h203 := cdT hg209 h203
       refine Reg.take rfl rfl (s_fa rfl Tryd.underlying61 rfl Tryd.sizeOf3 rfl (Reg.take rfl rfl (s_ld rfl (hC201.cells.at 4 rfl) Tryd.isAgg3 rfl (Reg.take rfl rfl (s_mv rfl rfl (Reg.take rfl rfl (s_leq rfl rfl rfl (s_pkT rfl rfl rfl (Reg.nil ?_)))))))))
       obtain rfl := Option.some.inj h203
       refine ⟨rfl, decide (y179.about ≤ day), ⟨rfl, rfl⟩, Sub.cons rfl (Sub.cons rfl (Sub.cons rfl (Sub.cons rfl (Sub.cons rfl (sb12 rfl rfl rfl rfl rfl rfl rfl rfl rfl rfl rfl rfl)))))⟩
      replace h203 := cdF hg209 h203
      iterate 4 refine Reg.pass rfl rfl rfl rfl ?_
      refine s_pkF rfl rfl rfl (Reg.nil ?_)
      obtain rfl := Option.some.inj h203
      refine ⟨rfl, false, ⟨rfl, rfl⟩, Sub.cons rfl (Sub.cons rfl (Sub.cons rfl (Sub.cons rfl (Sub.cons rfl (sb12 rfl rfl rfl rfl rfl rfl rfl rfl rfl rfl rfl rfl)))))⟩
     replace h203 := cdF hg208 h203
     iterate 4 refine Reg.pass rfl rfl rfl rfl ?_
     refine s_pkF rfl rfl rfl (s_mv rfl rfl ?_)
     iterate 4 refine Reg.pass rfl rfl rfl rfl ?_
     refine s_pkF rfl rfl rfl (Reg.nil ?_)
     obtain rfl := Option.some.inj h203
     refine ⟨rfl, false, ⟨rfl, rfl⟩, Sub.cons rfl (Sub.cons rfl (Sub.cons rfl (Sub.cons rfl (Sub.cons rfl (sb12 rfl rfl rfl rfl rfl rfl rfl rfl rfl rfl rfl rfl)))))⟩
    rintro x204 _ ⟨rfl, rfl⟩
    obtain ⟨j210, h211, h172⟩ := bnd h172
    refine cw_sub (L := [(22, _), (25, _), (126, _), (0, _), (1, _), (2, _), (3, _), (4, _), (11, _), (13, _), (14, _), (18, _), (19, _), (23, _), (106, _), (107, _), (108, _)]) (Sub.cons rfl (Sub.cons rfl (Sub.cons rfl (Sub.cons rfl (Sub.cons rfl (sb12 rfl rfl rfl rfl rfl rfl rfl rfl rfl rfl rfl rfl)))))) (cw_unitD 3 (ι := (List Report) × (FMap Int Int) × Value) (fun ⟨x212, x214, v213⟩ => [(22, v213)]) (fun ⟨x212, x214, v213⟩ => fun w215 => Hp w [] M [ownR [] ReportE 61 v213 x212, mapO Ky3 (intE .i64) false b146 x214, ownR [] ReportE 61 v81 z76, rowR 61 b1 (vR more)] w215 ∧ Adv (mm [ownR [] ReportE 61 v159 x158, mapO Ky3 (intE .i64) false b146 x162, ownR [] ReportE 61 v81 z76, rowR 61 b1 (vR more)] M) (mm [ownR [] ReportE 61 v213 x212, mapO Ky3 (intE .i64) false b146 x214, ownR [] ReportE 61 v81 z76, rowR 61 b1 (vR more)] M) w197 w215 ∧ (x212, x214) = j210) ?_ ?_)
    ·refine cw_cond rfl (fun hc218 => ?_) (fun hc218 => ?_)
     ·replace h211 := cdT hc218 h211
      refine cw_seq (cw_regF (s_mv rfl rfl (s_lda rfl hC201.cells Tryd.isAgg61 rfl Tryd.sizeOf61 rfl (y_bs (E := ReportE) (xs := [(Report.mk y179.id y179.source y179.account y179.made y179.about y179.kind y179.cents y179.of_)]) sl22 hI200 rfl rfl (Cls.cons rfl Cls.nil) (Chs.cons ((ReportE_R (x := (Report.mk y179.id y179.source y179.account y179.made y179.about y179.kind y179.cents y179.of_))).2 ⟨rfl, r185, r186, r187, r188, r189, r190, r191, r192⟩) Chs.nil) rfl rfl ?_))))
      intro v219 w220 hI221 x222
      have hf223 := hI221.freeze 0 rfl
      have hI224 := hI221.erase 0
      obtain ⟨l225, hl225, h211⟩ := bnd h211
      obtain ⟨hbl225, el225⟩ := appo_out hl225
      refine y_app 0 sl22 hI224 rfl rfl rfl hf223 hbl225 rfl ?_
      rw [← el225]
      intro v226 w227 hI228 x229
      refine s_as rfl rfl (Reg.nil (cw_regF (s_mv rfl rfl (s_fa rfl Tryd.underlying61 rfl Tryd.sizeOf3 rfl (s_ld rfl ((hC201.adv (x222.trans ((hI221.eraseH 0).trans x229))).cells.at 4 rfl) Tryd.isAgg3 rfl (s_mv rfl rfl (s_fa rfl Tryd.underlying61 rfl Tryd.sizeOf3 rfl (s_ld rfl ((hC201.adv (x222.trans ((hI221.eraseH 0).trans x229))).cells.at 4 rfl) Tryd.isAgg3 rfl ?_))))))))
      obtain ⟨y230, hy230, h211⟩ := bnd h211
      refine y_lkF1 1 (a := y179.about) (z0 := 0) hI228 rfl rfl rfl (show InK .i64 y179.about from r189) Tryd.underlying79 Tryd.zeroValue3 ⟨_, ⟨rfl, (by decide)⟩, .inr ⟨rfl, rfl⟩⟩ rfl ?_
      intro v231 hv232
      rw [Option.some.inj hy230] at hv232
      have hR233 := Vl.one1 hv232
      obtain ⟨r234', r234⟩ := hR233
      obtain rfl := one_inj r234'
      refine s_fa rfl Tryd.underlying61 rfl Tryd.sizeOf3 rfl (s_ld rfl ((hC201.adv (x222.trans ((hI221.eraseH 0).trans x229))).cells.at 6 rfl) Tryd.isAgg3 rfl (s_max rfl rfl rfl ?_))
      refine y_upF 1 (a := y179.about) (z := max y230 y179.cents) hI228 rfl rfl rfl (show InK .i64 y179.about from r189) rfl ⟨_, ⟨rfl, (InK.imax r234 r191)⟩, .inr ⟨rfl, rfl⟩⟩ Tryd.underlying79 ?_
      intro w235 hI236 x237
      refine Reg.nil ?_
      obtain rfl := Option.some.inj h211
      refine ⟨rfl, (l225, (fput x162 y179.about (max y230 y179.cents)), v226), ⟨hI236, (x222.trans ((hI221.eraseH 0).trans (x229.trans x237))), rfl⟩, Sub.cons rfl (Sub.cons rfl (Sub.cons rfl (sb12 rfl rfl rfl rfl rfl rfl rfl rfl rfl rfl rfl rfl)))⟩
     replace h211 := cdF hc218 h211
     refine cw_skip ?_
     obtain rfl := Option.some.inj h211
     refine ⟨rfl, (x158, x162, v159), ⟨hI200, (Adv.refl _ _), rfl⟩, Sub.cons rfl (Sub.cons rfl (Sub.cons rfl (sb12 rfl rfl rfl rfl rfl rfl rfl rfl rfl rfl rfl rfl)))⟩
    rintro ⟨x212, x214, v213⟩ w215 ⟨hI216, hA217, rfl⟩
    obtain rfl := Option.some.inj h172
    refine ⟨rfl, (x212, x214, v213), ⟨hI216, (x196.trans (x199.trans ((hI198.eraseH 0).trans hA217))), rfl⟩, Sub.cons rfl (Sub.cons rfl (Sub.cons rfl (sb12 rfl rfl rfl rfl rfl rfl rfl rfl rfl rfl rfl rfl)))⟩
   rintro ⟨x173, x175, v174⟩ w176 ⟨hI177, hA178, rfl⟩
   refine cw_regF ?_
   obtain ⟨n238, hn238, h168⟩ := bnd h168
   replace hn238 := chk_out hn238
   refine p_add rfl rfl rfl hn238 (s_mv rfl rfl (Reg.nil ?_))
   obtain rfl := Option.some.inj h168
   refine ⟨rfl, (x173, n238, x175, v174), ⟨⟨hI177, (hA165.trans hA178), hn238.2⟩, rfl⟩, Sub.cons rfl (Sub.cons rfl (Sub.cons rfl (sb12 rfl rfl rfl rfl rfl rfl rfl rfl rfl rfl rfl rfl)))⟩
  replace h168 := cdF hc170 h168
  refine cw_exit (exB_same ?_)
  obtain rfl := Option.some.inj h168
  obtain rfl := hR169 _ rfl
  refine ⟨rfl, (x158, x162, v159), ⟨hI164, hA165, rfl⟩, sb12 rfl rfl rfl rfl rfl rfl rfl rfl rfl rfl rfl rfl⟩
 rintro ⟨x152, x154, v153⟩ w155 ⟨hI156, hA157, rfl⟩
 refine cw_seq (cw_regF (s_as rfl rfl (Reg.nil (cw_seq (cw_seq (cw_regF (s_mv rfl rfl ?_)))))))
 have hf239 := hI156.freezeM 1 rfl
 have hI240 := hI156.erase 1
 refine y_rg hI240 hf239 rfl Tryd.underlying79 rfl ?_
 intro r241 b242 c243 es244 xs245 w246 hX247 hL248 hI249 x250
 refine Reg.nil ?_
 obtain ⟨j251, h252, h⟩ := bnd h
 refine cw_sub (L := [(26, _), (143, _), (0, _), (1, _), (2, _), (3, _), (4, _), (11, _), (13, _), (14, _), (18, _), (19, _), (22, _)]) (Sub.cons rfl (sb12 rfl rfl rfl rfl rfl rfl rfl rfl rfl rfl rfl rfl)) (cw_unitD 2 (ι := Int) (fun x253 => [(26, vi x253)]) (fun x253 => fun w255 => Hp w [] M [ownR [] ReportE 61 v153 x152, ownR [] ReportE 61 v81 z76, rowR 61 b1 (vR more)] w255 ∧ Adv (mm [itR r241 b242 c243 es244 xs245 none xs245, ownR [] ReportE 61 v153 x152, ownR [] ReportE 61 v81 z76, rowR 61 b1 (vR more)] M) (mm [ownR [] ReportE 61 v153 x152, ownR [] ReportE 61 v81 z76, rowR 61 b1 (vR more)] M) w246 w255 ∧ InK .i64 x253 ∧ x253 = j251) ?_ ?_)
 ·refine cw_block (cw_sub (L := [(26, _), (0, _), (1, _), (2, _), (3, _), (4, _), (11, _), (13, _), (14, _), (18, _), (19, _), (22, _), (143, _)]) (Sub.cons rfl (sb12 rfl rfl rfl rfl rfl rfl rfl rfl rfl rfl rfl rfl)) ?_)
  refine cw_loopA 1 (ι := Int) _ (fun x259 => [(26, vi x259)]) (fun x259 => x259) (fun x259 => fun l258 w261 => Hp w [] M [itR r241 b242 c243 es244 xs245 none l258, ownR [] ReportE 61 v153 x152, ownR [] ReportE 61 v81 z76, rowR 61 b1 (vR more)] w261 ∧ Adv (mm [itR r241 b242 c243 es244 xs245 none xs245, ownR [] ReportE 61 v153 x152, ownR [] ReportE 61 v81 z76, rowR 61 b1 (vR more)] M) (mm [itR r241 b242 c243 es244 xs245 none l258, ownR [] ReportE 61 v153 x152, ownR [] ReportE 61 v81 z76, rowR 61 b1 (vR more)] M) w246 w261 ∧ InK .i64 x259) 0 xs245 (anyM_out h252 hL248) ⟨hI249, (Adv.refl _ _), (by decide)⟩ (Sub.cons rfl (sb12 rfl rfl rfl rfl rfl rfl rfl rfl rfl rfl rfl rfl)) ?_
  rintro x259 l258 w261 ⟨hI262, hA263, r260⟩ h265 hR266
  refine cw_seq (cw_regF (y_nx 0 hI262 (hX247.adv (x250.trans hA263)) rfl rfl rfl (fun hn267 => ?_) ?_))
  ·obtain rfl := h265 hn267
   have hI277 := hI262.erase 0
   refine s_xt rfl rfl rfl (Reg.nil (cw_seq (cw_condF rfl ?_)))
   refine cw_exit (exB_same ?_)
   refine ⟨rfl, x259, ⟨hI277, (hA263.trans (hI262.eraseH 0)), r260, rfl⟩, sb12 rfl rfl rfl rfl rfl rfl rfl rfl rfl rfl rfl rfl⟩
  intro y268 l269 k270 v271 w272 hp273 hI274 x275
  obtain ⟨shB276, hB276⟩ := hR266 y268 l269 hp273
  have zhB276 := hB276
  refine s_xt rfl rfl rfl (Reg.nil (cw_seq (cw_condT rfl ?_)))
  refine cw_skip (cw_block (cw_seq (cw_regF (y_en 0 hI274 (hX247.adv (x250.trans (hA263.trans x275))) rfl rfl rfl ?_))))
  intro v278 hk279 hv280
  have hR281 := Vl.one1 hv280
  obtain ⟨r282', r282⟩ := hR281
  obtain rfl := one_inj r282'
  have hI283 := hI274.itOff 0 rfl
  refine s_xt rfl rfl rfl (s_as rfl rfl (Reg.nil (cw_regF (s_mv rfl rfl (s_mv rfl rfl ?_)))))
  obtain ⟨n284, hn284, hB276⟩ := bnd hB276
  replace hn284 := chk_out hn284
  refine p_add rfl rfl rfl hn284 (s_as rfl rfl (Reg.nil ?_))
  obtain rfl := Option.some.inj hB276
  refine ⟨rfl, n284, y268, l269, ⟨hp273, zhB276, ⟨hI283, (hA263.trans (x275.trans (Hp.itOffA (σ := [itR r241 b242 c243 es244 xs245 (some y268) l269, ownR [] ReportE 61 v153 x152, ownR [] ReportE 61 v81 z76, rowR 61 b1 (vR more)]) (M := M) 0 rfl))), hn284.2⟩⟩, Sub.cons rfl (sb12 rfl rfl rfl rfl rfl rfl rfl rfl rfl rfl rfl rfl)⟩
 rintro x253 w255 ⟨hI256, hA257, r254, rfl⟩
 refine cw_seq (cw_seq (cw_regF (s_fa rfl Tryd.underlying42 rfl Tryd.sizeOf40 rfl (s_fa rfl Tryd.underlying40 rfl Tryd.sizeOf3 rfl (s_ld rfl ((hC75.adv ((hI74.addOwnA e80 hf82).trans (hA103.trans (x149.trans (hA157.trans ((hI156.eraseH 1).trans (x250.trans hA257))))))).cells.at 25 rfl) Tryd.isAgg3 rfl (s_mv rfl rfl (s_lss rfl rfl rfl (Reg.nil (cw_cond rfl (fun hc285 => ?_) (fun hc285 => ?_))))))))))
 ·replace h := cdT hc285 h
  refine cw_seq (cw_regF (s_as rfl rfl (Reg.nil (cw_ret ?_))))
  obtain rfl := Option.some.inj h
  refine fin1 Tryd.results11 rfl ?_
  exact ⟨rfl, hI256.kp⟩
 replace h := cdF hc285 h
 refine cw_skip ?_
 obtain ⟨j286, h287, h⟩ := bnd h
 refine cw_keep [4, 18, 19, 22, 0, 1, 2, 3, 11, 13, 14] rfl (cw_seqD 4 (ι := Unit) (fun _ => []) (fun _ => fun w288 => Hp w [] M [ownR [] ReportE 61 v153 x152, ownR [] ReportE 61 v81 z76, rowR 61 b1 (vR more)] w288 ∧ Adv (mm [ownR [] ReportE 61 v153 x152, ownR [] ReportE 61 v81 z76, rowR 61 b1 (vR more)] M) (mm [ownR [] ReportE 61 v153 x152, ownR [] ReportE 61 v81 z76, rowR 61 b1 (vR more)] M) w255 w288 ∧ (.inl ()) = j286) ?_ ?_)
 ·refine cw_seq (cw_regF (s_mv rfl rfl (s_lenO rfl (hI256.ownAt 0 rfl) Tryd.underlying22 rfl ?_)))
  refine s_gtr rfl rfl rfl (Reg.nil ?_)
  obtain ⟨j291, h292, h287⟩ := bnd h287
  refine cw_keep [4, 18, 19, 22, 158, 0, 1, 2, 3, 11, 13, 14] rfl (cw_unitD 5 (ι := Unit) (fun _ => []) (fun _ => fun w293 => Hp w [] M [ownR [] ReportE 61 v153 x152, ownR [] ReportE 61 v81 z76, rowR 61 b1 (vR more)] w293 ∧ Adv (mm [ownR [] ReportE 61 v153 x152, ownR [] ReportE 61 v81 z76, rowR 61 b1 (vR more)] M) (mm [ownR [] ReportE 61 v153 x152, ownR [] ReportE 61 v81 z76, rowR 61 b1 (vR more)] M) w255 w293 ∧ (.inl ()) = j291) ?_ ?_)
  ·refine cw_cond rfl (fun hc296 => ?_) (fun hc296 => ?_)
   ·replace h292 := cdT hc296 h292
    refine cw_seq (cw_regF (s_mv rfl rfl (s_mv rfl rfl ?_)))
    obtain ⟨n297, hn297, h292⟩ := bnd h292
    replace hn297 := chk_out hn297
    refine p_cvt rfl Tryd.underlying5 Tryd.underlying3 rfl hn297 ?_
    refine s_mv rfl rfl (s_lenO rfl (hI256.ownAt 0 rfl) Tryd.underlying22 rfl ?_)
    obtain ⟨n298, hn298, h292⟩ := bnd h292
    have kn298 := remO_out hn298
    refine p_rem rfl rfl rfl kn298 ?_
    obtain ⟨y299, hy299, h292⟩ := bnd h292
    refine y_ia 0 hI256 rfl rfl rfl hy299 Tryd.underlying22 Tryd.sizeOf61 rfl ?_
    intro g300 cs301 hg302 hR303 hC304
    have khR303 := hR303
    obtain ⟨rfl, r305, r306, r307, r308, r309, r310, r311, r312⟩ := ReportE_R.1 hR303
    refine s_fa rfl Tryd.underlying61 rfl Tryd.sizeOf3 rfl (s_ld rfl (hC304.at 1 rfl) Tryd.isAgg3 rfl (s_as rfl rfl (Reg.nil (cw_seq (cw_regF (y_bs (E := ReportE) (xs := []) sl22 hI256 rfl rfl Cls.nil Chs.nil rfl rfl ?_))))))
    intro v313 w314 hI315 x316
    refine s_mv rfl rfl ?_
    obtain ⟨l317, hl317, h292⟩ := bnd h292
    obtain ⟨hbl317, el317⟩ := appo_out hl317
    refine y_app 0 sl22 hI315 rfl rfl rfl (f_l_0.adv hI315.adv) hbl317 rfl ?_
    rw [← el317]
    intro v318 w319 hI320 x321
    refine s_as rfl rfl (Reg.nil (cw_seq (cw_seq (cw_regF (s_mv rfl rfl (s_lenO rfl (hI320.ownAt 1 rfl) Tryd.underlying22 rfl ?_))))))
    refine s_mv rfl rfl (Reg.nil ?_)
    obtain ⟨j322, h323, h292⟩ := bnd h292
    refine cw_sub (L := [(18, _), (19, _), (29, _), (30, _), (171, _), (172, _), (173, _), (0, _), (1, _), (2, _), (3, _), (11, _), (13, _), (14, _)]) (Sub.cons rfl (Sub.cons rfl (sb12 rfl rfl rfl rfl rfl rfl rfl rfl rfl rfl rfl rfl))) (cw_unitD 7 (ι := (List Report) × Value) (fun ⟨x324, v325⟩ => [(30, v325)]) (fun ⟨x324, v325⟩ => fun w326 => Hp w [] M [ownR [] ReportE 61 v325 x324, ownR [] ReportE 61 v153 x152, ownR [] ReportE 61 v81 z76, rowR 61 b1 (vR more)] w326 ∧ Adv (mm [ownR [] ReportE 61 v318 l317, ownR [] ReportE 61 v153 x152, ownR [] ReportE 61 v81 z76, rowR 61 b1 (vR more)] M) (mm [ownR [] ReportE 61 v325 x324, ownR [] ReportE 61 v153 x152, ownR [] ReportE 61 v81 z76, rowR 61 b1 (vR more)] M) w319 w326 ∧ x324 = j322) ?_ ?_)
    ·refine cw_block (cw_sub (L := [(19, _), (30, _), (173, _), (0, _), (1, _), (2, _), (3, _), (11, _), (13, _), (14, _), (18, _), (29, _), (171, _), (172, _)]) (Sub.cons rfl (Sub.cons rfl (sb12 rfl rfl rfl rfl rfl rfl rfl rfl rfl rfl rfl rfl))) ?_)
     refine cw_loopM 3 (ι := Int × (List Report) × Int × Value) _ (fun ⟨x329, x331, x333, v332⟩ => [(19, vi x329), (30, v332), (173, vi x333)]) (fun ⟨x329, x331, x333, v332⟩ => (x329, x331, x333)) (fun ⟨x329, x331, x333, v332⟩ => fun w335 => Hp w [] M [ownR [] ReportE 61 v332 x331, ownR [] ReportE 61 v153 x152, ownR [] ReportE 61 v81 z76, rowR 61 b1 (vR more)] w335 ∧ Adv (mm [ownR [] ReportE 61 v318 l317, ownR [] ReportE 61 v153 x152, ownR [] ReportE 61 v81 z76, rowR 61 b1 (vR more)] M) (mm [ownR [] ReportE 61 v332 x331, ownR [] ReportE 61 v153 x152, ownR [] ReportE 61 v81 z76, rowR 61 b1 (vR more)] M) w319 w335 ∧ InK .i64 x329 ∧ InK .i64 x333) (x99, l317, 0, v318) h323 ⟨hI320, (Adv.refl _ _), r100, (by decide)⟩ (Sub.cons rfl (Sub.cons rfl (sb12 rfl rfl rfl rfl rfl rfl rfl rfl rfl rfl rfl rfl))) ?_
     rintro ⟨x329, x331, x333, v332⟩ w335 ⟨hI336, hA337, r330, r334⟩ y338 h339 hR340
     refine cw_seq (cw_regF (s_lss rfl rfl rfl (Reg.nil (cw_seq (cw_cond rfl (fun hc341 => ?_) (fun hc341 => ?_))))))
     ·replace h339 := cdT hc341 h339
      refine cw_skip ?_
      obtain ⟨j342, h343, h339⟩ := bnd h339
      refine cw_sub (L := [(19, _), (30, _), (0, _), (1, _), (2, _), (3, _), (11, _), (13, _), (14, _), (18, _), (29, _), (171, _), (172, _), (173, _)]) (Sub.cons rfl (Sub.cons rfl (sb12 rfl rfl rfl rfl rfl rfl rfl rfl rfl rfl rfl rfl))) (cw_seqD 2 (ι := Int × (List Report) × Value) (fun ⟨x344, x346, v347⟩ => [(19, vi x344), (30, v347)]) (fun ⟨x344, x346, v347⟩ => fun w348 => Hp w [] M [ownR [] ReportE 61 v347 x346, ownR [] ReportE 61 v153 x152, ownR [] ReportE 61 v81 z76, rowR 61 b1 (vR more)] w348 ∧ Adv (mm [ownR [] ReportE 61 v332 x331, ownR [] ReportE 61 v153 x152, ownR [] ReportE 61 v81 z76, rowR 61 b1 (vR more)] M) (mm [ownR [] ReportE 61 v347 x346, ownR [] ReportE 61 v153 x152, ownR [] ReportE 61 v81 z76, rowR 61 b1 (vR more)] M) w335 w348 ∧ InK .i64 x344 ∧ (x344, x346) = j342) ?_ ?_)
      ·refine cw_block (cw_seq (cw_regF ?_))
       obtain ⟨y351, hy351, h343⟩ := bnd h343
       refine y_ia 1 hI336 rfl rfl rfl hy351 Tryd.underlying22 Tryd.sizeOf61 rfl ?_
       intro g352 cs353 hg354 hR355 hC356
       have khR355 := hR355
       obtain ⟨rfl, r357, r358, r359, r360, r361, r362, r363, r364⟩ := ReportE_R.1 hR355
       refine s_lda rfl hC356 Tryd.isAgg61 rfl Tryd.sizeOf61 rfl (y_al hI336 Tryd.zeroValue61 rfl rfl ?_)
       intro b365 w366 hI367 x368
       refine y_st 0 hI367 rfl rfl rfl rfl Tryd.sizeOf61 rfl rfl (on8 rfl rfl rfl rfl rfl rfl rfl rfl) ?_
       intro w369 hI370 x371
       have hC373 := hI370.freezeRow 0 rfl
       have hI372 := hI370.erase 0
       refine Reg.nil (cw_seq (cw_regF (s_fa rfl Tryd.underlying61 rfl Tryd.sizeOf3 rfl (s_ld rfl (hC373.cells.at 1 rfl) Tryd.isAgg3 rfl (s_mv rfl rfl (s_eql rfl rfl rfl (Reg.nil ?_)))))))
       obtain ⟨j374, h375, h343⟩ := bnd h343
       refine cw_sub (L := [(19, _), (30, _), (32, _), (180, _), (0, _), (1, _), (2, _), (3, _), (11, _), (13, _), (14, _), (18, _), (29, _), (171, _), (172, _), (173, _)]) (Sub.cons rfl (Sub.cons rfl (Sub.cons rfl (Sub.cons rfl (sb12 rfl rfl rfl rfl rfl rfl rfl rfl rfl rfl rfl rfl))))) (cw_unitD 4 (ι := Int × (List Report) × Value) (fun ⟨x376, x378, v379⟩ => [(19, vi x376), (30, v379)]) (fun ⟨x376, x378, v379⟩ => fun w380 => Hp w [] M [ownR [] ReportE 61 v379 x378, ownR [] ReportE 61 v153 x152, ownR [] ReportE 61 v81 z76, rowR 61 b1 (vR more)] w380 ∧ Adv (mm [ownR [] ReportE 61 v332 x331, ownR [] ReportE 61 v153 x152, ownR [] ReportE 61 v81 z76, rowR 61 b1 (vR more)] M) (mm [ownR [] ReportE 61 v379 x378, ownR [] ReportE 61 v153 x152, ownR [] ReportE 61 v81 z76, rowR 61 b1 (vR more)] M) w369 w380 ∧ InK .i64 x376 ∧ (x376, x378) = j374) ?_ ?_)
       ·refine cw_cond rfl (fun hc383 => ?_) (fun hc383 => ?_)
        ·replace h375 := cdT hc383 h375
         refine cw_seq (cw_regF ?_)
         iterate 5 refine s_mv rfl rfl ?_
         refine s_fa rfl Tryd.underlying61 rfl Tryd.sizeOf3 rfl (s_ld rfl (hC373.cells.at 4 rfl) Tryd.isAgg3 rfl (s_fa rfl Tryd.underlying61 rfl Tryd.sizeOf3 rfl (s_ld rfl (hC373.cells.at 6 rfl) Tryd.isAgg3 rfl ?_)))
         refine s_bd [(0, 1), (1, 1), (2, 1), (3, 1), (4, 1), (5, 1), (6, 1), (7, 1)] Tryd.zeroValue61 rfl Tryd.underlying61 (fun _ => by simp [Tryd.sizeOf3, Tryd.sizeOf5]) rfl (Cls.cons rfl (Cls.cons rfl (Cls.cons rfl (Cls.cons rfl (Cls.cons rfl (Cls.cons rfl (Cls.cons rfl (Cls.nil)))))))) rfl rfl ?_
         refine y_bs (E := ReportE) (xs := [(Report.mk x329 x97 id known y351.about 4 y351.cents 0)]) sl22 hI372 rfl rfl (Cls.cons rfl Cls.nil) (Chs.cons ((ReportE_R (x := (Report.mk x329 x97 id known y351.about 4 y351.cents 0))).2 ⟨rfl, r330, r98, f_id_0, f_known_0, r361, (show InK .u8 4 by decide), r363, (show InK .i64 0 by decide)⟩) Chs.nil) rfl rfl ?_
         intro v384 w385 hI386 x387
         have hf388 := hI386.freeze 0 rfl
         have hI389 := hI386.erase 0
         obtain ⟨l390, hl390, h375⟩ := bnd h375
         obtain ⟨hbl390, el390⟩ := appo_out hl390
         refine y_app 0 sl22 hI389 rfl rfl rfl hf388 hbl390 rfl ?_
         rw [← el390]
         intro v391 w392 hI393 x394
         refine s_as rfl rfl (Reg.nil (cw_regF (s_mv rfl rfl ?_)))
         obtain ⟨n395, hn395, h375⟩ := bnd h375
         replace hn395 := chk_out hn395
         refine p_add rfl rfl rfl hn395 (s_as rfl rfl (Reg.nil ?_))
         obtain rfl := Option.some.inj h375
         refine ⟨rfl, (n395, l390, v391), ⟨hI393, (x387.trans ((hI386.eraseH 0).trans x394)), hn395.2, rfl⟩, Sub.cons rfl (Sub.cons rfl (sb12 rfl rfl rfl rfl rfl rfl rfl rfl rfl rfl rfl rfl))⟩
        replace h375 := cdF hc383 h375
        refine cw_skip ?_
        obtain rfl := Option.some.inj h375
        refine ⟨rfl, (x329, x331, v332), ⟨hI372, (Adv.refl _ _), r330, rfl⟩, Sub.cons rfl (Sub.cons rfl (sb12 rfl rfl rfl rfl rfl rfl rfl rfl rfl rfl rfl rfl))⟩
       rintro ⟨x376, x378, v379⟩ w380 ⟨hI381, hA382, r377, rfl⟩
       obtain rfl := Option.some.inj h343
       refine ⟨rfl, (x376, x378, v379), ⟨hI381, (x368.trans (x371.trans ((hI370.eraseH 0).trans hA382))), r377, rfl⟩, Sub.cons rfl (Sub.cons rfl (sb12 rfl rfl rfl rfl rfl rfl rfl rfl rfl rfl rfl rfl))⟩
      rintro ⟨x344, x346, v347⟩ w348 ⟨hI349, hA350, r345, rfl⟩
      refine cw_regF ?_
      obtain ⟨n396, hn396, h339⟩ := bnd h339
      replace hn396 := chk_out hn396
      refine p_add rfl rfl rfl hn396 (s_mv rfl rfl (Reg.nil ?_))
      obtain rfl := Option.some.inj h339
      refine ⟨rfl, (x344, x346, n396, v347), ⟨⟨hI349, (hA337.trans hA350), r345, hn396.2⟩, rfl⟩, Sub.cons rfl (Sub.cons rfl (sb12 rfl rfl rfl rfl rfl rfl rfl rfl rfl rfl rfl rfl))⟩
     replace h339 := cdF hc341 h339
     refine cw_exit (exB_same ?_)
     obtain rfl := Option.some.inj h339
     obtain rfl := hR340 _ rfl
     refine ⟨rfl, (x331, v332), ⟨hI336, hA337, rfl⟩, sb8 rfl rfl rfl rfl rfl rfl rfl rfl⟩
    rintro ⟨x324, v325⟩ w326 ⟨hI327, hA328, rfl⟩
    refine cw_seq (cw_regF (s_mv rfl rfl ?_))
    obtain ⟨z397, hz398, h292⟩ := bnd h292
    refine s_call rfl Tryd.call18 rfl ((C_ref03_Check (hI327.sel [1, 2, 3] rfl).mlt (hI327.lendRd [1, 2, 3] 0 rfl rfl) hz398).mono ?_)
    rintro _ w399 ⟨rfl, r401, e400⟩
    refine ⟨_, rfl, ?_⟩
    have hI402 := hI327.ext e400
    refine s_eql rfl rfl rfl (Reg.nil ?_)
    obtain ⟨j403, h404, h292⟩ := bnd h292
    refine cw_keep [30, 198, 0, 1, 2, 3, 11, 13, 14] rfl (cw_unitD 2 (ι := Unit) (fun _ => []) (fun _ => fun w405 => Hp w [] M [ownR [] ReportE 61 v153 x152, ownR [] ReportE 61 v81 z76, rowR 61 b1 (vR more)] w405 ∧ Adv (mm [ownR [] ReportE 61 v325 x324, ownR [] ReportE 61 v153 x152, ownR [] ReportE 61 v81 z76, rowR 61 b1 (vR more)] M) (mm [ownR [] ReportE 61 v153 x152, ownR [] ReportE 61 v81 z76, rowR 61 b1 (vR more)] M) w399 w405 ∧ (.inl ()) = j403) ?_ ?_)
    ·refine cw_cond rfl (fun hc408 => ?_) (fun hc408 => ?_)
     ·replace h404 := cdT hc408 h404
      refine cw_seq (cw_regF ?_)
      iterate 4 refine s_mv rfl rfl ?_
      have hf409 := hI402.freeze 0 rfl
      have hI410 := hI402.erase 0
      obtain ⟨⟨z411, z412⟩, hz413, h404⟩ := bnd h404
      refine s_call rfl Tryd.call20 rfl ((C_account_State hI410.mlt (hG.adv hI410.adv) hf409 f_id_0 f_day_0 f_known_0 hz413).mono ?_)
      rintro _ w414 ⟨v419, v424, v429, v434, v439, v444, rfl, r416, r417, r418, hf420, r421, r422, r423, hf425, r426, r427, r428, hf430, r431, r432, r433, hf435, r436, r437, r438, hf440, r441, r442, r443, hf445, r446, r447, r448, r449, e415⟩
      refine ⟨_, rfl, ?_⟩
      have hI450 := hI410.ext e415
      refine s_mv rfl rfl (s_xt rfl rfl rfl (s_xt rfl rfl rfl (y_al hI450 Tryd.zeroValue42 rfl rfl ?_)))
      intro b451 w452 hI453 x454
      refine y_st 0 hI453 rfl rfl rfl rfl Tryd.sizeOf42 rfl rfl (one1 rfl (one1 rfl (one1 rfl (one1 (RdS.oneC hf420) (one1 rfl (one1 rfl (one1 rfl (one1 (RdS.oneC hf425) (one1 rfl (one1 rfl (one1 rfl (one1 (RdS.oneC hf430) (one1 rfl (one1 rfl (one1 rfl (one1 (RdS.oneC hf435) (one1 rfl (one1 rfl (one1 rfl (one1 (RdS.oneC hf440) (one1 rfl (one1 rfl (one1 rfl (one1 (RdS.oneC hf445) (on3 rfl rfl rfl))))))))))))))))))))))))) ?_
      intro w455 hI456 x457
      have hC459 := hI456.freezeRow 0 rfl
      have hI458 := hI456.erase 0
      refine s_as rfl rfl (Reg.nil ?_)
      obtain ⟨j460, h461, h404⟩ := bnd h404
      refine cw_keep [33, 34, 0, 1, 2, 3, 11, 13, 14] rfl (cw_seqD 2 (ι := Bool) (fun x462 => [(215, Value.bool x462)]) (fun x462 => fun w463 => w455 = w463 ∧ x462 = j460) ?_ ?_)
      ·refine cw_regF (s_mv rfl rfl (s_neq rfl rfl rfl (s_mv rfl rfl (Reg.gsplit (t := 209) rfl (fun hg466 => ?_) (fun hg466 => ?_)))))
       ·replace h461 := cdT hg466 h461
        iterate 5 refine Reg.pass rfl rfl rfl rfl ?_
        refine s_pkT rfl rfl rfl (Reg.nil ?_)
        obtain rfl := Option.some.inj h461
        refine ⟨rfl, true, ⟨rfl, rfl⟩, sb8 rfl rfl rfl rfl rfl rfl rfl rfl⟩
       replace h461 := cdF hg466 h461
       refine Reg.take rfl rfl (s_fa rfl Tryd.underlying42 rfl Tryd.sizeOf40 rfl (Reg.take rfl rfl (s_lda rfl (Cells.sub hC459.cells 24 2) Tryd.isAgg40 rfl Tryd.sizeOf40 rfl (Reg.take rfl rfl (s_fa rfl Tryd.underlying42 rfl Tryd.sizeOf40 rfl (Reg.take rfl rfl (s_lda rfl (Cells.sub (hC75.adv ((hI74.addOwnA e80 hf82).trans (hA103.trans (x149.trans (hA157.trans ((hI156.eraseH 1).trans (x250.trans (hA257.trans (x316.trans (x321.trans (hA328.trans ((Adv.of_ext e400).trans ((hI402.eraseH 0).trans ((Adv.of_ext e415).trans (x454.trans (x457.trans (hI456.eraseH 0))))))))))))))))).cells 24 2) Tryd.isAgg40 rfl Tryd.sizeOf40 rfl (Reg.take rfl rfl (s_neS (Span_eq (Span.mk z411.paid.lo z411.paid.hi) (Span.mk z27.paid.lo z27.paid.hi)) Tryd.eqGuardType40 rfl rfl rfl ?_)))))))))
       refine s_pkF rfl rfl rfl (Reg.nil ?_)
       obtain rfl := Option.some.inj h461
       refine ⟨rfl, !decide ((Span.mk z411.paid.lo z411.paid.hi) = (Span.mk z27.paid.lo z27.paid.hi)), ⟨rfl, rfl⟩, sb8 rfl rfl rfl rfl rfl rfl rfl rfl⟩
      rintro x462 _ ⟨rfl, rfl⟩
      refine cw_cond rfl (fun hc467 => ?_) (fun hc467 => ?_)
      ·replace h404 := cdT hc467 h404
       refine cw_seq (cw_regF (s_as rfl rfl (Reg.nil (cw_ret ?_))))
       obtain rfl := Option.some.inj h404
       replace h292 := elimR h292
       obtain rfl := Option.some.inj h292
       replace h287 := elimR h287
       obtain rfl := Option.some.inj h287
       replace h := elimR h
       obtain rfl := Option.some.inj h
       refine fin1 Tryd.results11 rfl ?_
       exact ⟨rfl, hI458.kp⟩
      replace h404 := cdF hc467 h404
      refine cw_skip ?_
      obtain rfl := Option.some.inj h404
      refine ⟨rfl, (), ⟨hI458, ((hI402.eraseH 0).trans ((Adv.of_ext e415).trans (x454.trans (x457.trans (hI456.eraseH 0))))), rfl⟩, sb7 rfl rfl rfl rfl rfl rfl rfl⟩
     replace h404 := cdF hc408 h404
     refine cw_skip ?_
     obtain rfl := Option.some.inj h404
     refine ⟨rfl, (), ⟨(hI402.sel [1, 2, 3] rfl), (Hp.selA (σ := [ownR [] ReportE 61 v325 x324, ownR [] ReportE 61 v153 x152, ownR [] ReportE 61 v81 z76, rowR 61 b1 (vR more)]) [1, 2, 3]), rfl⟩, sb7 rfl rfl rfl rfl rfl rfl rfl⟩
    rintro _ w405 ⟨hI406, hA407, rfl⟩
    replace h292 := elimL h292
    obtain rfl := Option.some.inj h292
    refine ⟨rfl, (), ⟨hI406, (x316.trans (x321.trans (hA328.trans ((Adv.of_ext e400).trans hA407)))), rfl⟩, sb7 rfl rfl rfl rfl rfl rfl rfl⟩
   replace h292 := cdF hc296 h292
   refine cw_skip ?_
   obtain rfl := Option.some.inj h292
   refine ⟨rfl, (), ⟨hI256, (Adv.refl _ _), rfl⟩, sb7 rfl rfl rfl rfl rfl rfl rfl⟩
  rintro _ w293 ⟨hI294, hA295, rfl⟩
  replace h287 := elimL h287
  obtain rfl := Option.some.inj h287
  refine ⟨rfl, (), ⟨hI294, hA295, rfl⟩, sb7 rfl rfl rfl rfl rfl rfl rfl⟩
 rintro _ w288 ⟨hI289, hA290, rfl⟩
 replace h := elimL h
 refine cw_seq (cw_regF (s_mv rfl rfl (s_fa rfl Tryd.underlying61 rfl Tryd.sizeOf5 rfl (y_st 2 hI289 rfl rfl rfl rfl Tryd.sizeOf5 rfl rfl (one1 rfl one0) ?_))))
 intro w468 hI469 x470
 refine s_fa rfl Tryd.underlying61 rfl Tryd.sizeOf3 rfl (y_st 2 hI469 rfl rfl rfl rfl Tryd.sizeOf3 rfl rfl (one1 rfl one0) ?_)
 intro w471 hI472 x473
 have hC475 := hI472.freezeRow 2 rfl
 have hI474 := hI472.erase 2
 refine Reg.nil ?_
 obtain ⟨j476, h477, h⟩ := bnd h
 refine cw_keep [0, 1, 2, 3, 11, 13, 14] rfl (cw_seqD 0 (ι := (List Report) × Value) (fun ⟨x478, v479⟩ => [(35, v479)]) (fun ⟨x478, v479⟩ => fun w480 => Hp w [] M [ownR [] ReportE 61 v479 x478, ownR [] ReportE 61 v153 x152, ownR [] ReportE 61 v81 z76] w480 ∧ Adv (mm [ownR [] ReportE 61 v153 x152, ownR [] ReportE 61 v81 z76] M) (mm [ownR [] ReportE 61 v479 x478, ownR [] ReportE 61 v153 x152, ownR [] ReportE 61 v81 z76] M) w471 w480 ∧ x478 = j476) ?_ ?_)
 ·refine cw_regSea [0, 1, 3] [2, 4, 5, 6] [219] [] [] [(219, .p fun v _ => KLit v)] fol (by kernel_rfl) rfl (by kernel_rfl) rfl rfl ?_
  refine Reg.relX KLit rfl rfl rfl ?_ ?_
  ·intro w483 e483; refine s_bs0 sl22 rfl ?_; intro a483 w483_ x483; exact Reg.nil ⟨rfl, x483, _, rfl, ⟨_, rfl⟩, trivial⟩
  refine s_mv rfl rfl (s_lda rfl hC475.cells Tryd.isAgg61 rfl Tryd.sizeOf61 rfl (Reg.nilX ⟨rfl, rfl, rfl, ?_⟩))
  intro w484 e485
  have hI486 := (Hp.start (Mu := []) hI474.mlt).ext e485
  obtain ⟨l491, hl491, h477⟩ := bnd h477
  obtain ⟨l508, hl508, h477⟩ := bnd h477
  refine SeaWalk.step [2, 4] (by kernel_rfl) (AllL.cons ?_ (AllL.cons ?_ (AllL.nil)))
  ·refine ⟨_, [(219, _)], rfl, RSub.cons rfl rfl (RSub.nil), rfl, nodupB_spec rfl, ?_⟩
   simp only [relOut]
   intro u520 k521 s522
   have hI523 := hI486.addLit ReportE 61 k521
   obtain ⟨hbl491, el491⟩ := appo_out hl491
   refine y_app 0 sl22 hI523 rfl rfl rfl (f_l_0.adv (hI474.adv.trans ((Adv.of_ext e485).trans (Hp.addLitA (σ := []) ReportE 61 k521)))) hbl491 rfl ?_
   rw [← el491]
   intro v524 w525 hI526 x527
   refine Reg.nilK [0, 1, 2, 3, 11, 13, 14, 221, 222] rfl ⟨rfl, .inr hI526.kp, rfl, ?_⟩
   intro w528 e529
   have hI530 := hI526.ext e529
   refine SeaWalk.step [4] (by kernel_rfl) (AllL.cons ?_ (AllL.nil))
   refine ⟨_, [], rfl, RSub.nil, rfl, nodupB_spec rfl, ?_⟩
   simp only [relOut]
   refine y_bs (E := ReportE) (xs := [(Report.mk more.id more.source id more.made more.about 4 more.cents more.of_)]) sl22 hI530 rfl rfl (Cls.cons rfl Cls.nil) (Chs.cons ((ReportE_R (x := (Report.mk more.id more.source id more.made more.about 4 more.cents more.of_))).2 ⟨rfl, f_more_0, f_more_1, f_id_0, f_more_3, f_more_4, (show InK .u8 4 by decide), f_more_6, f_more_7⟩) Chs.nil) rfl rfl ?_
   intro v531 w532 hI533 x534
   refine Reg.nil ⟨rfl, .inr hI533.kp, rfl, ?_⟩
   intro w535 e536
   have hI537 := hI533.ext e536
   refine SeaWalk.step [5] (by kernel_rfl) (AllL.cons ?_ (AllL.nil))
   refine ⟨_, [], rfl, RSub.nil, rfl, nodupB_spec rfl, ?_⟩
   simp only [relOut]
   have hf538 := hI537.freeze 0 rfl
   have hI539 := hI537.erase 0
   obtain ⟨hbl508, el508⟩ := appo_out hl508
   refine y_app 0 sl22 hI539 rfl rfl rfl hf538 hbl508 rfl ?_
   rw [← el508]
   intro v540 w541 hI542 x543
   refine Reg.nil ⟨rfl, .inr hI542.kp, rfl, ?_⟩
   intro w544 e545
   have hI546 := hI542.ext e545
   refine SeaWalk.step [6] (by kernel_rfl) (AllL.cons ?_ (AllL.nil))
   refine ⟨_, [], rfl, RSub.nil, rfl, nodupB_spec rfl, ?_⟩
   simp only [relOut]
   refine s_as rfl rfl (Reg.nil ⟨rfl, .inr hI546.kp, rfl, ?_⟩)
   intro w547 e548
   have hI549 := hI546.ext e548
   refine SeaWalk.done ?_
   have hI550 := hI474.join hI549
   obtain rfl := Option.some.inj h477
   refine ⟨rfl, (l508, v540), ⟨hI550, ((Adv.of_ext e485).trans ((Hp.addLitA (σ := []) ReportE 61 k521).trans (x527.trans ((Adv.of_ext e529).trans (x534.trans ((Adv.of_ext e536).trans ((hI537.eraseH 0).trans (x543.trans ((Adv.of_ext e545).trans (Adv.of_ext e548)))))))))), rfl⟩, sb8 rfl rfl rfl rfl rfl rfl rfl rfl⟩
  refine ⟨_, [], rfl, RSub.nil, rfl, nodupB_spec rfl, ?_⟩
  simp only [relOut]
  refine y_bs (E := ReportE) (xs := [(Report.mk more.id more.source id more.made more.about 4 more.cents more.of_)]) sl22 hI486 rfl rfl (Cls.cons rfl Cls.nil) (Chs.cons ((ReportE_R (x := (Report.mk more.id more.source id more.made more.about 4 more.cents more.of_))).2 ⟨rfl, f_more_0, f_more_1, f_id_0, f_more_3, f_more_4, (show InK .u8 4 by decide), f_more_6, f_more_7⟩) Chs.nil) rfl rfl ?_
  intro v551 w552 hI553 x554
  refine Reg.nil ⟨rfl, .inr hI553.kp, rfl, ?_⟩
  intro w555 e556
  have hI557 := hI553.ext e556
  refine SeaWalk.step [2] (by kernel_rfl) (AllL.cons ?_ (AllL.nil))
  refine ⟨_, [(219, _)], rfl, RSub.cons rfl rfl (RSub.nil), rfl, nodupB_spec rfl, ?_⟩
  simp only [relOut]
  intro u558 k559 s560
  have hI561 := hI557.addLit ReportE 61 k559
  obtain ⟨hbl491, el491⟩ := appo_out hl491
  refine y_app 0 sl22 hI561 rfl rfl rfl (f_l_0.adv (hI474.adv.trans ((Adv.of_ext e485).trans (x554.trans ((Adv.of_ext e556).trans (Hp.addLitA (σ := [ownR [] ReportE 61 v551 ([(Report.mk more.id more.source id more.made more.about 4 more.cents more.of_)] : List Report)]) ReportE 61 k559)))))) hbl491 rfl ?_
  rw [← el491]
  intro v562 w563 hI564 x565
  refine Reg.nilK [0, 1, 2, 3, 11, 13, 14, 221, 223] rfl ⟨rfl, .inr hI564.kp, rfl, ?_⟩
  intro w566 e567
  have hI568 := hI564.ext e567
  refine SeaWalk.step [5] (by kernel_rfl) (AllL.cons ?_ (AllL.nil))
  refine ⟨_, [], rfl, RSub.nil, rfl, nodupB_spec rfl, ?_⟩
  simp only [relOut]
  have hf569 := hI568.freeze 1 rfl
  have hI570 := hI568.erase 1
  obtain ⟨hbl508, el508⟩ := appo_out hl508
  refine y_app 0 sl22 hI570 rfl rfl rfl hf569 hbl508 rfl ?_
  rw [← el508]
  intro v571 w572 hI573 x574
  refine Reg.nil ⟨rfl, .inr hI573.kp, rfl, ?_⟩
  intro w575 e576
  have hI577 := hI573.ext e576
  refine SeaWalk.step [6] (by kernel_rfl) (AllL.cons ?_ (AllL.nil))
  refine ⟨_, [], rfl, RSub.nil, rfl, nodupB_spec rfl, ?_⟩
  simp only [relOut]
  refine s_as rfl rfl (Reg.nil ⟨rfl, .inr hI577.kp, rfl, ?_⟩)
  intro w578 e579
  have hI580 := hI577.ext e579
  refine SeaWalk.done ?_
  have hI581 := hI474.join hI580
  obtain rfl := Option.some.inj h477
  refine ⟨rfl, (l508, v571), ⟨hI581, ((Adv.of_ext e485).trans (x554.trans ((Adv.of_ext e556).trans ((Hp.addLitA (σ := [ownR [] ReportE 61 v551 ([(Report.mk more.id more.source id more.made more.about 4 more.cents more.of_)] : List Report)]) ReportE 61 k559).trans (x565.trans ((Adv.of_ext e567).trans ((hI568.eraseH 1).trans (x574.trans ((Adv.of_ext e576).trans (Adv.of_ext e579)))))))))), rfl⟩, sb8 rfl rfl rfl rfl rfl rfl rfl rfl⟩
 rintro ⟨x478, v479⟩ w480 ⟨hI481, hA482, rfl⟩
 refine cw_seq (cw_seq (cw_regF (s_mv rfl rfl ?_)))
 obtain ⟨z582, hz583, h⟩ := bnd h
 refine s_call rfl Tryd.call18 rfl ((C_ref03_Check (hI481.sel [1, 2] rfl).mlt (hI481.lendRd [1, 2] 0 rfl rfl) hz583).mono ?_)
 rintro _ w584 ⟨rfl, r586, e585⟩
 refine ⟨_, rfl, ?_⟩
 have hI587 := hI481.ext e585
 refine s_neq rfl rfl rfl (Reg.nil (cw_cond rfl (fun hc588 => ?_) (fun hc588 => ?_)))
 ·replace h := cdT hc588 h
  refine cw_seq (cw_regF (s_mv rfl rfl (s_as rfl rfl (Reg.nil (cw_ret ?_)))))
  obtain rfl := Option.some.inj h
  refine fin1 Tryd.results11 rfl ?_
  exact ⟨rfl, hI587.kp⟩
 replace h := cdF hc588 h
 refine cw_skip (cw_seq (cw_seq (cw_regF (s_mv rfl rfl (s_len rfl (f_l_0.adv hI587.adv) Tryd.underlying22 rfl (s_mv rfl rfl (Reg.nil ?_)))))))
 obtain ⟨j589, h590, h⟩ := bnd h
 refine cw_keep [11, 229, 230, 231, 1, 2, 3, 13, 14, 35] rfl (cw_unitD 4 (ι := Unit) (fun _ => []) (fun _ => fun w591 => Hp w [] M [ownR [] ReportE 61 v479 x478, ownR [] ReportE 61 v153 x152, ownR [] ReportE 61 v81 z76] w591 ∧ Adv (mm [ownR [] ReportE 61 v479 x478, ownR [] ReportE 61 v153 x152, ownR [] ReportE 61 v81 z76] M) (mm [ownR [] ReportE 61 v479 x478, ownR [] ReportE 61 v153 x152, ownR [] ReportE 61 v81 z76] M) w584 w591 ∧ (.inl ()) = j589) ?_ ?_)
 ·refine cw_block (cw_keep [231, 1, 2, 3, 11, 13, 14, 35, 229, 230] rfl ?_)
  refine cw_loopM 1 (ι := Int) _ (fun x594 => [(231, vi x594)]) (fun x594 => x594) (fun x594 => fun w596 => Hp w [] M [ownR [] ReportE 61 v479 x478, ownR [] ReportE 61 v153 x152, ownR [] ReportE 61 v81 z76] w596 ∧ Adv (mm [ownR [] ReportE 61 v479 x478, ownR [] ReportE 61 v153 x152, ownR [] ReportE 61 v81 z76] M) (mm [ownR [] ReportE 61 v479 x478, ownR [] ReportE 61 v153 x152, ownR [] ReportE 61 v81 z76] M) w584 w596 ∧ InK .i64 x594) 0 h590 ⟨hI587, (Adv.refl _ _), (by decide)⟩ (sb10 rfl rfl rfl rfl rfl rfl rfl rfl rfl rfl) ?_
  rintro x594 w596 ⟨hI597, hA598, r595⟩ y599 h600 hR601
  refine cw_seq (cw_regF (s_lss rfl rfl rfl (Reg.nil (cw_seq (cw_cond rfl (fun hc602 => ?_) (fun hc602 => ?_))))))
  ·replace h600 := cdT hc602 h600
   refine cw_skip (cw_seq (cw_block (cw_seq (cw_regF ?_))))
   obtain ⟨y603, hy603, h600⟩ := bnd h600
   refine p_ia rfl rfl (f_l_0.adv hI597.adv) hy603 Tryd.underlying22 Tryd.sizeOf61 rfl ?_
   intro b604 o605 cs606 hR607 hC608
   obtain ⟨rfl, r609, r610, r611, r612, r613, r614, r615, r616⟩ := ReportE_R.1 hR607
   refine s_lda rfl hC608.cells Tryd.isAgg61 rfl Tryd.sizeOf61 rfl (y_al hI597 Tryd.zeroValue61 rfl rfl ?_)
   intro b617 w618 hI619 x620
   refine y_st 0 hI619 rfl rfl rfl rfl Tryd.sizeOf61 rfl rfl (on8 rfl rfl rfl rfl rfl rfl rfl rfl) ?_
   intro w621 hI622 x623
   have hC625 := hI622.freezeRow 0 rfl
   have hI624 := hI622.erase 0
   refine Reg.nil ?_
   obtain ⟨j626, h627, h600⟩ := bnd h600
   refine cw_keep [37, 1, 2, 3, 11, 13, 14, 35, 229, 230, 231] rfl (cw_seqD 1 (ι := Bool) (fun x628 => [(244, Value.bool x628)]) (fun x628 => fun w629 => w621 = w629 ∧ x628 = j626) ?_ ?_)
   ·refine cw_regF (s_fa rfl Tryd.underlying61 rfl Tryd.sizeOf3 rfl (s_ld rfl (hC625.cells.at 7 rfl) Tryd.isAgg3 rfl (s_fa rfl Tryd.underlying61 rfl Tryd.sizeOf3 rfl (s_ld rfl ((hC475.adv (hA482.trans ((Adv.of_ext e585).trans (hA598.trans (x620.trans (x623.trans (hI622.eraseH 0))))))).cells.at 0 rfl) Tryd.isAgg3 rfl (s_eql rfl rfl rfl (s_mv rfl rfl (Reg.gsplit (t := 240) rfl (fun hg632 => ?_) (fun hg632 => ?_))))))))
    ·replace h627 := cdT hg632 h627
     refine Reg.take rfl rfl (s_fa rfl Tryd.underlying61 rfl Tryd.sizeOf5 rfl (Reg.take rfl rfl (s_ld rfl (hC625.cells.at 5 rfl) Tryd.isAgg5 rfl (Reg.take rfl rfl (s_geq rfl rfl rfl (s_pkT rfl rfl rfl (Reg.nil ?_)))))))
     obtain rfl := Option.some.inj h627
     refine ⟨rfl, decide (8 ≤ y603.kind), ⟨rfl, rfl⟩, sb11 rfl rfl rfl rfl rfl rfl rfl rfl rfl rfl rfl⟩
    replace h627 := cdF hg632 h627
    iterate 3 refine Reg.pass rfl rfl rfl rfl ?_
    refine s_pkF rfl rfl rfl (Reg.nil ?_)
    obtain rfl := Option.some.inj h627
    refine ⟨rfl, false, ⟨rfl, rfl⟩, sb11 rfl rfl rfl rfl rfl rfl rfl rfl rfl rfl rfl⟩
   rintro x628 _ ⟨rfl, rfl⟩
   refine cw_cond rfl (fun hc633 => ?_) (fun hc633 => ?_)
   ·replace h600 := cdT hc633 h600
    refine cw_seq (cw_regF (s_mv rfl rfl (s_as rfl rfl (Reg.nil (cw_ret ?_)))))
    obtain rfl := Option.some.inj h600
    obtain rfl := hR601 _ rfl
    replace h := elimR h
    obtain rfl := Option.some.inj h
    refine fin1 Tryd.results11 rfl ?_
    exact ⟨rfl, hI624.kp⟩
   replace h600 := cdF hc633 h600
   refine cw_skip (cw_regF ?_)
   obtain ⟨n634, hn634, h600⟩ := bnd h600
   replace hn634 := chk_out hn634
   refine p_add rfl rfl rfl hn634 (s_mv rfl rfl (Reg.nil ?_))
   obtain rfl := Option.some.inj h600
   refine ⟨rfl, n634, ⟨⟨hI624, (hA598.trans (x620.trans (x623.trans (hI622.eraseH 0)))), hn634.2⟩, rfl⟩, sb10 rfl rfl rfl rfl rfl rfl rfl rfl rfl rfl⟩
  replace h600 := cdF hc602 h600
  refine cw_exit (exB_same ?_)
  obtain rfl := Option.some.inj h600
  obtain rfl := hR601 _ rfl
  refine ⟨rfl, (), ⟨hI597, hA598, rfl⟩, sb6 rfl rfl rfl rfl rfl rfl⟩
 rintro _ w591 ⟨hI592, hA593, rfl⟩
 replace h := elimL h
 refine cw_seq (cw_regF ?_)
 iterate 4 refine s_mv rfl rfl ?_
 have hf635 := hI592.freeze 0 rfl
 have hI636 := hI592.erase 0
 obtain ⟨⟨z637, z638⟩, hz639, h⟩ := bnd h
 refine s_call rfl Tryd.call20 rfl ((C_account_State hI636.mlt (hG.adv hI636.adv) hf635 f_id_0 f_day_0 f_known_0 hz639).mono ?_)
 rintro _ w640 ⟨v645, v650, v655, v660, v665, v670, rfl, r642, r643, r644, hf646, r647, r648, r649, hf651, r652, r653, r654, hf656, r657, r658, r659, hf661, r662, r663, r664, hf666, r667, r668, r669, hf671, r672, r673, r674, r675, e641⟩
 refine ⟨_, rfl, ?_⟩
 have hI676 := hI636.ext e641
 refine s_mv rfl rfl (s_xt rfl rfl rfl (s_xt rfl rfl rfl (y_al hI676 Tryd.zeroValue42 rfl rfl ?_)))
 intro b677 w678 hI679 x680
 refine y_st 0 hI679 rfl rfl rfl rfl Tryd.sizeOf42 rfl rfl (one1 rfl (one1 rfl (one1 rfl (one1 (RdS.oneC hf646) (one1 rfl (one1 rfl (one1 rfl (one1 (RdS.oneC hf651) (one1 rfl (one1 rfl (one1 rfl (one1 (RdS.oneC hf656) (one1 rfl (one1 rfl (one1 rfl (one1 (RdS.oneC hf661) (one1 rfl (one1 rfl (one1 rfl (one1 (RdS.oneC hf666) (one1 rfl (one1 rfl (one1 rfl (one1 (RdS.oneC hf671) (on3 rfl rfl rfl))))))))))))))))))))))))) ?_
 intro w681 hI682 x683
 have hC685 := hI682.freezeRow 0 rfl
 have hI684 := hI682.erase 0
 refine s_as rfl rfl (Reg.nil ?_)
 obtain ⟨j686, h687, h⟩ := bnd h
 refine cw_keep [13, 14, 38, 39] rfl (cw_seqD 4 (ι := Bool) (fun x688 => [(12, Value.bool x688)]) (fun x688 => fun w689 => w681 = w689 ∧ x688 = j686) ?_ ?_)
 ·refine cw_regF (s_mv rfl rfl (s_mv rfl rfl (Reg.gsplit (t := 256) rfl (fun hg692 => ?_) (fun hg692 => ?_))))
  ·replace h687 := cdT hg692 h687
   refine Reg.take rfl rfl (s_mv rfl rfl (Reg.take rfl rfl (s_eql rfl rfl rfl (s_pkT rfl rfl rfl (s_mv rfl rfl (Reg.gsplit (t := 260) rfl (fun hg693 => ?_) (fun hg693 => ?_)))))))
   ·replace h687 := cdT hg693 h687
    refine Reg.take rfl rfl (s_fa rfl Tryd.underlying42 rfl Tryd.sizeOf40 rfl (Reg.take rfl rfl (s_fa rfl Tryd.underlying40 rfl Tryd.sizeOf3 rfl (Reg.take rfl rfl (s_ld rfl (hC685.cells.at 25 rfl) Tryd.isAgg3 rfl (Reg.take rfl rfl (s_fa rfl Tryd.underlying42 rfl Tryd.sizeOf40 rfl (Reg.take rfl rfl (s_fa rfl Tryd.underlying40 rfl Tryd.sizeOf3 rfl (Reg.take rfl rfl (s_ld rfl ((hC75.adv ((hI74.addOwnA e80 hf82).trans (hA103.trans (x149.trans (hA157.trans ((hI156.eraseH 1).trans (x250.trans (hA257.trans (hA290.trans (x470.trans (x473.trans ((hI472.eraseH 2).trans (hA482.trans ((Adv.of_ext e585).trans (hA593.trans ((hI592.eraseH 0).trans ((Adv.of_ext e641).trans (x680.trans (x683.trans (hI682.eraseH 0)))))))))))))))))))).cells.at 25 rfl) Tryd.isAgg3 rfl ?_)))))))))))
    refine Reg.take rfl rfl (s_geq rfl rfl rfl (s_pkT rfl rfl rfl (s_as rfl rfl (Reg.nil ?_))))
    obtain rfl := Option.some.inj h687
    refine ⟨rfl, decide (z27.paid.hi ≤ z637.paid.hi), ⟨rfl, rfl⟩, sb1 rfl⟩
   replace h687 := cdF hg693 h687
   iterate 7 refine Reg.pass rfl rfl rfl rfl ?_
   refine s_pkF rfl rfl rfl (s_as rfl rfl (Reg.nil ?_))
   obtain rfl := Option.some.inj h687
   refine ⟨rfl, false, ⟨rfl, rfl⟩, sb1 rfl⟩
  replace h687 := cdF hg692 h687
  refine Reg.pass rfl rfl rfl rfl (Reg.pass rfl rfl rfl rfl (s_pkF rfl rfl rfl (s_mv rfl rfl ?_)))
  iterate 7 refine Reg.pass rfl rfl rfl rfl ?_
  refine s_pkF rfl rfl rfl (s_as rfl rfl (Reg.nil ?_))
  obtain rfl := Option.some.inj h687
  refine ⟨rfl, false, ⟨rfl, rfl⟩, sb1 rfl⟩
 rintro x688 _ ⟨rfl, rfl⟩
 refine cw_ret ?_
 obtain rfl := Option.some.inj h
 refine fin1 Tryd.results11 rfl ?_
 exact ⟨rfl, hI684.kp⟩
end Go.Proofs.YtepjkmoipjeghaaDoor
namespace Go.Proofs.YtepjkmoipjeghaaDoor
open Go Go.Sx
namespace S
def pq (id day : Int) (r : Report) : Bool := decide (r.kind = 4) && ofA id day r
theorem fk_pq (F : List Report) (id day : Int) : fk (F.filter (ofA id day)) 4 = F.filter (pq id day) := by
  unfold fk; rw [List.filter_filter]; rfl
/-- The greatest payments of days, summed. -/
theorem part_le {L : List Report} (hL : FO L) {m : FMap Int Int} (hm : ∀ d z, m d = some z → ∃ r ∈ L, r.about = d ∧ r.cents = z) : ∀ (p : List (Int × Int)), (p.map (·.1)).Nodup → (∀ e ∈ p, m e.1 = some e.2) → 0 ≤ (p.map (·.2)).sum ∧ (p.map (·.2)).sum ≤ hiS L := fun p nd hp => by
  have e : p.map (·.2) = (p.map (·.1)).map fun d => (m d).getD 0 := by
    rw [List.map_map]
    exact List.map_congr_left fun x hx => by simp [hp x hx]
  have hz : ∀ x ∈ p, 0 ≤ x.2 := fun x hx => by
    obtain ⟨r, hr, _, h2⟩ := hm _ _ (hp x hx)
    rw [← h2]; exact (hL.c r hr).1
  refine ⟨sum_pos p hz, ?_⟩
  rw [e]
  refine sum_sub _ _ nd (fun d hd => ?_) (fun d hd => ?_) fun d hd => by have := pd_in hL hd; omega
  · obtain ⟨x, hx, rfl⟩ := List.mem_map.1 hd
    obtain ⟨r, hr, h1, _⟩ := hm _ _ (hp x hx)
    exact dl_mem.2 ⟨r, hr, h1⟩
  · obtain ⟨x, hx, rfl⟩ := List.mem_map.1 hd
    obtain ⟨r, hr, h1, h2⟩ := hm _ _ (hp x hx)
    rw [hp x hx, Option.getD_some]
    obtain ⟨_, _, h3⟩ := pd_ex (L := L) (dl_mem.2 ⟨r, hr, h1⟩)
    have h4 := (h3 r (grp_mem.2 ⟨hr, h1⟩)).2
    have h5 := one_le (fun r hr => (hL.c r hr).1) r hr
    rw [h1] at h5
    omega
theorem r_great {L : List Report} (hL : FO L) {m : FMap Int Int} {l0 : List (Int × Int)} (h0 : Lists m l0) (hm : ∀ d z, m d = some z → ∃ r ∈ L, r.about = d ∧ r.cents = z) {Q : Int → Prop} (h : ∀ g, g ≤ hiS L → Q g) : Ret (anyM (S := Int) (fun x193 (y194 : Int × Int) => Option.bind (chk .i64 (x193 + y194.2)) fun n202 => some n202) m 0) Q := by
  refine r_anyM h0 (fun s => s = (l0.map (·.2)).sum) (fun l hl => ?_) (fun s s' h1 h2 => h1.trans h2.symm) fun s hs => h s ?_
  · have hp : l.Perm l0 := by
      refine (List.perm_ext_iff_of_nodup (nd_of hl.1) (nd_of h0.1)).2 fun e => ?_
      obtain ⟨a, y⟩ := e
      rw [hl.2, h0.2]
    have hb := pay_in hL
    obtain ⟨s, h1, h2⟩ := foldM_inv2 (f := fun (x193 : Int) (y194 : Int × Int) => Option.bind (chk .i64 (x193 + y194.2)) fun n202 => some n202) (fun pre (x : Int) => x = (pre.map (·.2)).sum) l [] 0 rfl (fun p y q x e hx => by
      rw [List.nil_append] at hx ⊢
      have hsub : (p ++ [y]).Sublist l := by
        have e' : l = p ++ [y] ++ q := by rw [e]; simp
        rw [e']; exact List.sublist_append_left _ _
      have hpart := part_le hL hm (p ++ [y]) ((hsub.map _).nodup hl.1) fun z hz => (hl.2 _ _).1 (hsub.subset hz)
      have hs : ((p ++ [y]).map (·.2)).sum = x + y.2 := by rw [hx]; simp
      rw [hs] at hpart
      refine ⟨x + y.2, ?_, hs.symm⟩
      rw [chk_i64 (by omega), bindS])
    refine ⟨s, h1, ?_⟩
    rw [h2, List.nil_append]
    exact perm_sum (hp.map _)
  · rw [hs]
    exact (part_le hL hm l0 h0.1 fun e he => (h0.2 _ _).1 he).2
section
variable {l : List Report} {known : Int} {F K : List Report} (hF : Fc l known F) (hk : Kw l known K)
include hF hk
theorem Fc.mem_T (r : Report) : r ∈ F ↔ r ∈ T K := (hF.kw hk).mem_iff
theorem Fc.src {r : Report} (hr : r ∈ F) : ∃ o ∈ l, o.source = r.source ∧ o.id = r.id := by
  obtain ⟨o, ho, _, _, rfl⟩ := T_el hk.ok ((hF.mem_T hk r).1 hr)
  obtain ⟨_, _, h3, h4, _⟩ := fix_vals hk.ok ho
  exact ⟨o, ((hk.mem o).1 ho).1, h3.symm, h4.symm⟩
/-- What comes in besides, among what is told of an account. -/
theorem more_perm {l2 N F2 : List Report} {id day : Int} (hF2 : Fc l2 known F2) (hl : ∀ x, x ∈ l2 ↔ x ∈ l ∨ x ∈ N) (hN : ∀ n ∈ N, n.made ≤ known) (h4 : ∀ n ∈ N, n.kind = 4) (hid : ∀ n ∈ N, ∀ x ∈ l, x.id ≠ n.id) (hno : ∀ n ∈ N, ∀ x ∈ l, 8 ≤ x.kind → ¬ (n.id = x.of_ ∧ n.source = x.source)) (nd : (N.map (·.id)).Nodup) :
    (F2.filter (pq id day)).Perm (F.filter (pq id day) ++ N.filter (pq id day)) := by
  obtain ⟨K2, hk2, hp2, hs2⟩ := hF2
  have hF2' : Fc l2 known F2 := ⟨K2, hk2, hp2, hs2⟩
  have hm : ∀ x, x ∈ K2 ↔ x ∈ K ∨ x ∈ N := fun x => by
    rw [hk2.mem, hk.mem, hl]
    constructor
    · rintro ⟨h | h, h2⟩
      · exact .inl ⟨h, h2⟩
      · exact .inr h
    · rintro (⟨h, h2⟩ | h)
      · exact ⟨.inl h, h2⟩
      · exact ⟨.inr h, hN x h⟩
  have ht := T_more hk.ok hk2.ok hm h4 (fun n hn x hx => hid n hn x ((hk.mem x).1 hx).1) fun n hn x hx h8 ha => hno n hn x ((hk.mem x).1 hx).1 h8 ⟨ha.2.1, ha.2.2.1⟩
  have hf : ∀ r, r ∈ F2 ↔ r ∈ F ∨ r ∈ N := fun r => by rw [hF2'.mem_T hk2, ht, hF.mem_T hk]
  have ndF : (F.map (·.id)).Nodup := hF.fo.nd
  refine (List.perm_ext_iff_of_nodup ((nd_of hF2'.fo.nd).sublist List.filter_sublist) ?_).2 fun r => ?_
  · rw [List.nodup_append]
    refine ⟨(nd_of ndF).sublist List.filter_sublist, (nd_of nd).sublist List.filter_sublist, fun a ha b hb e => ?_⟩
    subst e
    obtain ⟨o, ho, _, e⟩ := hF.src hk (List.mem_filter.1 ha).1
    exact hid a (List.mem_filter.1 hb).1 o ho e
  · rw [List.mem_filter, List.mem_append, List.mem_filter, List.mem_filter, hf]
    constructor
    · rintro ⟨h | h, h2⟩
      · exact .inl ⟨h, h2⟩
      · exact .inr ⟨h, h2⟩
    · rintro (⟨h, h2⟩ | ⟨h, h2⟩)
      · exact ⟨.inl h, h2⟩
      · exact ⟨.inr h, h2⟩
end
theorem paid_st (F : List Report) (id day : Int) : (stF (F.filter (ofA id day))).paid = ⟨loS (F.filter (pq id day)), hiS (F.filter (pq id day))⟩ := by
  rw [← fk_pq]; rfl
theorem p_AccountPaid {l : List Report} (hin : ∀ r ∈ l, InR r) {id day known : Int} (_ : InK .i64 id) (_ : InK .i64 day) (_ : InK .i64 known) {source : Int} (hsrc : InK .u8 source) {more : Report} (hmore : InR more) : P.law03_AccountPaid l id day known source more = some true := by
  rw [InK.u8] at hsrc
  apply Ret.yes
  unfold P.law03_AccountPaid
  refine Ret.bind (Ret.val alive_is (Ret.bind (Ret.bind (r_ready hin (by simp) (Ret.condT rfl (Ret.ok (Ret.condT rfl (Ret.ok rfl)))) fun c hid hd => Ret.condF rfl (Ret.ok (Ret.condF rfl ?_))))))
  have hl := (chk0 c).1
  have hv := (chk0 c).2.1
  have hknown := hd known (by simp)
  have bid : 0 ≤ id ∧ id ≤ 999999 := by simpa [inB] using hid
  have bkn : 0 ≤ known ∧ known ≤ 100000 := by simpa [inB] using hknown
  refine Ret.bind (r_State1 hin c (in3 hid hd) fun F hF => Ret.bind (r_Standing1 hin c hknown fun F' hF' => ?_))
  obtain rfl := hF'.uniq hF fun _ => Iff.rfl
  have hFd := hF
  obtain ⟨K, hk, hpK, hsK⟩ := hFd
  have fo := hF.fo
  have hpd := paid_st F' id day
  generalize hst : stF (F'.filter (ofA id day)) = st at hpd ⊢
  have fL : FO (F'.filter (pq id day)) := fo.filter _
  generalize hL : F'.filter (pq id day) = L at hpd fL
  have hb := pay_in fL
  have hLen := fL.len
  have plo : st.paid.lo = loS L := by rw [hpd]
  have phi : st.paid.hi = hiS L := by rw [hpd]
  dsimp only
  rw [plo, phi]
  refine Ret.bind (Ret.condF rfl (Ret.condF rfl (Ret.condF (decide_eq_false (by omega)) (Ret.ok (Ret.condF (decide_eq_false (by omega)) ?_)))))
  -- the first Id and source that are free
  refine Ret.bind (Ret.loop (fun t : Int × Int × Int => ∃ n : Nat, t.2.2 = n ∧ n ≤ l.length ∧ (0 ≤ t.1 ∧ t.1 ≤ 1000000) ∧ (0 ≤ t.2.1 ∧ t.2.1 ≤ 1000000) ∧ ∀ r ∈ l.take n, r.source < t.1 ∧ r.id < t.2.1) (fun t => l.length - t.2.2.toNat) ⟨0, rfl, Nat.zero_le _, by decide, by decide, fun r hr => by simp at hr⟩ ?_)
  rintro ⟨fr, nx, _⟩ ⟨n, rfl, hn, hfr, hnx, hall⟩
  dsimp only at hfr hnx hall ⊢
  refine Ret.cond (fun h => ?_) fun h => ?_
  · have hlt : n < l.length := by have := of_decide_eq_true h; omega
    have hvn := hv l[n] (List.getElem_mem hlt)
    unfold V at hvn
    refine Ret.bind (Ret.ixo (List.getElem?_eq_getElem hlt) (Ret.bind (Ret.chk (by omega) (Ret.bind (Ret.chk (by omega) (Ret.bind (Ret.chk (by omega) (Ret.next ⟨⟨n + 1, by dsimp only; omega, by omega, by dsimp only; omega, by dsimp only; omega, fun r hr => ?_⟩, by dsimp only; omega⟩))))))))
    rcases (take_mem hlt).1 hr with hr | rfl
    · have := hall r hr; dsimp only; omega
    · dsimp only; omega
  have hge : n = l.length := by have := of_decide_eq_false h; omega
  subst hge
  rw [List.take_length] at hall
  refine Ret.done ?_
  dsimp only
  -- the payments, and the greatest of each day
  refine Ret.bind (Ret.loop (fun t : List Report × Int × FMap Int Int => ∃ n : Nat, t.2.1 = n ∧ n ≤ F'.length ∧ t.1 = (F'.take n).filter (pq id day) ∧ (∃ l', Lists t.2.2 l') ∧ ∀ d z, t.2.2 d = some z → ∃ r ∈ (F'.take n).filter (pq id day), r.about = d ∧ r.cents = z) (fun t => F'.length - t.2.1.toNat) ⟨0, rfl, Nat.zero_le _, rfl, ⟨[], Lists.nil⟩, fun d z h => by cases h⟩ ?_)
  rintro ⟨_, _, m⟩ ⟨n, rfl, hn, rfl, ⟨l', hl'⟩, hm⟩
  dsimp only at hl' hm ⊢
  have hfoL := fo.len
  refine Ret.cond (fun h => ?_) fun h => ?_
  · have hlt : n < F'.length := by have := of_decide_eq_true h; omega
    have hfl : ((F'.take n).filter (pq id day)).length ≤ F'.length := by
      refine Nat.le_trans (List.length_filter_le _ _) ?_
      rw [List.length_take]; omega
    refine Ret.bind (Ret.bind (Ret.ixo (List.getElem?_eq_getElem hlt) ?_))
    have next : ∀ (p' : List Report) (m' : FMap Int Int), p' = (F'.take (n + 1)).filter (pq id day) → (∃ l', Lists m' l') → (∀ d z, m' d = some z → ∃ r ∈ (F'.take (n + 1)).filter (pq id day), r.about = d ∧ r.cents = z) → ∀ Q : List Report × FMap Int Int → Prop, Ret (Option.bind (chk .i64 ((n : Int) + 1)) fun n178 => some (Sum.inl (p', n178, m') : (List Report × Int × FMap Int Int) ⊕ (List Report × FMap Int Int))) (Nxt (fun s' : List Report × Int × FMap Int Int => (∃ n : Nat, s'.2.1 = n ∧ n ≤ F'.length ∧ s'.1 = (F'.take n).filter (pq id day) ∧ (∃ l', Lists s'.2.2 l') ∧ ∀ d z, s'.2.2 d = some z → ∃ r ∈ (F'.take n).filter (pq id day), r.about = d ∧ r.cents = z) ∧ F'.length - s'.2.1.toNat < F'.length - (n : Int).toNat) Q) := fun p' m' hp' hl' hm' Q => Ret.bind (Ret.chk (by omega) (Ret.next ⟨⟨n + 1, by dsimp only; omega, by omega, hp', hl', hm'⟩, by dsimp only; omega⟩))
    have stay : pq id day F'[n] = false → (F'.take n).filter (pq id day) = (F'.take (n + 1)).filter (pq id day) := fun h => by
      rw [take_snoc hlt, List.filter_append]; simp [h]
    have no : pq id day F'[n] = false → ∀ Q : List Report × FMap Int Int → Prop, Ret (Option.bind (chk .i64 ((n : Int) + 1)) fun n178 => some (Sum.inl ((F'.take n).filter (pq id day), n178, m) : (List Report × Int × FMap Int Int) ⊕ (List Report × FMap Int Int))) (Nxt (fun s' : List Report × Int × FMap Int Int => (∃ n : Nat, s'.2.1 = n ∧ n ≤ F'.length ∧ s'.1 = (F'.take n).filter (pq id day) ∧ (∃ l', Lists s'.2.2 l') ∧ ∀ d z, s'.2.2 d = some z → ∃ r ∈ (F'.take n).filter (pq id day), r.about = d ∧ r.cents = z) ∧ F'.length - s'.2.1.toNat < F'.length - (n : Int).toNat) Q) := fun h Q => next _ _ (stay h) ⟨l', hl'⟩ (by rw [← stay h]; exact hm) Q
    refine Ret.bind (Ret.cond (fun h1 => ?_) fun h1 => Ret.ok (Ret.bind (Ret.condF rfl (Ret.ok (Ret.ok (no (by unfold pq; rw [h1, Bool.false_and]) _))))))
    refine Ret.cond (fun h2 => Ret.ok ?_) fun h2 => Ret.ok (Ret.bind (Ret.condF rfl (Ret.ok (Ret.ok (no (by unfold pq ofA; rw [h2, Bool.false_and, Bool.and_false]) _)))))
    refine Ret.bind (Ret.cond (fun h3 => ?_) fun h3 => Ret.ok (Ret.ok (no (by unfold pq ofA; rw [h3, Bool.and_false, Bool.and_false]) _)))
    have ht : pq id day F'[n] = true := by unfold pq ofA; rw [h1, h2, h3]; rfl
    have ha : (F'.take (n + 1)).filter (pq id day) = (F'.take n).filter (pq id day) ++ [F'[n]] := by
      rw [take_snoc hlt, List.filter_append]; simp [ht]
    refine Ret.bind (Ret.appo (by simp at hfl ⊢; omega) (by simp at hfl ⊢; omega) (Ret.bind (Ret.ok (Ret.ok (Ret.ok (next _ _ (by rw [eta, ha]) (Lists.putX hl' _ _) ?_ _))))))
    intro d z hz
    have hc := fo.c F'[n] (List.getElem_mem hlt)
    rw [ha]
    unfold fput at hz
    split at hz
    · rename_i hd
      subst hd
      cases hmd : m F'[n].about with
      | none =>
        rw [hmd] at hz
        refine ⟨F'[n], by simp, rfl, ?_⟩
        have hz : max 0 F'[n].cents = z := Option.some.inj hz
        omega
      | some y =>
        rw [hmd] at hz
        have hz : max y F'[n].cents = z := Option.some.inj hz
        obtain ⟨r, hr, h4, h5⟩ := hm _ _ hmd
        rcases Int.le_total y F'[n].cents with h6 | h6
        · exact ⟨F'[n], by simp, rfl, by omega⟩
        · exact ⟨r, List.mem_append_left _ hr, h4, by omega⟩
    · obtain ⟨r, hr, h4⟩ := hm d z hz
      exact ⟨r, List.mem_append_left _ hr, h4⟩
  have hge : n = F'.length := by have := of_decide_eq_false h; omega
  subst hge
  rw [List.take_length, hL] at hm ⊢
  refine Ret.done ?_
  dsimp only
  refine Ret.bind (r_great fL hl' hm fun g hg => Ret.condF (decide_eq_false (by omega)) ?_)
  have srcL : ∀ r ∈ L, r.source < fr := fun r hr => by
    rw [← hL] at hr
    obtain ⟨o, ho, h1, _⟩ := hF.src hk (List.mem_filter.1 hr).1
    have := hall o ho; omega
  have inL : ∀ r ∈ L, (0 ≤ r.cents ∧ r.cents ≤ 1000000000000) ∧ (0 ≤ r.about ∧ r.about ≤ 100000) ∧ pq id day r = true := fun r hr => by
    refine ⟨fL.c r hr, fL.a r hr, ?_⟩
    rw [← hL] at hr
    exact (List.mem_filter.1 hr).2
  refine Ret.bind (Ret.bind (Ret.mono (Q := fun j : Unit ⊕ Bool => j = .inl ()) ?_ fun j hj => ?_))
  · -- once more
    refine Ret.cond (fun h => ?_) fun _ => Ret.ok rfl
    have hpos : 0 < L.length := by have := of_decide_eq_true h; omega
    have q0 : 0 ≤ source % (L.length : Int) := Int.emod_nonneg _ (by omega)
    have q1 : source % (L.length : Int) < L.length := Int.emod_lt_of_pos _ (by omega)
    refine Ret.bind (Ret.chk (by omega) (Ret.bind (Ret.remO (by omega) (by omega) (Ret.bind (Ret.ixoI q0 q1 fun one _ => Ret.bind (Ret.appo (by simp; omega) (by simp; omega) ?_))))))
    rw [List.nil_append]
    refine Ret.bind (Ret.loop (fun t : Int × List Report × Int => ∃ n : Nat, t.2.2 = n ∧ n ≤ L.length ∧ t.2.1 ++ cps one.source fr id known (L.drop n) t.1 = l ++ cps one.source fr id known L nx ∧ (0 ≤ t.1 ∧ t.1 ≤ 1000000 + n) ∧ t.2.1.length ≤ 60 + n) (fun t => L.length - t.2.2.toNat) ⟨0, rfl, Nat.zero_le _, by simp, by dsimp only; omega, by dsimp only; omega⟩ ?_)
    rintro ⟨x, M, _⟩ ⟨n, rfl, hn, hM, hx, hMl⟩
    dsimp only at hM hx hMl ⊢
    refine Ret.cond (fun h => ?_) fun h => ?_
    · have hlt : n < L.length := by have := of_decide_eq_true h; omega
      rw [List.drop_eq_getElem_cons hlt, cps_cons] at hM
      refine Ret.bind (Ret.bind (Ret.ixo (List.getElem?_eq_getElem hlt) (Ret.bind (Ret.cond (fun e => ?_) fun e => ?_))))
      · have e := of_decide_eq_true e
        rw [if_pos e] at hM
        refine Ret.bind (Ret.appo (by simp; omega) (by simp; omega) (Ret.bind (Ret.chk (by omega) (Ret.ok (Ret.ok (Ret.bind (Ret.chk (by omega) (Ret.next ⟨⟨n + 1, by dsimp only; omega, by omega, ?_, by dsimp only; omega, by simp; omega⟩, by dsimp only; omega⟩))))))))
        dsimp only
        rw [← hM]; simp
      · have e := of_decide_eq_false e
        rw [if_neg e] at hM
        exact Ret.ok (Ret.ok (Ret.bind (Ret.chk (by omega) (Ret.next ⟨⟨n + 1, by dsimp only; omega, by omega, hM, by dsimp only; omega, by dsimp only; omega⟩, by dsimp only; omega⟩))))
    have hge : n = L.length := by have := of_decide_eq_false h; omega
    subst hge
    rw [List.drop_length] at hM
    have hM : M = l ++ cps one.source fr id known L nx := by rw [← hM]; unfold cps; simp
    subst hM
    refine Ret.done ?_
    generalize hN : cps one.source fr id known L nx = N
    have nsp : ∀ x ∈ N, nx ≤ x.id ∧ ∃ r ∈ L, r.source = one.source ∧ x = ⟨x.id, fr, id, known, r.about, 4, r.cents, 0⟩ := fun x hx => cps_mem (hN ▸ hx)
    have nrest : ∀ x ∈ N, x.source = fr ∧ x.kind = 4 ∧ x.made = known ∧ x.id ≥ nx ∧ pq id day x = true := fun x hx => by
      obtain ⟨h1, r, hr, _, h3⟩ := nsp x hx
      have h4 := (inL r hr).2.2
      have h6 : r.about ≤ day := by unfold pq ofA at h4; simp at h4; exact h4.2.2
      refine ⟨by rw [h3], by rw [h3], by rw [h3], h1, ?_⟩
      rw [h3]
      unfold pq ofA
      simp [h6]
    have nid : ∀ x ∈ N, x.id ≤ 1000060 := fun x hx => by
      have key : ∀ (L : List Report) (nx : Int), ∀ x ∈ cps one.source fr id known L nx, x.id < nx + L.length := by
        intro L
        induction L with
        | nil => intro nx x hx; cases hx
        | cons r L ih =>
          intro nx x hx
          unfold cps at hx
          simp only [List.length_cons]
          split at hx
          · rcases List.mem_cons.1 hx with rfl | hx
            · dsimp only; omega
            · have := ih _ x hx; omega
          · have := ih _ x hx; omega
      have := key L nx x (hN ▸ hx)
      omega
    have hin2 : ∀ r ∈ l ++ N, InR r := fun r hr => by
      rcases List.mem_append.1 hr with hr | hr
      · exact hin r hr
      · obtain ⟨h1, r', hr', _, h3⟩ := nsp r hr
        have h4 := inL r' hr'
        have h5 := nid r hr
        rw [h3]
        unfold InR
        simp only [InK.i64, InK.u8]
        omega
    refine Ret.bind (r_rcheck hin2 (Ret.bind (Ret.cond (fun h9 => ?_) fun _ => Ret.ok (Ret.elimL (Ret.ok rfl)))))
    have c9 : chkE (l ++ N) = 0 := of_decide_eq_true h9
    refine Ret.bind (r_State1 hin2 c9 (in3 hid hd) fun F2 hF2 => ?_)
    have hp := more_perm hF hk (id := id) (day := day) hF2 (fun x => List.mem_append) (fun x hx => by rw [(nrest x hx).2.2.1]; exact Int.le_refl _) (fun x hx => (nrest x hx).2.1) (fun n hn x hx => by have := (nrest n hn).2.2.2.1; have := (hall x hx).2; omega) (fun n hn x hx _ ha => by have := (nrest n hn).1; have := (hall x hx).1; omega) (by rw [← hN]; exact cps_nd _ _)
    rw [hL, List.filter_eq_self.2 fun x hx => (nrest x hx).2.2.2.2, ← hN] at hp
    obtain ⟨e1, e2⟩ := pay_twice hp fun r hr => by have := srcL r hr; omega
    have hpd2 := paid_st F2 id day
    rw [e1, e2, ← hpd] at hpd2
    dsimp only
    refine Ret.bind (Ret.condF rfl (Ret.ok (Ret.condF ?_ (Ret.ok (Ret.elimL (Ret.ok rfl))))))
    rw [hpd2]
    simp [plo, phi]
  · subst hj
    refine Ret.elimL (Ret.ok (Ret.elimL ?_))
    -- one more
    refine Ret.bind (Ret.bind (Ret.appo (by simp; omega) (by simp; omega) (Ret.bind (Ret.appo (by simp; omega) (by simp; omega) (Ret.ok ?_)))))
    rw [List.nil_append]
    generalize hnr : (Report.mk more.id more.source id more.made more.about 4 more.cents more.of_) = nr
    have nrv : nr.id = more.id ∧ nr.kind = 4 ∧ nr.account = id := by rw [← hnr]; exact ⟨rfl, rfl, rfl⟩
    have hin2 : ∀ r ∈ l ++ [nr], InR r := fun r hr => by
      rcases List.mem_append.1 hr with hr | hr
      · exact hin r hr
      · rw [List.mem_singleton] at hr
        subst hr
        rw [← hnr]
        unfold InR at hmore ⊢
        simp only [InK.i64, InK.u8] at hmore ⊢
        omega
    refine Ret.bind (r_rcheck hin2 (Ret.cond (fun _ => Ret.ok rfl) fun h9 => ?_))
    have c9 : chkE (l ++ [nr]) = 0 := by simpa using h9
    refine Ret.bind (Ret.mono (Q := fun j : Unit ⊕ Bool => j = .inr true ∨ j = .inl () ∧ ∀ r ∈ l, ¬ (r.of_ = more.id ∧ 8 ≤ r.kind)) (Ret.loop (fun t : Int => ∃ n : Nat, t = n ∧ n ≤ l.length ∧ ∀ r ∈ l.take n, ¬ (r.of_ = more.id ∧ 8 ≤ r.kind)) (fun t => l.length - t.toNat) ⟨0, rfl, Nat.zero_le _, fun r hr => by simp at hr⟩ ?_) fun j hj => ?_)
    · rintro _ ⟨n, rfl, hn, hno⟩
      refine Ret.cond (fun h => ?_) fun h => ?_
      · have hlt : n < l.length := by have := of_decide_eq_true h; omega
        have go : ¬ (l[n].of_ = more.id ∧ 8 ≤ l[n].kind) → ∀ Q, Ret (Option.bind (chk .i64 ((n : Int) + 1)) fun n424 => some (Sum.inl n424 : Int ⊕ (Unit ⊕ Bool))) (Nxt (fun s' : Int => (∃ n : Nat, s' = n ∧ n ≤ l.length ∧ ∀ r ∈ l.take n, ¬ (r.of_ = more.id ∧ 8 ≤ r.kind)) ∧ l.length - s'.toNat < l.length - (n : Int).toNat) Q) := fun h Q => Ret.bind (Ret.chk (by omega) (Ret.next ⟨⟨n + 1, by omega, by omega, fun r hr => by
          rcases (take_mem hlt).1 hr with hr | rfl
          · exact hno r hr
          · exact h⟩, by omega⟩))
        refine Ret.bind (Ret.ixo (List.getElem?_eq_getElem hlt) (Ret.bind (Ret.cond (fun h1 => Ret.ok (Ret.cond (fun _ => Ret.done (.inl rfl)) fun h2 => go (fun e => of_decide_eq_false h2 e.2) _)) fun h1 => Ret.ok (Ret.condF rfl (go (fun e => of_decide_eq_false h1 e.1) _)))))
      · have hge : n = l.length := by have := of_decide_eq_false h; omega
        subst hge
        rw [List.take_length] at hno
        exact Ret.done (.inr ⟨rfl, hno⟩)
    · rcases hj with rfl | ⟨rfl, hno⟩
      · exact Ret.elimR (Ret.ok rfl)
      refine Ret.elimL (Ret.bind (r_State1 hin2 c9 (in3 hid hd) fun F2 hF2 => ?_))
      have hpd2 := paid_st F2 id day
      have key : hiS L ≤ hiS (F2.filter (pq id day)) := by
        by_cases hin : nr ∈ l ∨ ¬ nr.made ≤ known
        · have : F2 = F' := hF2.uniq hF fun r => by
            rw [List.mem_append, List.mem_singleton]
            constructor
            · rintro ⟨h | rfl, h2⟩
              · exact ⟨h, h2⟩
              · rcases hin with h | h
                · exact ⟨h, h2⟩
                · exact absurd h2 h
            · rintro ⟨h, h2⟩; exact ⟨.inl h, h2⟩
          rw [this, hL]; exact Int.le_refl _
        · have hnl : nr ∉ l := fun h => hin (.inl h)
          have hmd : nr.made ≤ known := Decidable.byContradiction fun h => hin (.inr h)
          have hp := more_perm hF hk (N := [nr]) (id := id) (day := day) hF2 (fun x => List.mem_append) (fun x hx => by rw [List.mem_singleton.1 hx]; exact hmd) (fun x hx => by rw [List.mem_singleton.1 hx]; exact nrv.2.1) (fun n hn x hx e => by
            rw [List.mem_singleton.1 hn] at e
            exact hnl ((chk0 c9).2.2 x (List.mem_append_left _ hx) nr (by simp) e ▸ hx)) (fun n hn x hx h8 ha => by
            rw [List.mem_singleton.1 hn, nrv.1] at ha
            exact hno x hx ⟨ha.1.symm, h8⟩) (by simp)
          rw [hL] at hp
          exact hi_mono (hF2.fo.filter _) hp
      have phi2 : (stF (F2.filter (ofA id day))).paid.hi = hiS (F2.filter (pq id day)) := by rw [hpd2]
      dsimp only
      exact Ret.bind (Ret.condT rfl (Ret.condT rfl (Ret.ok (Ret.ok (decide_eq_true (by rw [phi2]; exact key))))))
end S
end Go.Proofs.YtepjkmoipjeghaaDoor
