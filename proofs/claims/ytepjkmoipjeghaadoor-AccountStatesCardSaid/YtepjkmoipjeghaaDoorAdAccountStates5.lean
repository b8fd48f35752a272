/-
  Part AccountStates 5 of the texts that the statement's proof stands on: what memory holds, how code is walked, what the functions reckon. In the order in which they build.
-/
import Derived.Shelf.SlSortCmp.WholeK
import Derived.Shelf.SlSortCmp.NoneTotal
import Derived.Test.YtepjkmoipjeghaaDoorProg
import Derived.ProofKit
import Derived.Deep.Slices
import Derived.DeepKeys4
import Derived.WideKeyEntry
import Derived.Test.YtepjkmoipjeghaaDoorAdAccountStates4
set_option linter.unusedVariables false
set_option linter.unusedSectionVars false
namespace Go.Proofs.YtepjkmoipjeghaaDoor
open Go Go.Sx Go.RowKit Go.Sort Go.Shelf
variable [Trk]
/-- Draws are counted on. -/
@[reducible] def trkT : Trk := ⟨True⟩
def encR (r : Report) : List Value := [.int .i64 r.id, .int .i64 r.source, .int .i64 r.account, .int .i64 r.made, .int .i64 r.about, .int .u8 r.kind, .int .i64 r.cents, .int .i64 r.of_]
def InR (r : Report) : Prop := InK .i64 r.id ∧ InK .i64 r.source ∧ InK .i64 r.account ∧ InK .i64 r.made ∧ InK .i64 r.about ∧ InK .u8 r.kind ∧ InK .i64 r.cents ∧ InK .i64 r.of_
theorem chunks_rep {M : List Nat} {w : World} : ∀ {cs : List Value} {xs : List Report}, Chunks ReportE M w cs xs ↔ cs = xs.flatMap encR ∧ ∀ r ∈ xs, InR r
  | cs, [] => by
    constructor
    · intro h; exact ⟨h, fun _ h => by cases h⟩
    · rintro ⟨h, _⟩; exact h
  | cs, x :: xs => by
    constructor
    · rintro ⟨c, rest, he, hR, hr⟩
      obtain ⟨rfl, h0, h1, h2, h3, h4, h5, h6, h7⟩ := ReportE_R.1 hR
      obtain ⟨h8, h9⟩ := chunks_rep.1 hr
      refine ⟨by rw [he, h8]; rfl, fun r hr => ?_⟩
      rcases List.mem_cons.1 hr with rfl | hr
      · exact ⟨h0, h1, h2, h3, h4, h5, h6, h7⟩
      · exact h9 r hr
    · rintro ⟨he, hin⟩
      obtain ⟨h0, h1, h2, h3, h4, h5, h6, h7⟩ := hin x (List.mem_cons_self ..)
      exact ⟨encR x, xs.flatMap encR, by rw [he]; rfl, ReportE_R.2 ⟨rfl, h0, h1, h2, h3, h4, h5, h6, h7⟩, chunks_rep.2 ⟨rfl, fun r hr => hin r (List.mem_cons_of_mem _ hr)⟩⟩
theorem flat_get {α : Type} (enc : α → List Value) (h8 : ∀ x, (enc x).length = 8) : ∀ (xs : List α) (t : Nat), (xs.flatMap enc)[t]? = (xs[t / 8]?).bind fun x => (enc x)[t % 8]?
  | [], t => by simp
  | x :: xs, t => by
    rw [List.flatMap_cons]
    rcases Nat.lt_or_ge t 8 with h | h
    · rw [List.getElem?_append_left (by rw [h8]; exact h), show t / 8 = 0 by omega, show t % 8 = t by omega]; rfl
    · rw [List.getElem?_append_right (by rw [h8]; exact h), h8, flat_get enc h8 xs (t - 8), show t / 8 = (t - 8) / 8 + 1 by omega, show t % 8 = (t - 8) % 8 by omega]; rfl
theorem flatK_list {α : Type} [Inhabited α] (enc : α → List Value) (h8 : ∀ x, (enc x).length = 8) (d : Array α) : (flatK enc 8 d).toList = d.toList.flatMap enc := by
  refine List.ext_getElem? fun t => ?_
  rw [flat_get enc h8]
  unfold flatK
  rcases Nat.lt_or_ge t (d.size * 8) with h | h
  · have h1 : t / 8 < d.size := by omega
    have h2 : t % 8 < 8 := by omega
    simp only [Array.getElem?_toList, Array.getElem?_map, Array.getElem?_range, h, Array.getElem?_eq_getElem h1]
    have h3 : t % 8 < (enc d[t / 8]).length := by rw [h8]; exact h2
    simp [h, h1, getElem!_pos, h3]
  · have h1 : d.size ≤ t / 8 := by omega
    simp only [Array.getElem?_toList, Array.getElem?_eq_none h1, Option.bind_none]
    simp [h]
theorem put_takeI {ys : List Value} {cur : Array Value} (h : ys.length ≤ cur.size) : (putCells id 0 ys.toArray cur).toList.take ys.length = ys := by
  apply List.ext_getElem?
  intro i
  rw [List.getElem?_take]
  split
  · rename_i hi
    have hc : cur[i]? = some cur[i] := Array.getElem?_eq_getElem (by omega)
    simp only [putCells, Array.getElem?_toList, Array.getElem?_mapIdx, hc, Option.map_some]
    rw [if_pos ⟨by omega, by simpa using hi⟩]
    simp [hi]
  · rename_i hi
    rw [List.getElem?_eq_none (by omega)]
theorem kp_sortK {α : Type} [Inhabited α] {enc : α → List Value} {k : Nat} {w : World} {g n : Nat} {d : Array α} {os : Array Obj} : Kp [g] w (sortWorldK enc k w g 0 n d os) := by
  refine ⟨rfl, rfl, rfl, by simp [sortWorldK, putRowK], fun j hj hm => ?_, fun _ => show w.drawn ≤ w.drawn + n from Nat.le_add_right _ _⟩
  have hne : ¬ g = j := fun e => hm (by simp [e])
  unfold sortWorldK putRowK
  rw [heap_grow_old _ _ (by simpa using hj)]
  show (w.heap.modify g (onCells (putCells id 0 (flatK enc k d))))[j]? = _
  rw [Array.getElem?_modify, if_neg hne]
/-- What sorting asks of the function that holds reports against each other. -/
def SortOk (x : List Report) (cmp : Report → Report → Option Int) (cf : Report → Report → Int) : Prop :=
  (∀ a b, a ∈ x → b ∈ x → cmp a b = some (cf a b)) ∧ SWO (ltOf fun a b : { r : Report // r ∈ x } => cf a.1 b.1) ∧ ∀ a b, a ∈ x → b ∈ x → ¬ cf a b < 0 → ¬ cf b a < 0 → a = b
open Classical in
noncomputable def P.slices_SortFunc_93 (x : List Report) (cmp : Report → Report → Option Int) : Option (List Report) :=
  if h : x.length < 4611686018427387904 ∧ ∃ cf, SortOk x cmp cf then some (x.mergeSort fun a b => !decide (h.2.choose b a < 0)) else none
@[ext] structure ElR (x : List Report) where
  r : Report
  mem : r ∈ x
  inn : InR r
def ElR.e {x : List Report} (a : ElR x) : List Value := encR a.r
theorem C_slices_SortFunc_93 {M : List Nat} {w : World} {v_x : Value} (hM : MLt M w) (_ : ∀ b ∈ ob v_x, b ∉ M) {x : List Report} (p_x : Own ReportE 61 0 M w v_x x) {v_cmp : Value} {cmp : Report → Report → Option Int}
    (hf : ∀ (x0 x1 : Report) (r : Int) (w1 : World), @Kp trkT (ob v_x) w w1 → InK .i64 x0.id → InK .i64 x0.source → InK .i64 x0.account → InK .i64 x0.made → InK .i64 x0.about → InK .u8 x0.kind → InK .i64 x0.cents → InK .i64 x0.of_ → InK .i64 x1.id → InK .i64 x1.source → InK .i64 x1.account → InK .i64 x1.made → InK .i64 x1.about → InK .u8 x1.kind → InK .i64 x1.cents → InK .i64 x1.of_ → cmp x0 x1 = some r →
      CallsV Tryd.prog v_cmp [.agg (List.toArray [.int .i64 x0.id, .int .i64 x0.source, .int .i64 x0.account, .int .i64 x0.made, .int .i64 x0.about, .int .u8 x0.kind, .int .i64 x0.cents, .int .i64 x0.of_]), .agg (List.toArray [.int .i64 x1.id, .int .i64 x1.source, .int .i64 x1.account, .int .i64 x1.made, .int .i64 x1.about, .int .u8 x1.kind, .int .i64 x1.cents, .int .i64 x1.of_])] w1 fun e w2 => e = .returned (Value.int IntKind.i64 r) ∧ InK IntKind.i64 r ∧ @Ext trkT w1 w2)
    {r0 : List Report} (h : P.slices_SortFunc_93 x cmp = some r0) :
    Calls Tryd.prog 93 (List.toArray [v_x, v_cmp]) w fun e w' => e = .returned (Value.tuple #[]) ∧ (Own ReportE 61 0 M w' v_x r0 ∧ (∀ b ∈ ob v_x, b ∈ ob v_x ∨ w.heap.size ≤ b) ∧ Kp (ob v_x) w w') := by
  unfold P.slices_SortFunc_93 at h
  split at h
  · rename_i hok
    have hr := Option.some.inj h
    obtain ⟨hlen, hex⟩ := hok
    have hok := hex.choose_spec
    generalize hex.choose = cf at hr hok
    obtain ⟨hc0, hO, hT⟩ := hok
    have none_ : ∀ a n, v_x = .slice a 0 n → x = [] → Calls Tryd.prog 93 (List.toArray [v_x, v_cmp]) w fun e w' => e = .returned (Value.tuple #[]) ∧ (Own ReportE 61 0 M w' v_x r0 ∧ (∀ b ∈ ob v_x, b ∈ ob v_x ∨ w.heap.size ≤ b) ∧ Kp (ob v_x) w w') := by
      rintro a n rfl rfl
      have hc := AnyF.slices_SortFunc_none (P := Tryd.prog) (ρ := Tryd.laySortFunc_ren) Tryd.laySortFunc a n v_cmp w
      change Calls Tryd.prog 93 _ _ _ at hc
      refine hc.mono ?_
      rintro e w' ⟨rfl, rfl⟩
      subst hr
      exact ⟨rfl, by simpa using p_x, fun b hb => .inl hb, Kp.refl _ _⟩
    have p_x0 := p_x
    rcases p_x with ⟨a, rfl, rfl⟩ | ⟨g, cap, cur, rfl, h1, h2, h3, h4, h5, h6⟩
    · exact none_ a _ rfl rfl
    · by_cases hx : x = []
      · subst hx; exact none_ _ _ rfl rfl
      · have hg := heap_lt h2
        obtain ⟨h7, h8⟩ := chunks_rep.1 h6
        obtain ⟨r1, hr1⟩ := List.exists_mem_of_ne_nil x hx
        letI : Inhabited (ElR x) := ⟨⟨r1, hr1, h8 r1 hr1⟩⟩
        obtain ⟨d, hd⟩ : ∃ d : List (ElR x), d.map ElR.r = x := ⟨x.attach.map fun r => ⟨r.1, r.2, h8 r.1 r.2⟩, by rw [List.map_map]; exact List.attach_map_subtype_val x⟩
        have hdl : d.length = x.length := by have := congrArg List.length hd; simpa using this
        have h8' : ∀ a : ElR x, a.e.length = 8 := fun _ => rfl
        have hfl : d.flatMap ElR.e = x.flatMap encR := by have := congrArg (List.flatMap encR) hd; rw [List.flatMap_map] at this; exact this
        have hH : HoldsK (ElR.e (x := x)) 8 w g 0 d.toArray := fun j hj => by
          have hj' : j < d.length * 8 := by simpa using hj
          have hv : (flatK ElR.e 8 d.toArray).toList = x.flatMap encR := by rw [flatK_list _ h8', ← hfl]
          have hq : cur.toList[j]? = some ((flatK ElR.e 8 d.toArray)[j]!) := by
            have e1 := congrArg (fun l => l[j]?) h7
            simp only [List.getElem?_take, show j < x.length * ReportE.n by show j < x.length * 8; omega, if_true] at e1
            rw [e1, ← hv, Array.getElem?_toList, getElem!_pos (flatK ElR.e 8 d.toArray) j hj, Array.getElem?_eq_getElem hj]
          constructor
          · have : w.cell? ⟨g, 0 + j, none⟩ = cur[j]? := by simp [World.cell?, h2]
            rw [this, ← Array.getElem?_toList, hq]; rfl
          · simp [World.frozen?, h2]
        obtain ⟨gf, cb, rfl, eg, _⟩ := hf r1 r1 (cf r1 r1) w (@Kp.refl trkT _ _) (h8 r1 hr1).1 (h8 r1 hr1).2.1 (h8 r1 hr1).2.2.1 (h8 r1 hr1).2.2.2.1 (h8 r1 hr1).2.2.2.2.1 (h8 r1 hr1).2.2.2.2.2.1 (h8 r1 hr1).2.2.2.2.2.2.1 (h8 r1 hr1).2.2.2.2.2.2.2
          (h8 r1 hr1).1 (h8 r1 hr1).2.1 (h8 r1 hr1).2.2.1 (h8 r1 hr1).2.2.2.1 (h8 r1 hr1).2.2.2.2.1 (h8 r1 hr1).2.2.2.2.2.1 (h8 r1 hr1).2.2.2.2.2.2.1 (h8 r1 hr1).2.2.2.2.2.2.2 (hc0 r1 r1 hr1 hr1)
        have hcmp : CmpLays Tryd.prog gf cb (ElR.e (x := x)) 8 (fun a b => cf a.r b.r) g 0 d.toArray.size w := fun m os dk _ a b => by
          obtain ⟨a, ha, a0, a1, a2, a3, a4, a5, a6, a7⟩ := a
          obtain ⟨b, hb, b0, b1, b2, b3, b4, b5, b6, b7⟩ := b
          obtain ⟨gf', cb', hgc, _, hC⟩ := hf a b (cf a b) (sortWorldK ElR.e 8 w g 0 m dk os) (@Kp.mono trkT _ _ _ _ (@kp_sortK trkT _ _ _ _ _ _ _ _ _) fun c hc => .inl (by simpa [ob] using hc)) a0 a1 a2 a3 a4 a5 a6 a7 b0 b1 b2 b3 b4 b5 b6 b7 (hc0 a b ha hb)
          cases hgc
          refine hC.mono ?_
          rintro e w' ⟨rfl, _, hx⟩
          obtain ⟨q, os', he⟩ := @Ext.grown trkT _ _ hx trivial
          exact ⟨rfl, q, os', he⟩
        have hO' : SWO (ltOf fun a b : ElR x => cf a.r b.r) :=
          ⟨fun a => hO.irrefl ⟨a.r, a.mem⟩, fun a b c => hO.trans ⟨a.r, a.mem⟩ ⟨b.r, b.mem⟩ ⟨c.r, c.mem⟩, fun a b c => hO.ntrans ⟨a.r, a.mem⟩ ⟨b.r, b.mem⟩ ⟨c.r, c.mem⟩⟩
        have hc := AnyQ.slices_SortFunc_total Tryd.laySortFunc 8 Tryd.isAgg61 Tryd.sizeOf61 (ElR.e (x := x)) h8' (fun a v hv => by
          simp [ElR.e, encR] at hv
          rcases hv with rfl | rfl | rfl | rfl | rfl | rfl | rfl | rfl <;> rfl) (fun a b => cf a.r b.r) hO' gf cb g 0 (cap + 1) d.toArray w eg hcmp hH hg (by simpa [hdl] using hlen)
          (fun a b h1 h2 => ElR.ext (hT a.r b.r a.mem b.mem (by simpa [ltOf] using h1) (by simpa [ltOf] using h2)))
        change Calls Tryd.prog 93 _ _ _ at hc
        rw [show d.toArray.size = x.length by simp [hdl]] at hc
        refine hc.mono ?_
        rintro e w' ⟨rfl, n, os, rfl⟩
        obtain ⟨ys, hys⟩ : ∃ ys, ys = d.mergeSort fun a b : ElR x => !(ltOf fun a b : ElR x => cf a.r b.r) b a := ⟨_, rfl⟩
        have hys' : ys.map ElR.r = r0 := by
          have h9 := List.map_mergeSort (r := fun a b : ElR x => !(ltOf fun a b : ElR x => cf a.r b.r) b a) (s := fun a b => !decide (cf b a < 0)) (f := ElR.r) (l := d) fun a _ b _ => rfl
          rw [hd, hr] at h9
          rw [hys]; exact h9
        have hyl : ys.length = x.length := by rw [hys, List.length_mergeSort, hdl]
        have hrl : r0.length = x.length := by rw [← hys', List.length_map, hyl]
        have hW : (d.toArray.toList.mergeSort fun a b : ElR x => !(ltOf fun a b : ElR x => cf a.r b.r) b a).toArray = ys.toArray := by rw [hys]
        rw [hW]
        have hkp : Kp [g] w (sortWorldK (ElR.e (x := x)) 8 w g 0 n ys.toArray os) := kp_sortK
        have hin : ∀ r ∈ r0, InR r := fun r hr' => by
          rw [← hys'] at hr'
          obtain ⟨a, _, rfl⟩ := List.mem_map.1 hr'
          exact a.inn
        have hfl2 : (flatK (ElR.e (x := x)) 8 ys.toArray).toList = r0.flatMap encR := by have h9 := congrArg (List.flatMap encR) hys'; rw [List.flatMap_map] at h9; rw [flatK_list _ h8']; exact h9
        have hfs : (flatK (ElR.e (x := x)) 8 ys.toArray).size = x.length * 8 := by simp [hyl]
        refine ⟨rfl, .inr ⟨g, cap, putCells id 0 (flatK (ElR.e (x := x)) 8 ys.toArray) cur, by rw [hrl], Nat.zero_le _, ?_, by rw [hrl]; exact h3, h4, ?_, ?_⟩, fun b hb => .inl hb, hkp.mono fun b hb => .inl (by simpa [ob] using hb)⟩
        · unfold sortWorldK putRowK
          rw [heap_grow_old _ _ (by simpa using hg)]
          show (w.heap.modify g (onCells (putCells id 0 (flatK ElR.e 8 ys.toArray))))[g]? = _
          rw [Array.getElem?_modify, if_pos rfl, h2]; rfl
        · rw [← h5]; simp [putCells]
        · refine chunks_rep.2 ⟨?_, hin⟩
          have h9 := put_takeI (ys := (flatK (ElR.e (x := x)) 8 ys.toArray).toList) (cur := cur) (by
            rw [Array.length_toList, hfs, h5]
            show x.length * 8 ≤ (cap + 1) * 8
            omega)
          rw [show (flatK (ElR.e (x := x)) 8 ys.toArray).toList.toArray = flatK (ElR.e (x := x)) 8 ys.toArray by simp, Array.length_toList, hfs] at h9
          show (putCells id 0 (flatK ElR.e 8 ys.toArray) cur).toList.take (r0.length * 8) = _
          rw [hrl, h9, hfl2]
  · cases h
end Go.Proofs.YtepjkmoipjeghaaDoor
set_option maxRecDepth 20000
namespace Go.Proofs.YtepjkmoipjeghaaDoor
open Go Go.Sx Go.RowKit
variable [Trk]
noncomputable def P.account_ordered_74 (l : (List Report)) (by_ : (List Nat)) : Option (List Report) :=
  Option.bind (P.slices_SortFunc_93 l (fun x0_ x1_ => P.account_ordered_api_Report_in1 x0_ x1_ by_)) fun l7 => some l7
theorem C_account_ordered_74 {M : List Nat} {w : World} {v_l : Value} (hM : MLt M w) (hd : ∀ b ∈ ob v_l, b ∉ M) {l : (List Report)} (p_l : Own ReportE 61 0 M w v_l l) {by_ : (List Nat)} {v_by__0 : Value} (f_by__0 : RdS fnE (ob v_l ++ M) w v_by__0 by_) {r0 : (List Report)} (h : P.account_ordered_74 l by_ = some r0) :
  Calls Tryd.prog 74 (List.toArray [v_l, v_by__0]) w fun e w' => ∃ v0_0 : Value, e = .returned (v0_0) ∧ (Own ReportE 61 0 M w' v0_0 r0 ∧ (∀ b ∈ ob v0_0, b ∈ ob v_l ∨ w.heap.size ≤ b) ∧ Kp (ob v_l) w w') := by
 have hI := Hp.startOwn hM hd p_l
 refine calls_cw Tryd.func74 rfl Tryd.ntmps74 rfl ?_
 refine cw_seq (cw_regF (y_box hI rfl (RdS.cells1 f_by__0) rfl ?_))
 intro b1 w2 hI3 x4
 have hC6 := hI3.freezeRow 0 rfl
 have hI5 := hI3.erase 0
 refine s_as rfl rfl (Reg.nil (cw_seq (cw_regF (s_mv rfl rfl (s_mf rfl rfl ?_)))))
 obtain ⟨l7, hz8, h⟩ := bnd h
 refine s_call rfl Tryd.call93 rfl ?_
 have la := Hp.lendA (σ := [ownR (ob v_l) ReportE 61 v_l l]) (M := M) (w := w2) 0 rfl
 have q1 := hI5.lendM 0 rfl
 have q2 : @RdS trkT Nat (@fnE trkT) _ w2 v_by__0 by_ := (f_by__0.adv hI5.adv).adv la
 have q3 := hC6.adv la
 refine (C_slices_SortFunc_93 (hI5.erase 0).mlt (hI5.apart 0 rfl) (hI5.lendOwn 0 rfl) (fun a0 a1 r w9 e9 f0 f1 f2 f3 f4 f5 f6 f7 f8 f9 f10 f11 f12 f13 f14 f15 hr => by
  letI := trkT
  exact CallsV.ofL Tryd.call94 rfl (C_account_ordered_api_Report_in1 (q1.ext e9) f0 f1 f2 f3 f4 f5 f6 f7 f8 f9 f10 f11 f12 f13 f14 f15 (q2.adv (Adv.lent e9)) (q3.adv (Adv.lent e9)) hr)) hz8).mono ?_
 rintro _ w9 ⟨rfl, hf11⟩
 refine ⟨_, rfl, ?_⟩
 have hI12 := hI5.took 0 rfl hf11
 refine Reg.nil (cw_seq (cw_regF (s_mv rfl rfl (s_as rfl rfl (Reg.nil (cw_ret ?_))))))
 obtain rfl := Option.some.inj h
 refine fin1 Tryd.results74 rfl ?_
 exact ⟨_, rfl, (hI12.ownBack 0 rfl)⟩
end Go.Proofs.YtepjkmoipjeghaaDoor
namespace Go.Sx
open Go Go.RowKit Go.WideShapes
variable [Trk]
def Bridge (P : Program) (t : TypeId) {α : Type} (E : Enc α) : Prop :=
  ∀ (H : Type) (enc : TypeId × Value → H) (w : World) (n : Nat) (cs : List Value) (x : DataW H × List MemPlace), DataW.trod enc P w 0 (fun _ => true) true n t cs = some x → ∃ a, E.R [] w cs a
theorem wf_InK {k : IntKind} {n : Int} (h : (Lit.int k n).wf = true) : InK k n := by
  simpa [Lit.wf, InK] using h
theorem bridge_int {P : Program} {t : TypeId} {k : IntKind} (ht : P.underlying t = some (.int k)) : Bridge P t (intE k) := fun H enc w n cs x h => by
  obtain ⟨r, e1, _, hw⟩ := DataW.trod_int ht h
  exact ⟨r, e1, wf_InK hw⟩
theorem bridge_map {P : Program} {t : TypeId} {α β : Type} {f : β → α} {E : Enc α} (g : α → β) (hg : ∀ a, f (g a) = a) (B : Bridge P t E) : Bridge P t (mapE f E) := fun H enc w n cs x h => by
  obtain ⟨a, ha⟩ := B H enc w n cs x h
  exact ⟨g a, by show E.R [] w cs (f (g a)); rw [hg]; exact ha⟩
theorem bridge_slice {P : Program} {t e : TypeId} {α : Type} {E : Enc α} (ht : P.underlying t = some (.slice e)) (hc : P.cellsOf e = E.n) (B : Bridge P e E) : Bridge P t (sliceE E) := fun H enc w n cs x h => by
  rcases Go.Deep.open_slice ht h with ⟨rfl, _⟩ | ⟨a, len, cap, m, k, D, Pl, rfl, hb, hl, hm, hmm, _, hel⟩
  · exact ⟨[], .slice none 0 0, rfl, RdS.nil _ _ _⟩
  · simp only [if_true] at hmm
    rw [hmm] at hel
    have hx : ∀ i, ∃ y : Option α, i < len → ∃ cs' a', y = some a' ∧ E.R [] w cs' a' ∧ w.cells? 0 (a.add (i * P.cellsOf e)) (P.cellsOf e) = some cs' := fun i => by
      by_cases hi : i < len
      · obtain ⟨cs', h1, h2⟩ := hel i (by omega)
        obtain ⟨a', ha⟩ := B H enc w k cs' _ h2
        exact ⟨some a', fun _ => ⟨cs', a', rfl, ha, h1⟩⟩
      · exact ⟨none, fun h => absurd h hi⟩
    by_cases h0 : len = 0
    · subst h0
      exact ⟨[], .slice (some a) 0 cap, rfl, some a, cap, rfl, Nat.zero_le _, hm, .inl rfl⟩
    have hlist : ∃ xs : List α, xs.length = len ∧ ∀ i (hi : i < xs.length), ∃ cs', E.R [] w cs' xs[i] ∧ w.cells? 0 (a.add (i * P.cellsOf e)) (P.cellsOf e) = some cs' := by
      have h1 : ∀ i (hi : i < len), ∃ a', ∃ cs', E.R [] w cs' a' ∧ w.cells? 0 (a.add (i * P.cellsOf e)) (P.cellsOf e) = some cs' := fun i hi => by
        obtain ⟨y, hy⟩ := hx i
        obtain ⟨cs', a', _, h2, h3⟩ := hy hi
        exact ⟨a', cs', h2, h3⟩
      refine ⟨List.ofFn fun i : Fin len => (h1 i.1 i.2).choose, by simp, fun i hi => ?_⟩
      have hi' : i < len := by simpa using hi
      simpa using (h1 i hi').choose_spec
    obtain ⟨xs, hxl, hxs⟩ := hlist
    have hpos := E.pos
    have hspot : ∃ b o, a = ⟨b, o, none⟩ := by
      obtain ⟨cs', hR, hcc⟩ := hxs 0 (by omega)
      obtain ⟨_, hlen, hcell⟩ := World.cells?_some hcc
      have hn := E.len hR
      have h00 := hcell 0 (by omega)
      rw [Nat.zero_mul] at h00
      have ha : (a.add 0).add 0 = a := by simp [Addr.add]
      rw [ha, List.getElem?_eq_getElem (by omega)] at h00
      obtain ⟨b, o, s⟩ := a
      have hs : s = none := World.cell?_spot h00
      exact ⟨b, o, by rw [hs]⟩
    obtain ⟨b, o, rfl⟩ := hspot
    have hlt : b < w.heap.size := by
      obtain ⟨cs', hR, hcc⟩ := hxs 0 (by omega)
      obtain ⟨_, hlen, hcell⟩ := World.cells?_some hcc
      have hn := E.len hR
      have h00 := hcell 0 (by omega)
      rw [List.getElem?_eq_getElem (by omega)] at h00
      have := cell_lt h00
      simpa [add_none] using this
    refine ⟨xs, .slice (some ⟨b, o, none⟩) len cap, rfl, some ⟨b, o, none⟩, cap, by rw [hxl], by omega, hm, .inr ⟨b, o, rfl, by simp, hlt, fun i hi => ?_⟩⟩
    obtain ⟨cs', hR, hcc⟩ := hxs i hi
    obtain ⟨_, hlen, hcell⟩ := World.cells?_some hcc
    refine ⟨cs', hR, fun j u hj => ?_⟩
    have hjl : j < P.cellsOf e := by
      rcases Nat.lt_or_ge j cs'.length with h | h
      · omega
      · simp [List.getElem?_eq_none h] at hj
    have := hcell j hjl
    rw [add_none, add_none, hj, hc] at this
    exact this
/-- The fields from here on. -/
def FieldsB (P : Program) (N : Nat) (fs : List Field) {α : Type} (E : Enc α) : Prop :=
  ∀ (H : Type) (enc : TypeId × Value → H) (w : World) (cs : List Value), cs.length = N →
    (∀ f ∈ fs, ∃ (n : Nat) (x : DataW H × List MemPlace), DataW.trod enc P w 0 (fun _ => true) true n f.type ((cs.drop f.offset).take (P.cellsOf f.type)) = some x) →
    ∃ a, E.R [] w (cs.drop ((fs.head?.map (·.offset)).getD 0)) a
theorem fb_last {P : Program} {N : Nat} {f : Field} {α : Type} {E : Enc α} (B : Bridge P f.type E) (hN : f.offset + P.cellsOf f.type = N) : FieldsB P N [f] E := fun H enc w cs hl h => by
  obtain ⟨n, x, hx⟩ := h f (by simp)
  have : (cs.drop f.offset).take (P.cellsOf f.type) = cs.drop f.offset := List.take_of_length_le (by rw [List.length_drop]; omega)
  rw [this] at hx
  exact B H enc w n _ x hx
theorem fb_cons {P : Program} {N : Nat} {f g : Field} {r : List Field} {α β : Type} {E : Enc α} {F : Enc β} (B : Bridge P f.type E) (hN : f.offset + P.cellsOf f.type = g.offset) (R : FieldsB P N (g :: r) F) : FieldsB P N (f :: g :: r) (prodE E F) :=
  fun H enc w cs hl h => by
    obtain ⟨n, x, hx⟩ := h f (by simp)
    obtain ⟨a, ha⟩ := B H enc w n _ x hx
    obtain ⟨b, hb⟩ := R H enc w cs hl fun f' hf' => h f' (List.mem_cons_of_mem _ hf')
    refine ⟨(a, b), (cs.drop f.offset).take (P.cellsOf f.type), cs.drop g.offset, ?_, ha, hb⟩
    show cs.drop f.offset = _
    rw [← hN, ← List.drop_drop, List.take_append_drop]
theorem bridge_struct {P : Program} {t : TypeId} {f : Field} {r : List Field} {α : Type} {E : Enc α} (ht : P.underlying t = some (.struct (f :: r).toArray)) (h0 : f.offset = 0) (F : FieldsB P (P.cellsOf t) (f :: r) E) : Bridge P t E := fun H enc w n cs x h => by
  obtain ⟨xs, m, _, _, hl, hlen, hf⟩ := DataW.trod_struct ht h
  obtain ⟨a, ha⟩ := F H enc w cs hl fun g hg => by
    obtain ⟨i, hi, rfl⟩ := List.getElem_of_mem hg
    have hi' : i < xs.length := by rw [hlen]; simpa using hi
    have := hf i (f :: r)[i] (by simp [List.getElem?_eq_getElem hi])
    rw [List.getElem?_eq_getElem hi'] at this
    exact ⟨m, _, this⟩
  exact ⟨a, by simpa [h0] using ha⟩
/-- An argument, opened. -/
theorem open_arg {P : Program} {t : TypeId} {α : Type} {E : Enc α} (B : Bridge P t E) {H : Type} {enc : TypeId × Value → H} {w : World} {v : Value} {d : DataW H} {p : List MemPlace} (h : DataW.Trod enc P w 0 (fun _ => true) true t v d p) : ∃ a, E.R [] w v.cells.toList a := by
  obtain ⟨n, hn⟩ := h
  exact B H enc w n _ _ hn
end Go.Sx
namespace Go.Sx
open Go Go.RowKit Go.ChangeMaps
variable [Trk]
/-- Asking among keys, in whatever world. -/
theorem findAsking_all {P : Program} {k : TypeId} (heq : ∀ (w : World) {x y : Value} {lx ly : Lit}, keyOf P k x = some lx → keyOf P k y = some ly → ∃ r : Bool, (Op.equal k x y).run P w = .ok r w ∧ (r = true ↔ lx = ly)) {x : Value} {lx : Lit} (hx : keyOf P k x = some lx) :
    ∀ (es : List MapEntry) (i : Nat), (∀ e ∈ es, ∃ l, keyOf P k e.key = some l) →
      ((∀ w, (Instr.findAsking k x es i).run P w = .ok none w) ∧ ∀ e ∈ es, keyOf P k e.key ≠ some lx) ∨
      ∃ j e, (∀ w, (Instr.findAsking k x es i).run P w = .ok (some (i + j, e.val)) w) ∧ es[j]? = some e ∧ keyOf P k e.key = some lx
  | [], i, _ => Or.inl ⟨fun w => by simp [Instr.findAsking], by simp⟩
  | e :: es, i, hall => by
    obtain ⟨l, hl⟩ := hall e (by simp)
    by_cases c : lx = l
    · refine .inr ⟨0, e, fun w => ?_, rfl, by rw [hl, c]⟩
      obtain ⟨r, hr, hiff⟩ := heq w hx hl
      have : r = true := hiff.2 c
      subst this
      simp [Instr.findAsking, hr]
    · have hr : ∀ w, (Op.equal k x e.key).run P w = .ok false w := fun w => by
        obtain ⟨r, hr, hiff⟩ := heq w hx hl
        have : r = false := by
          cases r with
          | false => rfl
          | true => exact absurd (hiff.1 rfl) c
        subst this; exact hr
      rcases findAsking_all heq hx es (i + 1) (fun y hy => hall y (by simp [hy])) with ⟨h1, h2⟩ | ⟨j, e', h1, h2, h3⟩
      · refine .inl ⟨fun w => by simp [Instr.findAsking, hr, h1], fun y hy => ?_⟩
        rcases List.mem_cons.1 hy with rfl | hy
        · rw [hl]; exact fun h => c (Option.some.inj h).symm
        · exact h2 y hy
      · exact .inr ⟨j + 1, e', fun w => by simp [Instr.findAsking, hr, h1, Nat.add_assoc, Nat.add_comm 1 j], by simpa using h2, h3⟩
theorem key2 {P : Program} {t u : TypeId} {q : IntKind} {f0 f1 : Field} (hu : P.underlying t = some (.struct #[f0, f1])) (h0 : f0.type = u) (h1 : f1.type = u) (o0 : f0.offset = 0) (o1 : f1.offset = 1) (n0 : (f0.name != "_") = true) (n1 : (f1.name != "_") = true)
    (hk : P.underlying u = some (.int q)) (hc : P.cellsOf t = 2) (hcu : P.cellsOf u = 1) (hty : P.keyType t = true) (hsz : 0 < P.types.size) {x y : Int} (hx : InK q x) (hy : InK q y) : ∃ l, keyOf P t (.agg (List.toArray [.int q x, .int q y])) = some l := by
  have w1 : ∀ {z : Int}, InK q z → (Lit.int q z).wf = true := fun {z} h => by simp only [Lit.wf, decide_eq_true_eq, Bool.and_eq_true]; exact h
  have hl : ∀ (n : Nat) {z : Int}, InK q z → P.keyLits (n + 1) u [.int q z] = some [.int q z] := fun n {z} h => by
    unfold Program.keyLits
    rw [hk]; simp [w1 h]
  have hs : ∀ n : Nat, P.keyLits (n + 1 + 1) t [.int q x, .int q y] = some [.int q x, .int q y] := fun n => by
    unfold Program.keyLits
    rw [hu]
    have e0 : ((List.drop 0 [Value.int q x, Value.int q y]).take 1) = [Value.int q x] := rfl
    have e1 : ((List.drop 1 [Value.int q x, Value.int q y]).take 1) = [Value.int q y] := rfl
    simp [hc, n0, n1, h0, h1, o0, o1, hcu, hl n hx, hl n hy]
  obtain ⟨n, hn⟩ : ∃ n, P.types.size + 1 = n + 1 + 1 := by
    refine ⟨P.types.size - 1, ?_⟩
    omega
  refine ⟨.string (keyBytes [.int q x, .int q y]), ?_⟩
  unfold keyOf
  rw [hu]
  have hf : (Value.agg (List.toArray [Value.int q x, Value.int q y])).formed P t = true := by simp [Value.formed, hu, hc]
  simp only [hty, hf, Bool.and_self, if_true]
  rw [hn]
  show (P.keyLits (n + 1 + 1) t [.int q x, .int q y]).map _ = _
  rw [hs n]; rfl
/-- Keys that are structures. -/
def deepKy {P : Program} {kt : TypeId} {κ : Type} (hl : laidOutB P = true) {m : Nat} (hm : m + 1 ≤ 10000) (hrow : kt < P.types.size) (hk : P.keyTypeAt m kt = true) (hwide : (match P.underlying kt with | some (.array _ _) | some (.struct _) => true | _ => false) = true)
    (val : κ → Value) (ok : κ → Prop) (hv : ∀ {a}, ok a → ∃ l, keyOf P kt (val a) = some l) (hi : ∀ {a b : κ}, ok a → ok b → val a = val b → a = b) : Ky P kt κ where
  val := val
  ok := ok
  inj := hi
  check := fun ha w em => by
    obtain ⟨l, hl'⟩ := hv ha
    exact (deep_law_laid hl hm hrow hk hwide).check w em hl'
  find := fun {a} ha es hes => by
    obtain ⟨l, hl'⟩ := hv ha
    have hall : ∀ e ∈ es, ∃ l, keyOf P kt e.key = some l := fun e he => by
      obtain ⟨b, hb, h⟩ := hes e he
      rw [h]; exact hv hb
    have hwf : ∀ w, (Instr.findKey kt (val a) es).run P w = (Instr.findAsking kt (val a) es 0).run P w := fun w => run_findKey_eq w hwide _ _
    rcases findAsking_all (fun w {_ _ _ _} h1 h2 => run_equal_deep w (by omega) hk hwide h1 h2) hl' es 0 hall with ⟨h1, h2⟩ | ⟨j, e0, h1, h2, h3⟩
    · exact .inl ⟨fun w => by rw [hwf]; exact h1 w, fun y hy e1 => h2 y hy (by rw [e1]; exact hl')⟩
    · exact .inr ⟨j, e0, fun w => by rw [hwf]; simpa using h1 w, h2, (deep_law_laid hl hm hrow hk hwide).inj h3 hl'⟩
  stays := fun ha w => by
    obtain ⟨l, hl'⟩ := hv ha
    exact (deep_law_laid hl hm hrow hk hwide).stays w hl'
section
variable {P : Program} {kt : TypeId} {κ α : Type} {K : Ky P kt κ} {E : Enc α} {ag : Bool}
/-- The entry of a key, by its stamp. -/
def StampAt (K : Ky P kt κ) (w : World) (b st : Nat) (a : κ) : Prop := ∃ es c, w.heap[b]? = some (.map es c) ∧ ∃ (j : Nat) (e : MapEntry), es.toList[j]? = some e ∧ e.born = st ∧ e.key = K.val a
variable [DecidableEq κ]
/-- A map of one's own, an entry of which has been asked for. -/
def mapS (K : Ky P kt κ) (E : Enc α) (ag : Bool) (b : Nat) (f : FMap κ α) (a : κ) (y : α) (st : Nat) : Res where
  fp := [b]
  mu := []
  holds := fun M w => MapH K E ag M w b (fput f a y) ∧ StampAt K w b st a
  adv := fun ha hb h => by
    obtain ⟨⟨es, c, xs, h1, h2, h3, h4⟩, es', c', g1, g2⟩ := h
    exact ⟨⟨es, c, xs, (hb b (by simp)).trans h1, h2, h3.adv ha, h4⟩, es', c', (hb b (by simp)).trans g1, g2⟩
  lt := fun h x hx => by
    obtain ⟨⟨es, c, xs, h1, _⟩, _⟩ := h
    have : x = b := by simpa using hx
    subst this; exact heap_lt h1
theorem fput_fput {f : FMap κ α} {a : κ} {y z : α} : fput (fput f a y) a z = fput f a z := by
  funext k
  unfold fput
  by_cases e : k = a <;> simp [e]
theorem fput_same {f : FMap κ α} {a : κ} {y : α} (h : f a = some y) : fput f a y = f := by
  funext k
  unfold fput
  by_cases e : k = a
  · subst e; simp [h]
  · simp [e]
variable {N : Nat} {ops : Array Oper} {q : Md} {rest : List Oper} {ds : List Deferred} {L : Env} {w w0 : World} {A B : Out} {X : Nat → Out} {Z : List PanicEntry → Out} {d : Nat} {ty : TypeId} {pos : String} {af : Array Edge} {Mu M : List Nat} {σ : List Res}
theorem modify_id {es : Array MapEntry} {j : Nat} {e : MapEntry} {v : Value} (h : es.toList[j]? = some e) (hk : e.key = v) : (es.modify j fun e => { e with key := v }) = es := by
  apply Array.ext'
  rw [Array.toList_modify]
  refine List.ext_getElem? fun i => ?_
  rw [List.getElem?_modify]
  by_cases c : j = i
  · subst c; rw [h]; simp [← hk]
  · simp [c]
/-- An entry asked for that is to be stored. -/
theorem y_men (i : Nat) {b : Nat} {f : FMap κ α} {z0 : α} {zv : Value} {x y : Operand} {t e : TypeId} {a : κ} (hI : Hp w0 Mu M σ w) (hi : σ[i]? = some (mapO K E ag b f))
    (hx : ev L x = some (.map (some b))) (hy : ev L y = some (K.val a)) (ha : K.ok a) (ht : P.underlying t = some (.map kt e)) (hz : ∀ w, (zeroValue e).run P w = .ok zv w) (hzR : Vl E ag (mm σ M) w zv z0) (hN : Nat.blt d N = true)
    (h : ∀ v st w', Hp w0 Mu M (σ.set i (mapS K E ag b f a ((f a).getD z0) st)) w' → Adv (mm σ M) (mm (σ.set i (mapS K E ag b f a ((f a).getD z0) st)) M) w w' → Reg P N ops .seq rest ds ((d, .tuple #[v, .int .i64 (st : Int)]) :: L) w' A B X Z) :
    Reg P N ops .seq (⟨some d, .mapEntry t x y, ty, pos, af, none⟩ :: rest) ds L w A B X Z := by
  obtain ⟨es, c, xs, h1, h2, h3, h4⟩ := hI.mapAt' i hi
  have key' : ∃ (es' : Array MapEntry) (c' : Nat) (xs' : List (κ × α)) (v : Value) (st : Nat), (Instr.mapEntry t (.map (some b)) (K.val a)).run P w = .ok (.tuple #[v, .int .i64 (st : Int)]) (setBlock w b (.map es' c')) ∧ Stp es' c' ∧ EntK K E ag (mm σ M) w es'.toList xs' ∧ Lists (fput f a ((f a).getD z0)) xs' ∧ ∃ (j : Nat) (e : MapEntry), es'.toList[j]? = some e ∧ e.born = st ∧ e.key = K.val a := by
    rcases K.find ha es.toList h3.keys with ⟨g1, g2⟩ | ⟨j, e', g1, g2, g3⟩
    · have hno : ∀ x ∈ xs, x.1 ≠ a := fun x hx he => by
        obtain ⟨e', h5, h6⟩ := h3.back x hx
        exact g2 e' h5 (by rw [h6, he])
      have hf : f a = none := h4.none hno
      refine ⟨es.push ⟨K.val a, zv, c⟩, c + 1, xs ++ [(a, z0)], zv, c, ?_, ⟨?_, fun x hx => ?_⟩, ?_, by rw [hf]; exact h4.push z0 hno, es.size, ⟨K.val a, zv, c⟩, by simp, rfl, rfl⟩
      · simp [Instr.mapEntry, run_underlying ht, MapKept.run_getObj_map h1, K.check ha, g1, hz, MapKept.run_setObj_map _ h1, Result.andThen, setBlock, goInt]
      · rw [Array.toList_push, List.map_append, List.nodup_append]
        refine ⟨h2.1, by simp, fun x hx y hy => ?_⟩
        obtain ⟨p, hp, rfl⟩ := List.mem_map.1 hx
        have := h2.2 p hp
        have : y = c := by simpa using hy
        omega
      · rw [Array.toList_push, List.mem_append] at hx
        rcases hx with hx | hx
        · have := h2.2 x hx; omega
        · have : x = ⟨K.val a, zv, c⟩ := by simpa using hx
          subst this; exact Nat.lt_succ_self c
      · rw [Array.toList_push]; exact h3.push ha hzR
    · obtain ⟨x', hx', hk, hok, hv'⟩ := h3.at g2
      have hxa : x'.1 = a := K.inj hok ha (by rw [← hk, g3])
      have hf : f a = some x'.2 := (h4.2 a x'.2).1 (by rw [← hxa]; exact List.mem_of_getElem? hx')
      have g4 : es[j]? = some e' := by simpa using g2
      refine ⟨es, c, xs, e'.val, e'.born, ?_, h2, h3, ?_, j, e', g2, rfl, g3⟩
      · simp [Instr.mapEntry, run_underlying ht, MapKept.run_getObj_map h1, K.check ha, g1, g4, g3, K.stays ha, modify_id g2 g3, MapKept.run_setObj_map _ h1, Result.andThen, setBlock, goInt]
      · rw [hf]
        show Lists (fput f a x'.2) xs
        rw [fput_same hf]; exact h4
  obtain ⟨es', c', xs', v, st, hr, hS, hE, hL, hSt⟩ := key'
  have hkp : Kp [b] w (setBlock w b (.map es' c')) := Kp.setB h1
  have hn : ∀ b' ∈ (mapS K E ag b f a ((f a).getD z0) st).fp, b' ∈ (mapO K E ag b f).fp ∨ w.heap.size ≤ b' := fun b' hb => .inl hb
  have hhp := (MapKept.heap_set (o' := .map es' c') h1).1
  refine Reg.eff _ (setBlock w b (.map es' c')) rfl rfl hN (fun A hA => ?_) (h v st _ (hI.upd i hi hkp hn rfl fun M' hM' => ⟨⟨es', c', xs', hhp, hS, ?_, hL⟩, es', c', hhp, hSt⟩) (hI.updA (r' := mapS K E ag b f a ((f a).getD z0) st) i hi hkp hn))
  · simp [execOp, hA.eval hx, hA.eval hy, hr]
  · have hb : b ∈ mm σ M := mem_mm.2 (.inl ⟨_, List.mem_of_getElem? hi, by simp [mapO]⟩)
    refine (hE.adv ⟨hkp.mono fun x hx => .inl ?_, fun x hx => .inl hx⟩).mon fun x hx => .inl ?_
    · have : x = b := by simpa using hx
      subst this; exact hb
    · rcases hM' x hx with h9 | h9
      · have : x = b := by simpa [mapS] using h9
        subst this; exact hb
      · exact h9
/-- Asked for while its entry waits. -/
theorem y_lkS (i : Nat) {b st : Nat} {f : FMap κ α} {y0 z0 : α} {zv : Value} {x y : Operand} {t e : TypeId} {a : κ} (hI : Hp w0 Mu M σ w) (hi : σ[i]? = some (mapS K E ag b f a y0 st))
    (hx : ev L x = some (.map (some b))) (hy : ev L y = some (K.val a)) (ha : K.ok a) (ht : P.underlying t = some (.map kt e)) (hz : ∀ w, (zeroValue e).run P w = .ok zv w) (hzR : Vl E ag (mm σ M) w zv z0) (hN : Nat.blt d N = true)
    (h : ∀ v, Vl E ag (mm σ M) w v y0 → Reg P N ops .seq rest ds ((d, v) :: L) w A B X Z) :
    Reg P N ops .seq (⟨some d, .lookup t x y false, ty, pos, af, none⟩ :: rest) ds L w A B X Z := by
  obtain ⟨v, h1, h2⟩ := (hI.get i hi).1.lookup ha ht hz hzR
  have h3 : (fput f a y0 a).getD z0 = y0 := by simp [fput]
  rw [h3] at h2
  refine Reg.eff _ w rfl rfl hN (fun A hA => ?_) (h v h2)
  simp [execOp, hA.eval hx, hA.eval hy, h1 _ w rfl]
/-- An entry stored by its stamp. -/
theorem y_est (i : Nat) {b st : Nat} {f : FMap κ α} {y0 z : α} {v : Value} {x y u : Operand} {t : TypeId} {a : κ} (hI : Hp w0 Mu M σ w) (hi : σ[i]? = some (mapS K E ag b f a y0 st))
    (hx : ev L x = some (.map (some b))) (hy : ev L y = some (.int .i64 (st : Int))) (ha : K.ok a) (hu : ev L u = some v) (hv : Vl E ag (mm σ M) w v z)
    (h : ∀ w', Hp w0 Mu M (σ.set i (mapO K E ag b (fput f a z))) w' → Adv (mm σ M) (mm (σ.set i (mapO K E ag b (fput f a z))) M) w w' → Reg P N ops .seq rest ds L w' A B X Z) :
    Reg P N ops .seq (⟨none, .entryStore t x y u, ty, pos, af, none⟩ :: rest) ds L w A B X Z := by
  obtain ⟨⟨es, c, xs, h1, h2, h3, h4⟩, es2, c2, g1, j, e, g2, g3, g4⟩ := hI.get i hi
  have : es2 = es := by rw [h1] at g1; injection g1 with g1; injection g1 with g1; exact g1.symm
  subst this
  obtain ⟨x', hx', hk, hok, hv'⟩ := h3.at g2
  have hxa : x'.1 = a := K.inj hok ha (by rw [← hk, g4])
  have hmod : (es2.modify j fun e => { e with val := v }) = es2.modify j fun e => { e with key := K.val a, val := v } := by
    apply Array.ext'
    rw [Array.toList_modify, Array.toList_modify]
    refine List.ext_getElem? fun i => ?_
    rw [List.getElem?_modify, List.getElem?_modify]
    by_cases c : j = i
    · subst c; rw [g2]; simp [← g4]
    · simp [c]
  have hr : (Instr.entryStore t (.map (some b)) (.int .i64 (st : Int)) v).run P w = .ok () (setBlock w b (.map (es2.modify j fun e => { e with key := K.val a, val := v }) c)) := by
    have hidx : es2.findIdx? (fun e => ((e.born : Nat) : Int) == ((st : Nat) : Int)) = some j := by
      rw [WideElems.findIdx_arr, ← g3]
      exact WideElems.findIdx_born h2.1 g2
    simp [Instr.entryStore, MapKept.run_getObj_map h1, asInt, asIntOf, hidx, hmod, MapKept.run_setObj_map _ h1, Result.andThen, setBlock]
  have hL : Lists (fput f a z) (xs.set j (a, z)) := by
    have := h4.set (j := j) (a := a) (y := x'.2) (by rw [hx', ← hxa]) z
    rwa [fput_fput] at this
  have hS : Stp (es2.modify j fun e => { e with key := K.val a, val := v }) c := by
    refine ⟨?_, fun x hx => ?_⟩
    · have : ((es2.modify j fun e => { e with key := K.val a, val := v }).toList.map (·.born)) = es2.toList.map (·.born) := by
        rw [Array.toList_modify]
        refine List.ext_getElem? fun i => ?_
        simp only [List.getElem?_map, List.getElem?_modify]
        by_cases e : j = i
        · subst e; cases es2.toList[j]? <;> simp
        · simp [e]
      rw [this]; exact h2.1
    · rw [Array.toList_modify] at hx
      obtain ⟨m, hm⟩ := List.getElem?_of_mem hx
      rw [List.getElem?_modify] at hm
      cases hq : es2.toList[m]? with
      | none => rw [hq] at hm; cases hm
      | some e0 =>
        rw [hq] at hm
        have := h2.2 e0 (List.mem_of_getElem? hq)
        by_cases e : j = m
        · simp [e] at hm; subst hm; exact this
        · simp [e] at hm; subst hm; exact this
  have hE : EntK K E ag (mm σ M) w (es2.modify j fun e => { e with key := K.val a, val := v }).toList (xs.set j (a, z)) := by rw [Array.toList_modify]; exact h3.set ha hv j
  have hkp : Kp [b] w (setBlock w b (.map (es2.modify j fun e => { e with key := K.val a, val := v }) c)) := Kp.setB h1
  have hn : ∀ b' ∈ (mapO K E ag b (fput f a z)).fp, b' ∈ (mapS K E ag b f a y0 st).fp ∨ w.heap.size ≤ b' := fun b' hb => .inl hb
  refine Reg.sto _ rfl rfl (fun A hA => ?_) (h _ (hI.upd i hi hkp hn rfl fun M' hM' => ⟨_, c, xs.set j (a, z), (MapKept.heap_set h1).1, hS, ?_, hL⟩) (hI.updA (r' := mapO K E ag b (fput f a z)) i hi hkp hn))
  · simp [execOp, hA.eval hx, hA.eval hy, hA.eval hu, hr]
  · have hb : b ∈ mm σ M := mem_mm.2 (.inl ⟨_, List.mem_of_getElem? hi, by simp [mapS]⟩)
    refine (hE.adv ⟨hkp.mono fun x hx => .inl ?_, fun x hx => .inl hx⟩).mon fun x hx => .inl ?_
    · have : x = b := by simpa using hx
      subst this; exact hb
    · rcases hM' x hx with h9 | h9
      · have : x = b := by simpa [mapO] using h9
        subst this; exact hb
      · exact h9
end
end Go.Sx
namespace Go.Sx
open Go Go.RowKit
variable [Trk]
/-- Cells as they are. -/
def rawE (n : Nat) (h : 0 < n) : Enc (List Value) where
  n := n
  pos := h
  R := fun _ _ cs x => cs = x ∧ x.length = n ∧ ∀ u ∈ x, u.oneCell' = true
  len := fun h => by rw [h.1]; exact h.2.1
  kp := fun _ h => h
  mon := fun _ h => h
  one := fun h u hu => h.2.2 u (by rw [← h.1]; exact hu)
theorem CallsV.go {P : Program} {w : World} {g : Nat} {caps args all : List Value} {R R' : Ending → World → Prop} (h2 : ∀ args w, (callFunc g args).run P w = .ok (.enter g args) w) (he : args ++ caps = all) (h3 : Calls P g all.toArray w R) (hr : ∀ e w', R e w' → R' e w') : CallsV P (.func (.func g) #[] caps.toArray) args w R' := (CallsV.ofL h2 he h3).mono hr
section
variable {P : Program} {N : Nat} {ops : Array Oper} {q : Md} {rest : List Oper} {ds : List Deferred} {L : Env} {w : World} {A B : Out} {X : Nat → Out} {Z : List PanicEntry → Out}
/-- At a loop's head, within the loop. -/
def CWL (P : Program) (N : Nat) (c : Code) (ds : List Deferred) (L : Env) (w : World) (A B : Out) (X : Nat → Out) (Z : List PanicEntry → Out) : Prop :=
  ∀ a, Knows N ds L a → ∀ b k cs, ∃ e a' w', (lift N A B X Z) e a' w' ∧ Arrives P (lone (b.at a (.code c :: .inLoop c :: k)) cs w) b k cs e a' w'
theorem cw_loopU {c : Code} (h : CWL P N c ds L w A B X Z) : CW P N (.loop c) ds L w A B X Z := by
  intro a ha b k cs
  obtain ⟨e, a', w', hq, harr⟩ := h a ha b k cs
  exact ⟨e, a', w', hq, .of_steps (.one step_loop) harr⟩
theorem cwl_step {c : Code} (h : CW P N c ds L w (fun ds' L' w' => CWL P N c ds' L' w' A B X Z) B X Z) : CWL P N c ds L w A B X Z := by
  intro a ha b k cs
  obtain ⟨e, a₁, w₁, hq, harr⟩ := h a ha b (.inLoop c :: k) cs
  cases e with
  | normal =>
    obtain ⟨ds₁, L₁, hk₁, hc⟩ := hq
    obtain ⟨e₂, a₂, w₂, hq₂, harr₂⟩ := hc a₁ hk₁ b k cs
    exact ⟨e₂, a₂, w₂, hq₂, .of_steps (Steps.trans harr (.one step_inLoop)) harr₂⟩
  | exit id => exact ⟨.exit id, a₁, w₁, hq, .pass (x := .inLoop c) rfl (fun _ _ => .inl (by simp)) harr⟩
  | goto l => exact hq.elim
  | ret => exact ⟨.ret, a₁, w₁, hq, .pass (x := .inLoop c) rfl (fun _ _ => .inl (by simp)) harr⟩
  | panic ch => exact ⟨.panic ch, a₁, w₁, hq, .pass (x := .inLoop c) rfl (fun _ _ => .inl (by simp)) harr⟩
  | outgrown => exact hq.elim
variable {w0 : World} {Mu M : List Nat} {σ : List Res}
/-- A row, lent while others are not written. -/
theorem Hp.lendC (h : Hp w0 Mu M σ w) (l : List Nat) (i : Nat) {e b : Nat} {cs : List Value} (hl : l.contains i = false) (hi : σ[i]? = some (rowR e b cs)) : RdC (mm (Sx.sel σ l) M) w b 0 cs := by
  refine RdC.of_row (fun hb' => ?_) (h.row i hi)
  have hbf : b ∈ (rowR e b cs).fp := by simp [rowR]
  rcases mem_mm.1 hb' with ⟨s, hs, hb'⟩ | hb'
  · obtain ⟨j, hj, hs⟩ := mem_sel hs
    refine h.dis i j _ s hi hs (fun e => ?_) b hbf hb'
    subst e
    simp at hl; exact hl hj
  · exact h.sepM _ (List.mem_of_getElem? hi) b hbf hb'
end
end Go.Sx
namespace Go.Sx
open Go Go.RowKit
variable [Trk]
/-- A slice of numbers that is read, and whose block is no older than n and may be written. -/
def WrS (n : Nat) (M : List Nat) (w : World) (v : Value) (xs : List Int) : Prop :=
  RdS (intE .i64) M w v xs ∧ ∀ b ∈ ob v, n ≤ b ∧ b ∉ M ∧ ∃ cur e m c, w.heap[b]? = some (.cells cur e (0, 0)) ∧ xs.length ≤ cur.size ∧ v = .slice (some ⟨b, 0, none⟩) m c
theorem WrS.rd {n : Nat} {M : List Nat} {w : World} {v : Value} {xs : List Int} (h : WrS n M w v xs) : RdS (intE .i64) M w v xs := h.1
theorem WrS.kp {n : Nat} {M : List Nat} {w w' : World} {v : Value} {xs : List Int} (hk : Kp M w w') (h : WrS n M w v xs) : WrS n M w' v xs :=
  ⟨h.1.kp hk, fun b hb => by
    obtain ⟨h1, h2, cur, e, m, c, h3, h4, h5⟩ := h.2 b hb
    exact ⟨h1, h2, cur, e, m, c, by rw [hk.block b (heap_lt h3) h2]; exact h3, h4, h5⟩⟩
theorem WrS.mon {n : Nat} {M M' : List Nat} {w : World} {v : Value} {xs : List Int} (hm : ∀ b ∈ M', b ∈ M ∨ w.heap.size ≤ b) (h : WrS n M w v xs) : WrS n M' w v xs :=
  ⟨h.1.mon hm, fun b hb => by
    obtain ⟨h1, h2, cur, e, m, c, h3, h4, h5⟩ := h.2 b hb
    refine ⟨h1, fun hb' => ?_, cur, e, m, c, h3, h4, h5⟩
    rcases hm b hb' with h | h
    · exact h2 h
    · have := heap_lt h3; omega⟩
def scrE (n : Nat) : Enc (List Int) where
  n := 1
  pos := by decide
  R := fun M w cs x => ∃ v, cs = [v] ∧ WrS n M w v x
  len := fun ⟨v, h, _⟩ => by rw [h]; rfl
  kp := fun hk ⟨v, h, hr⟩ => ⟨v, h, hr.kp hk⟩
  mon := fun hm ⟨v, h, hr⟩ => ⟨v, h, hr.mon hm⟩
  one := fun ⟨v, h, hr⟩ u hu => by
    rw [h] at hu; simp at hu; subst hu
    obtain ⟨a, c, rfl, _⟩ := hr.1
    rfl
theorem scrE_R {n : Nat} {M : List Nat} {w : World} {cs : List Value} {x : List Int} : (scrE n).R M w cs x ↔ ∃ v, cs = [v] ∧ WrS n M w v x := Iff.rfl
theorem WrS.of_own {n e Bb : Nat} {M : List Nat} {w : World} {v : Value} {xs : List Int} (h : Own (intE .i64) e Bb M w v xs) (hM : ∀ b ∈ ob v, b ∉ M) (hn : ∀ b ∈ ob v, n ≤ b) : WrS n M w v xs := by
  refine ⟨h.rd hM, fun b hb => ⟨hn b hb, hM b hb, ?_⟩⟩
  rcases h with ⟨a, rfl, rfl⟩ | ⟨g, cap, cur, rfl, h1, h2, h3, h4, h5, h6⟩
  · rw [ob_lit0] at hb; cases hb
  · obtain rfl : b = g := by simpa [ob] using hb
    refine ⟨cur, e, _, _, h2, ?_, rfl⟩
    have : (intE .i64).n = 1 := rfl
    rw [this] at h5
    omega
theorem Hp.freezeW {w0 w : World} {Mu M : List Nat} {σ : List Res} (h : Hp w0 Mu M σ w) (i : Nat) {e : TypeId} {v : Value} {xs : List Int} (hi : σ[i]? = some (ownR [] (intE .i64) e v xs)) : WrS w0.heap.size (mm (σ.eraseIdx i) M) w v xs := by
  refine WrS.of_own ((h.ownAt i hi).mon fun b hb => .inr (mm_sub (List.eraseIdx_sublist σ i) hb)) (fun b hb => h.apart i hi b hb) fun b hb => ?_
  have := (h.own _ (List.mem_of_getElem? hi)).2 b hb
  rcases this with h | h
  · cases h
  · exact h
/-- The same cells, less told. -/
theorem Chunks.weak {α : Type} {E F : Enc α} (hn : E.n = F.n) (h : ∀ {M w cs x}, E.R M w cs x → F.R M w cs x) {M : List Nat} {w : World} : ∀ {cs : List Value} {xs : List α}, Chunks E M w cs xs → Chunks F M w cs xs
  | _, [], hc => hc
  | _, _ :: _, ⟨c, rest, h0, hR, hr⟩ => ⟨c, rest, h0, h hR, Chunks.weak hn h hr⟩
theorem Own.weak {α : Type} {E F : Enc α} (hn : E.n = F.n) (h : ∀ {M w cs x}, E.R M w cs x → F.R M w cs x) {e : TypeId} {Bb : Nat} {M : List Nat} {w : World} {v : Value} {xs : List α} (ho : Own E e Bb M w v xs) : Own F e Bb M w v xs := by
  rcases ho with ho | ⟨g, cap, cur, rfl, h1, h2, h3, h4, h5, h6⟩
  · exact .inl ho
  · exact .inr ⟨g, cap, cur, rfl, h1, h2, h3, h4, by rw [← hn]; exact h5, by rw [← hn]; exact h6.weak hn h⟩
/-- What was new is written: what was there before stays. -/
theorem Adv.scr {M L : List Nat} {a b c : World} (h : Adv M M a b) (k : Kp L b c) (hL : ∀ x ∈ L, a.heap.size ≤ x) : Adv M M a c :=
  ⟨h.kp.tail k fun x hx => .inr (hL x hx), fun _ h => .inl h⟩
theorem Hp.scr {w0 wc W1 W2 : World} {Mu M L : List Nat} (hc : Hp w0 Mu M [] wc) (h1 : Hp w0 Mu M [] W1) (k : Kp L W1 W2) (hL : ∀ x ∈ L, wc.heap.size ≤ x) : Hp w0 Mu M [] W2 := by
  have hL' : ∀ x ∈ L, w0.heap.size ≤ x := fun x hx => Nat.le_trans hc.kp.size (hL x hx)
  exact ⟨h1.kp.tail k fun x hx => .inr (hL' x hx), h1.mlt.ext k, ⟨h1.adv.kp.tail k fun x hx => .inr (hL' x hx), h1.adv.new⟩, h1.base, (fun _ h => by cases h), (fun _ h => by cases h), (fun _ _ _ _ h => by simp at h), fun _ h => by cases h⟩
section
variable {P : Program} {N : Nat} {ops : Array Oper} {q : Md} {rest : List Oper} {ds : List Deferred} {L : Env} {w : World} {A B : Out} {X : Nat → Out} {Z : List PanicEntry → Out} {d : Nat} {ty : TypeId} {pos : String} {af : Array Edge}
theorem s_iaW {t e m : Nat} {x y : Operand} {b n c : Nat} {k : IntKind} {i : Nat} (hx : ev L x = some (.slice (some ⟨b, 0, none⟩) n c)) (hy : ev L y = some (.int k i)) (hi : i < n) (ht : P.underlying t = some (.slice e)) (hs : ∀ w, (sizeOf e).run P w = .ok m w) (hN : Nat.blt d N = true)
    (h : Reg P N ops q rest ds ((d, .pointer (some ⟨b, i * m, none⟩)) :: L) w A B X Z) : Reg P N ops q (⟨some d, .indexAddr t x y, ty, pos, af, none⟩ :: rest) ds L w A B X Z := by
  refine Reg.val (.pointer (some ⟨b, i * m, none⟩)) rfl rfl hN (fun a ha w' _ => ?_) h
  have h3 : (i : Int) < (n : Int) := by omega
  simp [execOp, ha.eval hx, ha.eval hy, Instr.indexAt, asIntOf, run_underlying ht, h3, hs, add_none]
  intro h9; exact absurd h9 (by omega)
/-- A cell of a block that may be written. -/
theorem s_stW {t e : TypeId} {x y : Operand} {g k : Nat} {u : Value} {cur : Array Value} (hx : ev L x = some (.pointer (some ⟨g, k, none⟩))) (hy : ev L y = some u) (hu : u.cells = [u].toArray) (h1 : u.oneCell' = true)
    (hh : w.heap[g]? = some (.cells cur e (0, 0))) (hk : k < cur.size) (hsz : ∀ w, (sizeOf t).run P w = .ok 1 w)
    (h : ∀ w' cur', w'.heap[g]? = some (.cells cur' e (0, 0)) → cur'.size = cur.size → Kp [g] w w' → Reg P N ops .seq rest ds L w' A B X Z) :
    Reg P N ops .seq (⟨none, .store t x y, ty, pos, af, none⟩ :: rest) ds L w A B X Z := by
  have hrow : Row e w g cur.toList := hh
  obtain ⟨w', hrun, hw', hk'⟩ := run_storeAt (P := P) g e [u] 0 cur.toList w k hrow (by simp; omega) (fun v hv => by simp at hv; subst hv; exact h1)
  refine Reg.sto w' rfl rfl (fun a ha => ?_) (h w' _ hw' (by simp [setAt_len]) hk')
  simp [execOp, ha.eval hx, ha.eval hy, Instr.storeAt, Instr.sureAddr, storeVar, hu, hsz, hrun]
end
end Go.Sx
set_option maxRecDepth 20000
set_option maxHeartbeats 4000000
namespace Go.Proofs.YtepjkmoipjeghaaDoor
open Go Go.Sx Go.RowKit
variable [Trk]
noncomputable def P.ref03_SameInts (a : (List Int)) (b : (List Int)) : Option Bool :=
  cond (!decide ((a.length : Int) = (b.length : Int))) (some false) (Option.bind (loopM (S := Int) (R := (Unit) ⊕ (Bool)) (fun x2 => cond (decide (x2 < (a.length : Int))) (Option.bind (ixo a x2) fun y4 => Option.bind (ixo b x2) fun y11 => cond (!decide (y4 = y11)) (some (.inr (.inr false))) (Option.bind (chk .i64 (x2 + 1)) fun n22 => some (.inl n22))) (some (.inr (.inl ())))) 0) fun j23 => Sum.elim (fun _ => some true) (fun r24 => some r24)  j23)
theorem C_ref03_SameInts {M : List Nat} {w : World} (hM : MLt M w) {a : (List Int)} {v_a_0 : Value} (f_a_0 : RdS (intE .i64) M w v_a_0 a) {b : (List Int)} {v_b_0 : Value} (f_b_0 : RdS (intE .i64) M w v_b_0 b) {r0 : Bool} (h : P.ref03_SameInts a b = some r0) :
  Calls Tryd.prog 66 (List.toArray [v_a_0, v_b_0]) w fun e w' => e = .returned (Value.bool r0) ∧ Ext w w' := by
 have hI := Hp.start (Mu := []) hM
 refine calls_cw Tryd.func66 rfl Tryd.ntmps66 rfl ?_
 refine cw_seq (cw_regF (s_as rfl rfl (Reg.nil (cw_seq (cw_seq (cw_regF (s_mv rfl rfl (s_len rfl f_a_0 Tryd.underlying36 rfl (s_mv rfl rfl (s_len rfl f_b_0 Tryd.underlying36 rfl (s_neq rfl rfl rfl ?_)))))))))))
 refine Reg.nil (cw_cond rfl (fun hc1 => ?_) (fun hc1 => ?_))
 ·replace h := cdT hc1 h
  refine cw_seq (cw_regF (s_as rfl rfl (Reg.nil (cw_ret ?_))))
  obtain rfl := Option.some.inj h
  refine fin1 Tryd.results66 rfl ?_
  exact ⟨rfl, hI.kp⟩
 replace h := cdF hc1 h
 refine cw_skip (cw_seq (cw_seq (cw_regF (s_as rfl rfl (Reg.nil ?_)))))
 obtain ⟨j2, h3, h⟩ := bnd h
 refine cw_keep [0, 1, 5] rfl (cw_unitD 3 (ι := Unit) (fun _ => []) (fun _ => fun w4 => Hp w [] M [] w4 ∧ Adv (mm [] M) (mm [] M) w w4 ∧ (.inl ()) = j2) ?_ ?_)
 ·refine cw_block (cw_keep [5, 0, 1] rfl ?_)
  refine cw_loopM 1 (ι := Int) _ (fun x7 => [(5, vi x7)]) (fun x7 => x7) (fun x7 => fun w9 => Hp w [] M [] w9 ∧ Adv (mm [] M) (mm [] M) w w9 ∧ InK .i64 x7) 0 h3 ⟨hI, (Adv.refl _ _), (by decide)⟩ (sb3 rfl rfl rfl) ?_
  rintro x7 w9 ⟨hI10, hA11, r8⟩ y12 h13 hR14
  refine cw_seq (cw_seq (cw_regF (s_mv rfl rfl (s_mv rfl rfl (s_len rfl (f_a_0.adv hI10.adv) Tryd.underlying36 rfl (s_lss rfl rfl rfl (Reg.nil (cw_cond rfl (fun hc15 => ?_) (fun hc15 => ?_)))))))))
  ·replace h13 := cdT hc15 h13
   refine cw_skip (cw_seq (cw_block (cw_seq ?_)))
   refine cw_regT fol (by kernel_rfl) ?_
   refine s_mv rfl rfl (s_mv rfl rfl ?_)
   obtain ⟨y16, hy16, h13⟩ := bnd h13
   refine p_ia rfl rfl (f_a_0.adv hI10.adv) hy16 Tryd.underlying36 Tryd.sizeOf3 rfl ?_
   intro b17 o18 cs19 hR20 hC21
   obtain ⟨rfl, r22⟩ := hR20
   refine s_ld rfl (hC21.cells.at 0 rfl) Tryd.isAgg3 rfl (s_mv rfl rfl (s_mv rfl rfl ?_))
   obtain ⟨y23, hy23, h13⟩ := bnd h13
   refine p_ia rfl rfl (f_b_0.adv hI10.adv) hy23 Tryd.underlying36 Tryd.sizeOf3 rfl ?_
   intro b24 o25 cs26 hR27 hC28
   obtain ⟨rfl, r29⟩ := hR27
   refine s_ld rfl (hC28.cells.at 0 rfl) Tryd.isAgg3 rfl (s_neq rfl rfl rfl (Reg.nilq (fun w30 e31 => ?_)))
   have hI32 := hI10.ext e31
   refine cw_cond rfl (fun hc33 => ?_) (fun hc33 => ?_)
   ·replace h13 := cdT hc33 h13
    refine cw_seq (cw_regF (s_as rfl rfl (Reg.nil (cw_ret ?_))))
    obtain rfl := Option.some.inj h13
    obtain rfl := hR14 _ rfl
    replace h := elimR h
    obtain rfl := Option.some.inj h
    refine fin1 Tryd.results66 rfl ?_
    exact ⟨rfl, hI32.kp⟩
   replace h13 := cdF hc33 h13
   refine cw_skip (cw_regF (s_mv rfl rfl ?_))
   obtain ⟨n34, hn34, h13⟩ := bnd h13
   replace hn34 := chk_out hn34
   refine p_add rfl rfl rfl hn34 (s_as rfl rfl (Reg.nil ?_))
   obtain rfl := Option.some.inj h13
   refine ⟨rfl, n34, ⟨⟨hI32, hI32.adv, hn34.2⟩, rfl⟩, sb3 rfl rfl rfl⟩
  replace h13 := cdF hc15 h13
  refine cw_exit (exB_same ?_)
  obtain rfl := Option.some.inj h13
  obtain rfl := hR14 _ rfl
  refine ⟨rfl, (), ⟨hI10, hI10.adv, rfl⟩, Sub.nil _⟩
 rintro _ w4 ⟨hI5, hA6, rfl⟩
 replace h := elimL h
 refine cw_seq (cw_regF (s_as rfl rfl (Reg.nil (cw_ret ?_))))
 obtain rfl := Option.some.inj h
 refine fin1 Tryd.results66 rfl ?_
 exact ⟨rfl, hI5.kp⟩
noncomputable def P.ref03_SameTold (a : Told) (b : Told) : Option Bool :=
  Option.bind (cond (decide (a.known = b.known)) (cond (decide (a.cents = b.cents)) (cond (decide (a.since = b.since)) (Option.bind (P.ref03_SameInts a.by_ b.by_) fun z16 => some z16) (some false)) (some false)) (some false)) fun x21 => some x21
theorem C_ref03_SameTold {M : List Nat} {w : World} (hM : MLt M w) {a : Told} {v_a_3 : Value} (f_a_0 : InK .u8 a.known) (f_a_1 : InK .i64 a.cents) (f_a_2 : InK .i64 a.since) (f_a_3 : RdS (intE .i64) M w v_a_3 a.by_) {b : Told} {v_b_3 : Value} (f_b_0 : InK .u8 b.known) (f_b_1 : InK .i64 b.cents) (f_b_2 : InK .i64 b.since) (f_b_3 : RdS (intE .i64) M w v_b_3 b.by_) {r0 : Bool} (h : P.ref03_SameTold a b = some r0) :
  Calls Tryd.prog 65 (List.toArray [Value.agg (List.toArray (tV a v_a_3 [])), Value.agg (List.toArray (tV b v_b_3 []))]) w fun e w' => e = .returned (Value.bool r0) ∧ Ext w w' := by
 have hI := Hp.start (Mu := []) hM
 refine calls_cw Tryd.func65 rfl Tryd.ntmps65 rfl ?_
 refine cw_seq (cw_regF (y_box hI rfl rfl rfl ?_))
 intro b1 w2 hI3 x4
 have hC6 := hI3.freezeRow 0 rfl
 have hI5 := hI3.erase 0
 refine y_box hI5 rfl rfl rfl ?_
 intro b7 w8 hI9 x10
 have hC12 := hI9.freezeRow 0 rfl
 have hI11 := hI9.erase 0
 refine s_as rfl rfl (Reg.nil ?_)
 obtain ⟨j13, h14, h⟩ := bnd h
 refine cw_keep [2, 3] rfl (cw_seqD 2 (ι := Bool) (fun x15 => [(4, Value.bool x15)]) (fun x15 => fun w16 => Hp w [] M [] w16 ∧ Adv (mm [] M) (mm [] M) w8 w16 ∧ x15 = j13) ?_ ?_)
 ·refine cw_regF (s_fa rfl Tryd.underlying38 rfl Tryd.sizeOf5 rfl (s_ld rfl ((hC6.adv (x10.trans (hI9.eraseH 0))).cells.at 0 rfl) Tryd.isAgg5 rfl (s_fa rfl Tryd.underlying38 rfl Tryd.sizeOf5 rfl (s_ld rfl (hC12.cells.at 0 rfl) Tryd.isAgg5 rfl (s_eql rfl rfl rfl (s_mv rfl rfl (Reg.gsplit (t := 10) rfl (fun hg19 => ?_) (fun hg19 => ?_))))))))
  ·replace h14 := cdT hg19 h14
   refine Reg.take rfl rfl (s_fa rfl Tryd.underlying38 rfl Tryd.sizeOf3 rfl (Reg.take rfl rfl (s_ld rfl ((hC6.adv (x10.trans (hI9.eraseH 0))).cells.at 1 rfl) Tryd.isAgg3 rfl (Reg.take rfl rfl (s_fa rfl Tryd.underlying38 rfl Tryd.sizeOf3 rfl (Reg.take rfl rfl (s_ld rfl (hC12.cells.at 1 rfl) Tryd.isAgg3 rfl (Reg.take rfl rfl (s_eql rfl rfl rfl (s_pkT rfl rfl rfl (s_mv rfl rfl ?_)))))))))))
   refine Reg.gsplit (t := 17) rfl (fun hg20 => ?_) (fun hg20 => ?_)
   ·replace h14 := cdT hg20 h14
    refine Reg.take rfl rfl (s_fa rfl Tryd.underlying38 rfl Tryd.sizeOf3 rfl (Reg.take rfl rfl (s_ld rfl ((hC6.adv (x10.trans (hI9.eraseH 0))).cells.at 2 rfl) Tryd.isAgg3 rfl (Reg.take rfl rfl (s_fa rfl Tryd.underlying38 rfl Tryd.sizeOf3 rfl (Reg.take rfl rfl (s_ld rfl (hC12.cells.at 2 rfl) Tryd.isAgg3 rfl (Reg.take rfl rfl (s_eql rfl rfl rfl (s_pkT rfl rfl rfl (s_mv rfl rfl ?_)))))))))))
    refine Reg.gsplit (t := 24) rfl (fun hg21 => ?_) (fun hg21 => ?_)
    ·replace h14 := cdT hg21 h14
     refine Reg.take rfl rfl (s_fa rfl Tryd.underlying38 rfl Tryd.sizeOf36 rfl (Reg.take rfl rfl (s_ld rfl ((hC6.adv (x10.trans (hI9.eraseH 0))).cells.at 3 rfl) Tryd.isAgg36 rfl (Reg.take rfl rfl (s_fa rfl Tryd.underlying38 rfl Tryd.sizeOf36 rfl (Reg.take rfl rfl (s_ld rfl (hC12.cells.at 3 rfl) Tryd.isAgg36 rfl (Reg.take rfl rfl ?_))))))))
     obtain ⟨z22, hz23, h14⟩ := bnd h14
     refine s_call rfl Tryd.call66 rfl ((C_ref03_SameInts hI11.mlt (f_a_3.adv hI11.adv) (f_b_3.adv hI11.adv) hz23).mono ?_)
     rintro _ w24 ⟨rfl, e25⟩
     refine ⟨_, rfl, ?_⟩
     have hI26 := hI11.ext e25
     refine s_pkT rfl rfl rfl (s_as rfl rfl (Reg.nil ?_))
     obtain rfl := Option.some.inj h14
     refine ⟨rfl, z22, ⟨hI26, (Adv.of_ext e25), rfl⟩, sb1 rfl⟩
    replace h14 := cdF hg21 h14
    iterate 5 refine Reg.pass rfl rfl rfl rfl ?_
    refine s_pkF rfl rfl rfl (s_as rfl rfl (Reg.nil ?_))
    obtain rfl := Option.some.inj h14
    refine ⟨rfl, false, ⟨hI11, (Adv.refl _ _), rfl⟩, sb1 rfl⟩
   replace h14 := cdF hg20 h14
   iterate 5 refine Reg.pass rfl rfl rfl rfl ?_
   refine s_pkF rfl rfl rfl (s_mv rfl rfl ?_)
   iterate 5 refine Reg.pass rfl rfl rfl rfl ?_
   refine s_pkF rfl rfl rfl (s_as rfl rfl (Reg.nil ?_))
   obtain rfl := Option.some.inj h14
   refine ⟨rfl, false, ⟨hI11, (Adv.refl _ _), rfl⟩, sb1 rfl⟩
  replace h14 := cdF hg19 h14
  iterate 5 refine Reg.pass rfl rfl rfl rfl ?_
  refine s_pkF rfl rfl rfl (s_mv rfl rfl ?_)
  iterate 5 refine Reg.pass rfl rfl rfl rfl ?_
  refine s_pkF rfl rfl rfl (s_mv rfl rfl ?_)
  iterate 5 refine Reg.pass rfl rfl rfl rfl ?_
  refine s_pkF rfl rfl rfl (s_as rfl rfl (Reg.nil ?_))
  obtain rfl := Option.some.inj h14
  refine ⟨rfl, false, ⟨hI11, (Adv.refl _ _), rfl⟩, sb1 rfl⟩
 rintro x15 w16 ⟨hI17, hA18, rfl⟩
 refine cw_ret ?_
 obtain rfl := Option.some.inj h
 refine fin1 Tryd.results65 rfl ?_
 exact ⟨rfl, hI17.kp⟩
noncomputable def P.ref03_SameState (a : State) (b : State) : Option Bool :=
  Option.bind (Option.bind (P.ref03_SameTold (Told.mk a.opened.known a.opened.cents a.opened.since a.opened.by_) (Told.mk b.opened.known b.opened.cents b.opened.since b.opened.by_)) fun z13 => cond z13 (Option.bind (P.ref03_SameTold (Told.mk a.limit.known a.limit.cents a.limit.since a.limit.by_) (Told.mk b.limit.known b.limit.cents b.limit.since b.limit.by_)) fun z19 => cond z19 (Option.bind (P.ref03_SameTold (Told.mk a.owed.known a.owed.cents a.owed.since a.owed.by_) (Told.mk b.owed.known b.owed.cents b.owed.since b.owed.by_)) fun z25 => cond z25 (Option.bind (P.ref03_SameTold (Told.mk a.late.known a.late.cents a.late.since a.late.by_) (Told.mk b.late.known b.late.cents b.late.since b.late.by_)) fun z31 => cond z31 (Option.bind (P.ref03_SameTold (Told.mk a.default.known a.default.cents a.default.since a.default.by_) (Told.mk b.default.known b.default.cents b.default.since b.default.by_)) fun z37 => cond z37 (Option.bind (P.ref03_SameTold (Told.mk a.closed.known a.closed.cents a.closed.since a.closed.by_) (Told.mk b.closed.known b.closed.cents b.closed.since b.closed.by_)) fun z43 => cond z43 (cond (decide ((Span.mk a.paid.lo a.paid.hi) = (Span.mk b.paid.lo b.paid.hi))) (some (decide (a.is_ = b.is_))) (some false)) (some false)) (some false)) (some false)) (some false)) (some false)) (some false)) fun x50 => some x50
theorem C_ref03_SameState {M : List Nat} {w : World} (hM : MLt M w) {a : State} {v_a_3 : Value} {v_a_7 : Value} {v_a_11 : Value} {v_a_15 : Value} {v_a_19 : Value} {v_a_23 : Value} (f_a_0 : InK .u8 a.opened.known) (f_a_1 : InK .i64 a.opened.cents) (f_a_2 : InK .i64 a.opened.since) (f_a_3 : RdS (intE .i64) M w v_a_3 a.opened.by_) (f_a_4 : InK .u8 a.limit.known) (f_a_5 : InK .i64 a.limit.cents) (f_a_6 : InK .i64 a.limit.since) (f_a_7 : RdS (intE .i64) M w v_a_7 a.limit.by_) (f_a_8 : InK .u8 a.owed.known) (f_a_9 : InK .i64 a.owed.cents) (f_a_10 : InK .i64 a.owed.since) (f_a_11 : RdS (intE .i64) M w v_a_11 a.owed.by_) (f_a_12 : InK .u8 a.late.known) (f_a_13 : InK .i64 a.late.cents) (f_a_14 : InK .i64 a.late.since) (f_a_15 : RdS (intE .i64) M w v_a_15 a.late.by_) (f_a_16 : InK .u8 a.default.known) (f_a_17 : InK .i64 a.default.cents) (f_a_18 : InK .i64 a.default.since) (f_a_19 : RdS (intE .i64) M w v_a_19 a.default.by_) (f_a_20 : InK .u8 a.closed.known) (f_a_21 : InK .i64 a.closed.cents) (f_a_22 : InK .i64 a.closed.since) (f_a_23 : RdS (intE .i64) M w v_a_23 a.closed.by_) (f_a_24 : InK .i64 a.paid.lo) (f_a_25 : InK .i64 a.paid.hi) (f_a_26 : InK .u8 a.is_) {b : State} {v_b_3 : Value} {v_b_7 : Value} {v_b_11 : Value} {v_b_15 : Value} {v_b_19 : Value} {v_b_23 : Value} (f_b_0 : InK .u8 b.opened.known) (f_b_1 : InK .i64 b.opened.cents) (f_b_2 : InK .i64 b.opened.since) (f_b_3 : RdS (intE .i64) M w v_b_3 b.opened.by_) (f_b_4 : InK .u8 b.limit.known) (f_b_5 : InK .i64 b.limit.cents) (f_b_6 : InK .i64 b.limit.since) (f_b_7 : RdS (intE .i64) M w v_b_7 b.limit.by_) (f_b_8 : InK .u8 b.owed.known) (f_b_9 : InK .i64 b.owed.cents) (f_b_10 : InK .i64 b.owed.since) (f_b_11 : RdS (intE .i64) M w v_b_11 b.owed.by_) (f_b_12 : InK .u8 b.late.known) (f_b_13 : InK .i64 b.late.cents) (f_b_14 : InK .i64 b.late.since) (f_b_15 : RdS (intE .i64) M w v_b_15 b.late.by_) (f_b_16 : InK .u8 b.default.known) (f_b_17 : InK .i64 b.default.cents) (f_b_18 : InK .i64 b.default.since) (f_b_19 : RdS (intE .i64) M w v_b_19 b.default.by_) (f_b_20 : InK .u8 b.closed.known) (f_b_21 : InK .i64 b.closed.cents) (f_b_22 : InK .i64 b.closed.since) (f_b_23 : RdS (intE .i64) M w v_b_23 b.closed.by_) (f_b_24 : InK .i64 b.paid.lo) (f_b_25 : InK .i64 b.paid.hi) (f_b_26 : InK .u8 b.is_) {r0 : Bool} (h : P.ref03_SameState a b = some r0) :
  Calls Tryd.prog 24 (List.toArray [Value.agg (List.toArray [vu a.opened.known, vi a.opened.cents, vi a.opened.since, v_a_3, vu a.limit.known, vi a.limit.cents, vi a.limit.since, v_a_7, vu a.owed.known, vi a.owed.cents, vi a.owed.since, v_a_11, vu a.late.known, vi a.late.cents, vi a.late.since, v_a_15, vu a.default.known, vi a.default.cents, vi a.default.since, v_a_19, vu a.closed.known, vi a.closed.cents, vi a.closed.since, v_a_23, vi a.paid.lo, vi a.paid.hi, vu a.is_]), Value.agg (List.toArray [vu b.opened.known, vi b.opened.cents, vi b.opened.since, v_b_3, vu b.limit.known, vi b.limit.cents, vi b.limit.since, v_b_7, vu b.owed.known, vi b.owed.cents, vi b.owed.since, v_b_11, vu b.late.known, vi b.late.cents, vi b.late.since, v_b_15, vu b.default.known, vi b.default.cents, vi b.default.since, v_b_19, vu b.closed.known, vi b.closed.cents, vi b.closed.since, v_b_23, vi b.paid.lo, vi b.paid.hi, vu b.is_])]) w fun e w' => e = .returned (Value.bool r0) ∧ Ext w w' := by
 have hI := Hp.start (Mu := []) hM
 refine calls_cw Tryd.func24 rfl Tryd.ntmps24 rfl ?_
 refine cw_seq (cw_regF (y_box hI rfl rfl rfl ?_))
 intro b1 w2 hI3 x4
 have hC6 := hI3.freezeRow 0 rfl
 have hI5 := hI3.erase 0
 refine y_box hI5 rfl rfl rfl ?_
 intro b7 w8 hI9 x10
 have hC12 := hI9.freezeRow 0 rfl
 have hI11 := hI9.erase 0
 refine s_as rfl rfl (Reg.nil ?_)
 obtain ⟨j13, h14, h⟩ := bnd h
 refine cw_keep [2, 3] rfl (cw_seqD 2 (ι := Bool) (fun x15 => [(4, Value.bool x15)]) (fun x15 => fun w16 => Hp w [] M [] w16 ∧ Adv (mm [] M) (mm [] M) w8 w16 ∧ x15 = j13) ?_ ?_)
 ·refine cw_regF (s_fa rfl Tryd.underlying42 rfl Tryd.sizeOf38 rfl (s_lda rfl (Cells.sub (hC6.adv (x10.trans (hI9.eraseH 0))).cells 0 4) Tryd.isAgg38 rfl Tryd.sizeOf38 rfl (s_fa rfl Tryd.underlying42 rfl Tryd.sizeOf38 rfl (s_lda rfl (Cells.sub hC12.cells 0 4) Tryd.isAgg38 rfl Tryd.sizeOf38 rfl ?_))))
  obtain ⟨z19, hz20, h14⟩ := bnd h14
  refine s_call rfl Tryd.call65 rfl ((C_ref03_SameTold (a := (Told.mk a.opened.known a.opened.cents a.opened.since a.opened.by_)) (b := (Told.mk b.opened.known b.opened.cents b.opened.since b.opened.by_)) hI11.mlt f_a_0 f_a_1 f_a_2 (f_a_3.adv hI11.adv) f_b_0 f_b_1 f_b_2 (f_b_3.adv hI11.adv) hz20).mono ?_)
  rintro _ w21 ⟨rfl, e22⟩
  refine ⟨_, rfl, ?_⟩
  have hI23 := hI11.ext e22
  refine s_mv rfl rfl (Reg.gsplit (t := 10) rfl (fun hg24 => ?_) (fun hg24 => ?_))
  ·replace h14 := cdT hg24 h14
   refine Reg.take rfl rfl (s_fa rfl Tryd.underlying42 rfl Tryd.sizeOf38 rfl (Reg.take rfl rfl (s_lda rfl (Cells.sub (hC6.adv (x10.trans ((hI9.eraseH 0).trans (Adv.of_ext e22)))).cells 4 4) Tryd.isAgg38 rfl Tryd.sizeOf38 rfl (Reg.take rfl rfl (s_fa rfl Tryd.underlying42 rfl Tryd.sizeOf38 rfl (Reg.take rfl rfl (s_lda rfl (Cells.sub (hC12.adv (Adv.of_ext e22)).cells 4 4) Tryd.isAgg38 rfl Tryd.sizeOf38 rfl (Reg.take rfl rfl ?_))))))))
   obtain ⟨z25, hz26, h14⟩ := bnd h14
   refine s_call rfl Tryd.call65 rfl ((C_ref03_SameTold (a := (Told.mk a.limit.known a.limit.cents a.limit.since a.limit.by_)) (b := (Told.mk b.limit.known b.limit.cents b.limit.since b.limit.by_)) hI23.mlt f_a_4 f_a_5 f_a_6 (f_a_7.adv hI23.adv) f_b_4 f_b_5 f_b_6 (f_b_7.adv hI23.adv) hz26).mono ?_)
   rintro _ w27 ⟨rfl, e28⟩
   refine ⟨_, rfl, ?_⟩
   have hI29 := hI23.ext e28
   refine s_pkT rfl rfl rfl (s_mv rfl rfl (Reg.gsplit (t := 17) rfl (fun hg30 => ?_) (fun hg30 => ?_)))
   ·replace h14 := cdT hg30 h14
    refine Reg.take rfl rfl (s_fa rfl Tryd.underlying42 rfl Tryd.sizeOf38 rfl (Reg.take rfl rfl (s_lda rfl (Cells.sub (hC6.adv (x10.trans ((hI9.eraseH 0).trans ((Adv.of_ext e22).trans (Adv.of_ext e28))))).cells 8 4) Tryd.isAgg38 rfl Tryd.sizeOf38 rfl (Reg.take rfl rfl (s_fa rfl Tryd.underlying42 rfl Tryd.sizeOf38 rfl (Reg.take rfl rfl (s_lda rfl (Cells.sub (hC12.adv ((Adv.of_ext e22).trans (Adv.of_ext e28))).cells 8 4) Tryd.isAgg38 rfl Tryd.sizeOf38 rfl (Reg.take rfl rfl ?_))))))))
    obtain ⟨z31, hz32, h14⟩ := bnd h14
    refine s_call rfl Tryd.call65 rfl ((C_ref03_SameTold (a := (Told.mk a.owed.known a.owed.cents a.owed.since a.owed.by_)) (b := (Told.mk b.owed.known b.owed.cents b.owed.since b.owed.by_)) hI29.mlt f_a_8 f_a_9 f_a_10 (f_a_11.adv hI29.adv) f_b_8 f_b_9 f_b_10 (f_b_11.adv hI29.adv) hz32).mono ?_)
    rintro _ w33 ⟨rfl, e34⟩
    refine ⟨_, rfl, ?_⟩
    have hI35 := hI29.ext e34
    refine s_pkT rfl rfl rfl (s_mv rfl rfl (Reg.gsplit (t := 24) rfl (fun hg36 => ?_) (fun hg36 => ?_)))
    ·replace h14 := cdT hg36 h14
     refine Reg.take rfl rfl (s_fa rfl Tryd.underlying42 rfl Tryd.sizeOf38 rfl (Reg.take rfl rfl (s_lda rfl (Cells.sub (hC6.adv (x10.trans ((hI9.eraseH 0).trans ((Adv.of_ext e22).trans ((Adv.of_ext e28).trans (Adv.of_ext e34)))))).cells 12 4) Tryd.isAgg38 rfl Tryd.sizeOf38 rfl (Reg.take rfl rfl (s_fa rfl Tryd.underlying42 rfl Tryd.sizeOf38 rfl (Reg.take rfl rfl (s_lda rfl (Cells.sub (hC12.adv ((Adv.of_ext e22).trans ((Adv.of_ext e28).trans (Adv.of_ext e34)))).cells 12 4) Tryd.isAgg38 rfl Tryd.sizeOf38 rfl (Reg.take rfl rfl ?_))))))))
     obtain ⟨z37, hz38, h14⟩ := bnd h14
     refine s_call rfl Tryd.call65 rfl ((C_ref03_SameTold (a := (Told.mk a.late.known a.late.cents a.late.since a.late.by_)) (b := (Told.mk b.late.known b.late.cents b.late.since b.late.by_)) hI35.mlt f_a_12 f_a_13 f_a_14 (f_a_15.adv hI35.adv) f_b_12 f_b_13 f_b_14 (f_b_15.adv hI35.adv) hz38).mono ?_)
     rintro _ w39 ⟨rfl, e40⟩
     refine ⟨_, rfl, ?_⟩
     have hI41 := hI35.ext e40
     refine s_pkT rfl rfl rfl (s_mv rfl rfl (Reg.gsplit (t := 31) rfl (fun hg42 => ?_) (fun hg42 => ?_)))
     ·replace h14 := cdT hg42 h14
      refine Reg.take rfl rfl (s_fa rfl Tryd.underlying42 rfl Tryd.sizeOf38 rfl (Reg.take rfl rfl (s_lda rfl (Cells.sub (hC6.adv (x10.trans ((hI9.eraseH 0).trans ((Adv.of_ext e22).trans ((Adv.of_ext e28).trans ((Adv.of_ext e34).trans (Adv.of_ext e40))))))).cells 16 4) Tryd.isAgg38 rfl Tryd.sizeOf38 rfl (Reg.take rfl rfl (s_fa rfl Tryd.underlying42 rfl Tryd.sizeOf38 rfl (Reg.take rfl rfl (s_lda rfl (Cells.sub (hC12.adv ((Adv.of_ext e22).trans ((Adv.of_ext e28).trans ((Adv.of_ext e34).trans (Adv.of_ext e40))))).cells 16 4) Tryd.isAgg38 rfl Tryd.sizeOf38 rfl (Reg.take rfl rfl ?_))))))))
      obtain ⟨z43, hz44, h14⟩ := bnd h14
      refine s_call rfl Tryd.call65 rfl ((C_ref03_SameTold (a := (Told.mk a.default.known a.default.cents a.default.since a.default.by_)) (b := (Told.mk b.default.known b.default.cents b.default.since b.default.by_)) hI41.mlt f_a_16 f_a_17 f_a_18 (f_a_19.adv hI41.adv) f_b_16 f_b_17 f_b_18 (f_b_19.adv hI41.adv) hz44).mono ?_)
      rintro _ w45 ⟨rfl, e46⟩
      refine ⟨_, rfl, ?_⟩
      have hI47 := hI41.ext e46
      refine s_pkT rfl rfl rfl (s_mv rfl rfl (Reg.gsplit (t := 38) rfl (fun hg48 => ?_) (fun hg48 => ?_)))
      ·replace h14 := cdT hg48 h14
       refine Reg.take rfl rfl (s_fa rfl Tryd.underlying42 rfl Tryd.sizeOf38 rfl (Reg.take rfl rfl (s_lda rfl (Cells.sub (hC6.adv (x10.trans ((hI9.eraseH 0).trans ((Adv.of_ext e22).trans ((Adv.of_ext e28).trans ((Adv.of_ext e34).trans ((Adv.of_ext e40).trans (Adv.of_ext e46)))))))).cells 20 4) Tryd.isAgg38 rfl Tryd.sizeOf38 rfl (Reg.take rfl rfl (s_fa rfl Tryd.underlying42 rfl Tryd.sizeOf38 rfl (Reg.take rfl rfl (s_lda rfl (Cells.sub (hC12.adv ((Adv.of_ext e22).trans ((Adv.of_ext e28).trans ((Adv.of_ext e34).trans ((Adv.of_ext e40).trans (Adv.of_ext e46)))))).cells 20 4) Tryd.isAgg38 rfl Tryd.sizeOf38 rfl (Reg.take rfl rfl ?_))))))))
       obtain ⟨z49, hz50, h14⟩ := bnd h14
       refine s_call rfl Tryd.call65 rfl ((C_ref03_SameTold (a := (Told.mk a.closed.known a.closed.cents a.closed.since a.closed.by_)) (b := (Told.mk b.closed.known b.closed.cents b.closed.since b.closed.by_)) hI47.mlt f_a_20 f_a_21 f_a_22 (f_a_23.adv hI47.adv) f_b_20 f_b_21 f_b_22 (f_b_23.adv hI47.adv) hz50).mono ?_)
       rintro _ w51 ⟨rfl, e52⟩
       refine ⟨_, rfl, ?_⟩
       have hI53 := hI47.ext e52
       refine s_pkT rfl rfl rfl (s_mv rfl rfl (Reg.gsplit (t := 45) rfl (fun hg54 => ?_) (fun hg54 => ?_)))
       ·replace h14 := cdT hg54 h14
        refine Reg.take rfl rfl (s_fa rfl Tryd.underlying42 rfl Tryd.sizeOf40 rfl (Reg.take rfl rfl (s_lda rfl (Cells.sub (hC6.adv (x10.trans ((hI9.eraseH 0).trans ((Adv.of_ext e22).trans ((Adv.of_ext e28).trans ((Adv.of_ext e34).trans ((Adv.of_ext e40).trans ((Adv.of_ext e46).trans (Adv.of_ext e52))))))))).cells 24 2) Tryd.isAgg40 rfl Tryd.sizeOf40 rfl (Reg.take rfl rfl (s_fa rfl Tryd.underlying42 rfl Tryd.sizeOf40 rfl (Reg.take rfl rfl (s_lda rfl (Cells.sub (hC12.adv ((Adv.of_ext e22).trans ((Adv.of_ext e28).trans ((Adv.of_ext e34).trans ((Adv.of_ext e40).trans ((Adv.of_ext e46).trans (Adv.of_ext e52))))))).cells 24 2) Tryd.isAgg40 rfl Tryd.sizeOf40 rfl (Reg.take rfl rfl (s_eqS (Span_eq (Span.mk a.paid.lo a.paid.hi) (Span.mk b.paid.lo b.paid.hi)) Tryd.eqGuardType40 rfl rfl rfl ?_)))))))))
        refine s_pkT rfl rfl rfl (s_mv rfl rfl (Reg.gsplit (t := 52) rfl (fun hg55 => ?_) (fun hg55 => ?_)))
        ·replace h14 := cdT hg55 h14
         refine Reg.take rfl rfl (s_fa rfl Tryd.underlying42 rfl Tryd.sizeOf5 rfl (Reg.take rfl rfl (s_ld rfl ((hC6.adv (x10.trans ((hI9.eraseH 0).trans ((Adv.of_ext e22).trans ((Adv.of_ext e28).trans ((Adv.of_ext e34).trans ((Adv.of_ext e40).trans ((Adv.of_ext e46).trans (Adv.of_ext e52))))))))).cells.at 26 rfl) Tryd.isAgg5 rfl (Reg.take rfl rfl (s_fa rfl Tryd.underlying42 rfl Tryd.sizeOf5 rfl (Reg.take rfl rfl (s_ld rfl ((hC12.adv ((Adv.of_ext e22).trans ((Adv.of_ext e28).trans ((Adv.of_ext e34).trans ((Adv.of_ext e40).trans ((Adv.of_ext e46).trans (Adv.of_ext e52))))))).cells.at 26 rfl) Tryd.isAgg5 rfl (Reg.take rfl rfl (s_eql rfl rfl rfl (s_pkT rfl rfl rfl (s_as rfl rfl ?_)))))))))))
         refine Reg.nil ?_
         obtain rfl := Option.some.inj h14
         refine ⟨rfl, decide (a.is_ = b.is_), ⟨hI53, ((Adv.of_ext e22).trans ((Adv.of_ext e28).trans ((Adv.of_ext e34).trans ((Adv.of_ext e40).trans ((Adv.of_ext e46).trans (Adv.of_ext e52)))))), rfl⟩, sb1 rfl⟩
        replace h14 := cdF hg55 h14
        iterate 5 refine Reg.pass rfl rfl rfl rfl ?_
        refine s_pkF rfl rfl rfl (s_as rfl rfl (Reg.nil ?_))
        obtain rfl := Option.some.inj h14
        refine ⟨rfl, false, ⟨hI53, ((Adv.of_ext e22).trans ((Adv.of_ext e28).trans ((Adv.of_ext e34).trans ((Adv.of_ext e40).trans ((Adv.of_ext e46).trans (Adv.of_ext e52)))))), rfl⟩, sb1 rfl⟩
       replace h14 := cdF hg54 h14
       iterate 5 refine Reg.pass rfl rfl rfl rfl ?_
       refine s_pkF rfl rfl rfl (s_mv rfl rfl ?_)
       iterate 5 refine Reg.pass rfl rfl rfl rfl ?_
       refine s_pkF rfl rfl rfl (s_as rfl rfl (Reg.nil ?_))
       obtain rfl := Option.some.inj h14
       refine ⟨rfl, false, ⟨hI53, ((Adv.of_ext e22).trans ((Adv.of_ext e28).trans ((Adv.of_ext e34).trans ((Adv.of_ext e40).trans ((Adv.of_ext e46).trans (Adv.of_ext e52)))))), rfl⟩, sb1 rfl⟩
      replace h14 := cdF hg48 h14
      iterate 5 refine Reg.pass rfl rfl rfl rfl ?_
      refine s_pkF rfl rfl rfl (s_mv rfl rfl ?_)
      iterate 5 refine Reg.pass rfl rfl rfl rfl ?_
      refine s_pkF rfl rfl rfl (s_mv rfl rfl ?_)
      iterate 5 refine Reg.pass rfl rfl rfl rfl ?_
      refine s_pkF rfl rfl rfl (s_as rfl rfl (Reg.nil ?_))
      obtain rfl := Option.some.inj h14
      refine ⟨rfl, false, ⟨hI47, ((Adv.of_ext e22).trans ((Adv.of_ext e28).trans ((Adv.of_ext e34).trans ((Adv.of_ext e40).trans (Adv.of_ext e46))))), rfl⟩, sb1 rfl⟩
     replace h14 := cdF hg42 h14
     iterate 5 refine Reg.pass rfl rfl rfl rfl ?_
     refine s_pkF rfl rfl rfl (s_mv rfl rfl ?_)
     iterate 5 refine Reg.pass rfl rfl rfl rfl ?_
     refine s_pkF rfl rfl rfl (s_mv rfl rfl ?_)
     iterate 5 refine Reg.pass rfl rfl rfl rfl ?_
     refine s_pkF rfl rfl rfl (s_mv rfl rfl ?_)
     iterate 5 refine Reg.pass rfl rfl rfl rfl ?_
     refine s_pkF rfl rfl rfl (s_as rfl rfl (Reg.nil ?_))
     obtain rfl := Option.some.inj h14
     refine ⟨rfl, false, ⟨hI41, ((Adv.of_ext e22).trans ((Adv.of_ext e28).trans ((Adv.of_ext e34).trans (Adv.of_ext e40)))), rfl⟩, sb1 rfl⟩
    replace h14 := cdF hg36 h14
    iterate 5 refine Reg.pass rfl rfl rfl rfl ?_
    refine s_pkF rfl rfl rfl (s_mv rfl rfl ?_)
    iterate 5 refine Reg.pass rfl rfl rfl rfl ?_
    refine s_pkF rfl rfl rfl (s_mv rfl rfl ?_)
    iterate 5 refine Reg.pass rfl rfl rfl rfl ?_
    refine s_pkF rfl rfl rfl (s_mv rfl rfl ?_)
    iterate 5 refine Reg.pass rfl rfl rfl rfl ?_
    refine s_pkF rfl rfl rfl (s_mv rfl rfl ?_)
    iterate 5 refine Reg.pass rfl rfl rfl rfl ?_
    refine s_pkF rfl rfl rfl (s_as rfl rfl (Reg.nil ?_))
    obtain rfl := Option.some.inj h14
    refine ⟨rfl, false, ⟨hI35, ((Adv.of_ext e22).trans ((Adv.of_ext e28).trans (Adv.of_ext e34))), rfl⟩, sb1 rfl⟩
   replace h14 := cdF hg30 h14
   iterate 5 refine Reg.pass rfl rfl rfl rfl ?_
   refine s_pkF rfl rfl rfl (s_mv rfl rfl ?_)
   iterate 5 refine Reg.pass rfl rfl rfl rfl ?_
   refine s_pkF rfl rfl rfl (s_mv rfl rfl ?_)
   iterate 5 refine Reg.pass rfl rfl rfl rfl ?_
   refine s_pkF rfl rfl rfl (s_mv rfl rfl ?_)
   iterate 5 refine Reg.pass rfl rfl rfl rfl ?_
   refine s_pkF rfl rfl rfl (s_mv rfl rfl ?_)
   iterate 5 refine Reg.pass rfl rfl rfl rfl ?_
   refine s_pkF rfl rfl rfl (s_mv rfl rfl ?_)
   iterate 5 refine Reg.pass rfl rfl rfl rfl ?_
   refine s_pkF rfl rfl rfl (s_as rfl rfl (Reg.nil ?_))
   obtain rfl := Option.some.inj h14
   refine ⟨rfl, false, ⟨hI29, ((Adv.of_ext e22).trans (Adv.of_ext e28)), rfl⟩, sb1 rfl⟩
  replace h14 := cdF hg24 h14
  iterate 5 refine Reg.pass rfl rfl rfl rfl ?_
  refine s_pkF rfl rfl rfl (s_mv rfl rfl ?_)
  iterate 5 refine Reg.pass rfl rfl rfl rfl ?_
  refine s_pkF rfl rfl rfl (s_mv rfl rfl ?_)
  iterate 5 refine Reg.pass rfl rfl rfl rfl ?_
  refine s_pkF rfl rfl rfl (s_mv rfl rfl ?_)
  iterate 5 refine Reg.pass rfl rfl rfl rfl ?_
  refine s_pkF rfl rfl rfl (s_mv rfl rfl ?_)
  iterate 5 refine Reg.pass rfl rfl rfl rfl ?_
  refine s_pkF rfl rfl rfl (s_mv rfl rfl ?_)
  iterate 5 refine Reg.pass rfl rfl rfl rfl ?_
  refine s_pkF rfl rfl rfl (s_mv rfl rfl ?_)
  iterate 5 refine Reg.pass rfl rfl rfl rfl ?_
  refine s_pkF rfl rfl rfl (s_as rfl rfl (Reg.nil ?_))
  obtain rfl := Option.some.inj h14
  refine ⟨rfl, false, ⟨hI23, (Adv.of_ext e22), rfl⟩, sb1 rfl⟩
 rintro x15 w16 ⟨hI17, hA18, rfl⟩
 refine cw_ret ?_
 obtain rfl := Option.some.inj h
 refine fin1 Tryd.results24 rfl ?_
 exact ⟨rfl, hI17.kp⟩
noncomputable def P.ref03_SameClashes (a : (List Clash)) (b : (List Clash)) : Option Bool :=
  cond (!decide ((a.length : Int) = (b.length : Int))) (some false) (Option.bind (loopM (S := Int) (R := (Unit) ⊕ (Bool)) (fun x2 => cond (decide (x2 < (a.length : Int))) (Option.bind (Option.bind (ixo a x2) fun y4 => Option.bind (ixo b x2) fun y14 => cond (!decide (y4.kind = y14.kind)) (some true) (Option.bind (ixo a x2) fun y28 => Option.bind (ixo b x2) fun y38 => cond (!decide (y28.about = y38.about)) (some true) (Option.bind (ixo a x2) fun y52 => Option.bind (ixo b x2) fun y62 => Option.bind (P.ref03_SameInts y52.by_ y62.by_) fun z72 => some (!z72)))) fun x79 => cond x79 (some (.inr (.inr false))) (Option.bind (chk .i64 (x2 + 1)) fun n81 => some (.inl n81))) (some (.inr (.inl ())))) 0) fun j82 => Sum.elim (fun _ => some true) (fun r83 => some r83)  j82)
theorem C_ref03_SameClashes {M : List Nat} {w : World} (hM : MLt M w) {a : (List Clash)} {v_a_0 : Value} (f_a_0 : RdS ClashE M w v_a_0 a) {b : (List Clash)} {v_b_0 : Value} (f_b_0 : RdS ClashE M w v_b_0 b) {r0 : Bool} (h : P.ref03_SameClashes a b = some r0) :
  Calls Tryd.prog 25 (List.toArray [v_a_0, v_b_0]) w fun e w' => e = .returned (Value.bool r0) ∧ Ext w w' := by
 have hI := Hp.start (Mu := []) hM
 refine calls_cw Tryd.func25 rfl Tryd.ntmps25 rfl ?_
 refine cw_seq (cw_regF (s_as rfl rfl (Reg.nil (cw_seq (cw_seq (cw_regF (s_mv rfl rfl (s_len rfl f_a_0 Tryd.underlying47 rfl (s_mv rfl rfl (s_len rfl f_b_0 Tryd.underlying47 rfl (s_neq rfl rfl rfl ?_)))))))))))
 refine Reg.nil (cw_cond rfl (fun hc1 => ?_) (fun hc1 => ?_))
 ·replace h := cdT hc1 h
  refine cw_seq (cw_regF (s_as rfl rfl (Reg.nil (cw_ret ?_))))
  obtain rfl := Option.some.inj h
  refine fin1 Tryd.results25 rfl ?_
  exact ⟨rfl, hI.kp⟩
 replace h := cdF hc1 h
 refine cw_skip (cw_seq (cw_seq (cw_regF (s_as rfl rfl (Reg.nil ?_)))))
 obtain ⟨j2, h3, h⟩ := bnd h
 refine cw_keep [0, 1, 5] rfl (cw_unitD 3 (ι := Unit) (fun _ => []) (fun _ => fun w4 => Hp w [] M [] w4 ∧ Adv (mm [] M) (mm [] M) w w4 ∧ (.inl ()) = j2) ?_ ?_)
 ·refine cw_block (cw_keep [5, 0, 1] rfl ?_)
  refine cw_loopM 1 (ι := Int) _ (fun x7 => [(5, vi x7)]) (fun x7 => x7) (fun x7 => fun w9 => Hp w [] M [] w9 ∧ Adv (mm [] M) (mm [] M) w w9 ∧ InK .i64 x7) 0 h3 ⟨hI, (Adv.refl _ _), (by decide)⟩ (sb3 rfl rfl rfl) ?_
  rintro x7 w9 ⟨hI10, hA11, r8⟩ y12 h13 hR14
  refine cw_seq (cw_seq (cw_regF (s_mv rfl rfl (s_mv rfl rfl (s_len rfl (f_a_0.adv hI10.adv) Tryd.underlying47 rfl (s_lss rfl rfl rfl (Reg.nil (cw_cond rfl (fun hc15 => ?_) (fun hc15 => ?_)))))))))
  ·replace h13 := cdT hc15 h13
   refine cw_skip (cw_seq (cw_block ?_))
   obtain ⟨j16, h17, h13⟩ := bnd h13
   refine cw_keep [0, 1, 5] rfl (cw_seqD 0 (ι := Bool) (fun x18 => [(54, Value.bool x18)]) (fun x18 => fun w19 => Hp w [] M [] w19 ∧ Adv (mm [] M) (mm [] M) w9 w19 ∧ x18 = j16) ?_ ?_)
   ·refine cw_regT fol (by kernel_rfl) ?_
    refine s_mv rfl rfl (s_mv rfl rfl ?_)
    obtain ⟨y22, hy22, h17⟩ := bnd h17
    refine p_ia rfl rfl (f_a_0.adv hI10.adv) hy22 Tryd.underlying47 Tryd.sizeOf55 rfl ?_
    intro b23 o24 cs25 hR26 hC27
    obtain ⟨v30, rfl, r28, r29, hf31⟩ := ClashE_R.1 hR26
    refine s_fa rfl Tryd.underlying55 rfl Tryd.sizeOf5 rfl (s_ld rfl (hC27.cells.at 0 rfl) Tryd.isAgg5 rfl (s_mv rfl rfl (s_mv rfl rfl ?_)))
    obtain ⟨y32, hy32, h17⟩ := bnd h17
    refine p_ia rfl rfl (f_b_0.adv hI10.adv) hy32 Tryd.underlying47 Tryd.sizeOf55 rfl ?_
    intro b33 o34 cs35 hR36 hC37
    obtain ⟨v40, rfl, r38, r39, hf41⟩ := ClashE_R.1 hR36
    refine s_fa rfl Tryd.underlying55 rfl Tryd.sizeOf5 rfl (s_ld rfl (hC37.cells.at 0 rfl) Tryd.isAgg5 rfl (s_neq rfl rfl rfl (s_mv rfl rfl (Reg.gsplit (t := 28) rfl (fun hg42 => ?_) (fun hg42 => ?_)))))
    ·replace h17 := cdT hg42 h17
     iterate 11 refine Reg.pass rfl rfl rfl rfl ?_
     refine s_pkT rfl rfl rfl (s_mv rfl rfl ?_)
     iterate 12 refine Reg.pass rfl rfl rfl rfl ?_
     refine s_pkT rfl rfl rfl (Reg.nilq (fun w43 e44 => ?_))
     have hI45 := hI10.ext e44
     obtain rfl := Option.some.inj h17
     refine ⟨rfl, true, ⟨hI45, (Adv.of_ext e44), rfl⟩, sb4 rfl rfl rfl rfl⟩
    replace h17 := cdF hg42 h17
    refine Reg.take rfl rfl (s_mv rfl rfl (Reg.take rfl rfl (s_mv rfl rfl (Reg.take rfl rfl ?_))))
    obtain ⟨y46, hy46, h17⟩ := bnd h17
    refine p_ia rfl rfl (f_a_0.adv hI10.adv) hy46 Tryd.underlying47 Tryd.sizeOf55 rfl ?_
    intro b47 o48 cs49 hR50 hC51
    obtain ⟨v54, rfl, r52, r53, hf55⟩ := ClashE_R.1 hR50
    refine Reg.take rfl rfl (s_fa rfl Tryd.underlying55 rfl Tryd.sizeOf3 rfl (Reg.take rfl rfl (s_ld rfl (hC51.cells.at 1 rfl) Tryd.isAgg3 rfl (Reg.take rfl rfl (s_mv rfl rfl (Reg.take rfl rfl (s_mv rfl rfl (Reg.take rfl rfl ?_))))))))
    obtain ⟨y56, hy56, h17⟩ := bnd h17
    refine p_ia rfl rfl (f_b_0.adv hI10.adv) hy56 Tryd.underlying47 Tryd.sizeOf55 rfl ?_
    intro b57 o58 cs59 hR60 hC61
    obtain ⟨v64, rfl, r62, r63, hf65⟩ := ClashE_R.1 hR60
    refine Reg.take rfl rfl (s_fa rfl Tryd.underlying55 rfl Tryd.sizeOf3 rfl (Reg.take rfl rfl (s_ld rfl (hC61.cells.at 1 rfl) Tryd.isAgg3 rfl (Reg.take rfl rfl (s_neq rfl rfl rfl (s_pkF rfl rfl rfl (s_mv rfl rfl (Reg.gsplit (t := 41) rfl (fun hg66 => ?_) (fun hg66 => ?_)))))))))
    ·replace h17 := cdT hg66 h17
     iterate 12 refine Reg.pass rfl rfl rfl rfl ?_
     refine s_pkT rfl rfl rfl (Reg.nilq (fun w67 e68 => ?_))
     have hI69 := hI10.ext e68
     obtain rfl := Option.some.inj h17
     refine ⟨rfl, true, ⟨hI69, (Adv.of_ext e68), rfl⟩, sb4 rfl rfl rfl rfl⟩
    replace h17 := cdF hg66 h17
    refine Reg.take rfl rfl (s_mv rfl rfl (Reg.take rfl rfl (s_mv rfl rfl (Reg.take rfl rfl ?_))))
    obtain ⟨y70, hy70, h17⟩ := bnd h17
    refine p_ia rfl rfl (f_a_0.adv hI10.adv) hy70 Tryd.underlying47 Tryd.sizeOf55 rfl ?_
    intro b71 o72 cs73 hR74 hC75
    obtain ⟨v78, rfl, r76, r77, hf79⟩ := ClashE_R.1 hR74
    refine Reg.take rfl rfl (s_fa rfl Tryd.underlying55 rfl Tryd.sizeOf36 rfl (Reg.take rfl rfl (s_ld rfl (hC75.cells.at 2 rfl) Tryd.isAgg36 rfl (Reg.take rfl rfl (s_mv rfl rfl (Reg.take rfl rfl (s_mv rfl rfl (Reg.take rfl rfl ?_))))))))
    obtain ⟨y80, hy80, h17⟩ := bnd h17
    refine p_ia rfl rfl (f_b_0.adv hI10.adv) hy80 Tryd.underlying47 Tryd.sizeOf55 rfl ?_
    intro b81 o82 cs83 hR84 hC85
    obtain ⟨v88, rfl, r86, r87, hf89⟩ := ClashE_R.1 hR84
    refine Reg.take rfl rfl (s_fa rfl Tryd.underlying55 rfl Tryd.sizeOf36 rfl (Reg.take rfl rfl (s_ld rfl (hC85.cells.at 2 rfl) Tryd.isAgg36 rfl (Reg.take rfl rfl ?_))))
    obtain ⟨z90, hz91, h17⟩ := bnd h17
    refine s_callq rfl rfl Tryd.call66 rfl (fun w92 e93 => (C_ref03_SameInts (hI10.mlt.ext e93) (hf79.adv (Adv.of_ext e93)) (hf89.adv (Adv.of_ext e93)) hz91).mono (fun _ _ hq => ⟨hq.1, hq.2⟩)) ?_
    refine Reg.take rfl rfl (s_not rfl rfl (s_pkF rfl rfl rfl (Reg.nilq (fun w94 e95 => ?_))))
    have hI96 := hI10.ext e95
    obtain rfl := Option.some.inj h17
    refine ⟨rfl, !z90, ⟨hI96, (Adv.of_ext e95), rfl⟩, sb4 rfl rfl rfl rfl⟩
   rintro x18 w19 ⟨hI20, hA21, rfl⟩
   refine cw_cond rfl (fun hc97 => ?_) (fun hc97 => ?_)
   ·replace h13 := cdT hc97 h13
    refine cw_seq (cw_regF (s_as rfl rfl (Reg.nil (cw_ret ?_))))
    obtain rfl := Option.some.inj h13
    obtain rfl := hR14 _ rfl
    replace h := elimR h
    obtain rfl := Option.some.inj h
    refine fin1 Tryd.results25 rfl ?_
    exact ⟨rfl, hI20.kp⟩
   replace h13 := cdF hc97 h13
   refine cw_skip (cw_regF (s_mv rfl rfl ?_))
   obtain ⟨n98, hn98, h13⟩ := bnd h13
   replace hn98 := chk_out hn98
   refine p_add rfl rfl rfl hn98 (s_as rfl rfl (Reg.nil ?_))
   obtain rfl := Option.some.inj h13
   refine ⟨rfl, n98, ⟨⟨hI20, hI20.adv, hn98.2⟩, rfl⟩, sb3 rfl rfl rfl⟩
  replace h13 := cdF hc15 h13
  refine cw_exit (exB_same ?_)
  obtain rfl := Option.some.inj h13
  obtain rfl := hR14 _ rfl
  refine ⟨rfl, (), ⟨hI10, hI10.adv, rfl⟩, Sub.nil _⟩
 rintro _ w4 ⟨hI5, hA6, rfl⟩
 replace h := elimL h
 refine cw_seq (cw_regF (s_as rfl rfl (Reg.nil (cw_ret ?_))))
 obtain rfl := Option.some.inj h
 refine fin1 Tryd.results25 rfl ?_
 exact ⟨rfl, hI5.kp⟩
noncomputable def P.ref03_Of (l : (List Report)) (account : Int) (day : Int) : Option (List Report) :=
  Option.bind (loopM (S := (List Report) × Int) (R := ((List Report))) (fun (x1, x2) => cond (decide (x2 < (l.length : Int))) (Option.bind (Option.bind (Option.bind (ixo l x2) fun y4 => cond (decide (y4.account = account)) (Option.bind (ixo l x2) fun y19 => some (decide (y19.about ≤ day))) (some false)) fun x33 => Option.bind (cond x33 (Option.bind (ixo l x2) fun y35 => Option.bind (appo 64 x1 ([y35] : List Report)) fun l55 => some l55) (some x1)) fun x60 => some x60) fun x61 => Option.bind (chk .i64 (x2 + 1)) fun n62 => some (.inl (x61, n62))) (some (.inr x1))) ([], 0)) fun x63 => some x63
theorem C_ref03_Of {M : List Nat} {w : World} (hM : MLt M w) {l : (List Report)} {v_l_0 : Value} (f_l_0 : RdS ReportE M w v_l_0 l) {account : Int} (f_account_0 : InK .i64 account) {day : Int} (f_day_0 : InK .i64 day) {r0 : (List Report)} (h : P.ref03_Of l account day = some r0) :
  Calls Tryd.prog 56 (List.toArray [v_l_0, vi account, vi day]) w fun e w' => ∃ v0_0 : Value, e = .returned (v0_0) ∧ (Own ReportE 61 0 M w' v0_0 r0 ∧ ∀ b ∈ ob v0_0, w.heap.size ≤ b) ∧ Ext w w' := by
 have hI := Hp.start (Mu := []) hM
 refine calls_cw Tryd.func56 rfl Tryd.ntmps56 rfl ?_
 refine cw_seq (cw_regF (s_as rfl rfl (Reg.nil (cw_seq (cw_regF (s_as rfl rfl (Reg.nil (cw_seq (cw_seq (cw_regF (s_as rfl rfl ?_)))))))))))
 refine Reg.nil ?_
 obtain ⟨j1, h2, h⟩ := bnd h
 refine cw_keep [0, 1, 2, 7, 8] rfl (cw_unitD 5 (ι := (List Report) × Value) (fun ⟨x3, v4⟩ => [(7, v4)]) (fun ⟨x3, v4⟩ => fun w5 => Hp w [] M [ownR [] ReportE 61 v4 x3] w5 ∧ Adv (mm [] M) (mm [ownR [] ReportE 61 v4 x3] M) w w5 ∧ x3 = j1) ?_ ?_)
 ·refine cw_block (cw_keep [7, 8, 0, 1, 2] rfl ?_)
  have hI15 := hI.addNil ReportE 61
  refine cw_loopM 2 (ι := (List Report) × Int × Value) _ (fun ⟨x8, x10, v9⟩ => [(7, v9), (8, vi x10)]) (fun ⟨x8, x10, v9⟩ => (x8, x10)) (fun ⟨x8, x10, v9⟩ => fun w12 => Hp w [] M [ownR [] ReportE 61 v9 x8] w12 ∧ Adv (mm [] M) (mm [ownR [] ReportE 61 v9 x8] M) w w12 ∧ InK .i64 x10) (([] : List Report), 0, (vn)) h2 ⟨hI15, hI15.adv, (by decide)⟩ (sb5 rfl rfl rfl rfl rfl) ?_
  rintro ⟨x8, x10, v9⟩ w12 ⟨hI13, hA14, r11⟩ y16 h17 hR18
  refine cw_seq (cw_seq (cw_regF (s_mv rfl rfl (s_mv rfl rfl (s_len rfl (f_l_0.adv hI13.adv) Tryd.underlying22 rfl (s_lss rfl rfl rfl (Reg.nil (cw_cond rfl (fun hc19 => ?_) (fun hc19 => ?_)))))))))
  ·replace h17 := cdT hc19 h17
   refine cw_skip ?_
   obtain ⟨j20, h21, h17⟩ := bnd h17
   refine cw_keep [7, 0, 1, 2, 8] rfl (cw_seqD 1 (ι := (List Report) × Value) (fun ⟨x22, v23⟩ => [(7, v23)]) (fun ⟨x22, v23⟩ => fun w24 => Hp w [] M [ownR [] ReportE 61 v23 x22] w24 ∧ Adv (mm [ownR [] ReportE 61 v9 x8] M) (mm [ownR [] ReportE 61 v23 x22] M) w12 w24 ∧ x22 = j20) ?_ ?_)
   ·refine cw_block ?_
    obtain ⟨j27, h28, h21⟩ := bnd h21
    refine cw_keep [0, 1, 2, 7, 8] rfl (cw_seqD 0 (ι := Bool) (fun x29 => [(30, Value.bool x29)]) (fun x29 => fun w30 => w12 = w30 ∧ x29 = j27) ?_ ?_)
    ·refine cw_regF (s_mv rfl rfl (s_mv rfl rfl ?_))
     obtain ⟨y33, hy33, h28⟩ := bnd h28
     refine p_ia rfl rfl (f_l_0.adv hI13.adv) hy33 Tryd.underlying22 Tryd.sizeOf61 rfl ?_
     intro b34 o35 cs36 hR37 hC38
     obtain ⟨rfl, r39, r40, r41, r42, r43, r44, r45, r46⟩ := ReportE_R.1 hR37
     refine s_fa rfl Tryd.underlying61 rfl Tryd.sizeOf3 rfl (s_ld rfl (hC38.cells.at 2 rfl) Tryd.isAgg3 rfl (s_mv rfl rfl (s_eql rfl rfl rfl (s_mv rfl rfl (Reg.gsplit (t := 22) rfl (fun hg47 => ?_) (fun hg47 => ?_))))))
     ·replace h28 := cdT hg47 h28
      refine Reg.take rfl rfl (s_mv rfl rfl (Reg.take rfl rfl (s_mv rfl rfl (Reg.take rfl rfl ?_))))
      obtain ⟨y48, hy48, h28⟩ := bnd h28
      refine p_ia rfl rfl (f_l_0.adv hI13.adv) hy48 Tryd.underlying22 Tryd.sizeOf61 rfl ?_
      intro b49 o50 cs51 hR52 hC53
      obtain ⟨rfl, r54, r55, r56, r57, r58, r59, r60, r61⟩ := ReportE_R.1 hR52
      refine Reg.take rfl rfl (s_fa rfl Tryd.underlying61 rfl Tryd.sizeOf3 rfl (Reg.take rfl rfl (s_ld rfl (hC53.cells.at 4 rfl) Tryd.isAgg3 rfl (Reg.take rfl rfl (s_mv rfl rfl (Reg.take rfl rfl (s_leq rfl rfl rfl (s_pkT rfl rfl rfl (Reg.nil ?_)))))))))
      obtain rfl := Option.some.inj h28
      refine ⟨rfl, decide (y48.about ≤ day), ⟨rfl, rfl⟩, sb6 rfl rfl rfl rfl rfl rfl⟩
     replace h28 := cdF hg47 h28
     iterate 7 refine Reg.pass rfl rfl rfl rfl ?_
     refine s_pkF rfl rfl rfl (Reg.nil ?_)
     obtain rfl := Option.some.inj h28
     refine ⟨rfl, false, ⟨rfl, rfl⟩, sb6 rfl rfl rfl rfl rfl rfl⟩
    rintro x29 _ ⟨rfl, rfl⟩
    obtain ⟨j62, h63, h21⟩ := bnd h21
    refine cw_keep [7, 30, 0, 1, 2, 8] rfl (cw_unitD 2 (ι := (List Report) × Value) (fun ⟨x64, v65⟩ => [(7, v65)]) (fun ⟨x64, v65⟩ => fun w66 => Hp w [] M [ownR [] ReportE 61 v65 x64] w66 ∧ Adv (mm [ownR [] ReportE 61 v9 x8] M) (mm [ownR [] ReportE 61 v65 x64] M) w12 w66 ∧ x64 = j62) ?_ ?_)
    ·refine cw_cond rfl (fun hc69 => ?_) (fun hc69 => ?_)
     ·replace h63 := cdT hc69 h63
      refine cw_regF ?_
      iterate 3 refine s_mv rfl rfl ?_
      obtain ⟨y70, hy70, h63⟩ := bnd h63
      refine p_ia rfl rfl (f_l_0.adv hI13.adv) hy70 Tryd.underlying22 Tryd.sizeOf61 rfl ?_
      intro b71 o72 cs73 hR74 hC75
      obtain ⟨rfl, r76, r77, r78, r79, r80, r81, r82, r83⟩ := ReportE_R.1 hR74
      refine s_lda rfl hC75.cells Tryd.isAgg61 rfl Tryd.sizeOf61 rfl (y_bs (E := ReportE) (xs := [y70]) sl22 hI13 rfl rfl (Cls.cons rfl Cls.nil) (Chs.cons ((ReportE_R (x := y70)).2 ⟨rfl, r76, r77, r78, r79, r80, r81, r82, r83⟩) Chs.nil) rfl rfl ?_)
      intro v84 w85 hI86 x87
      have hf88 := hI86.freeze 0 rfl
      have hI89 := hI86.erase 0
      obtain ⟨l90, hl90, h63⟩ := bnd h63
      obtain ⟨hbl90, el90⟩ := appo_out hl90
      refine y_app 0 sl22 hI89 rfl rfl rfl hf88 hbl90 rfl ?_
      rw [← el90]
      intro v91 w92 hI93 x94
      refine s_as rfl rfl (Reg.nil ?_)
      obtain rfl := Option.some.inj h63
      refine ⟨rfl, (l90, v91), ⟨hI93, (x87.trans ((hI86.eraseH 0).trans x94)), rfl⟩, sb5 rfl rfl rfl rfl rfl⟩
     replace h63 := cdF hc69 h63
     refine cw_skip ?_
     obtain rfl := Option.some.inj h63
     refine ⟨rfl, (x8, v9), ⟨hI13, (Adv.refl _ _), rfl⟩, sb5 rfl rfl rfl rfl rfl⟩
    rintro ⟨x64, v65⟩ w66 ⟨hI67, hA68, rfl⟩
    obtain rfl := Option.some.inj h21
    refine ⟨rfl, (x64, v65), ⟨hI67, hA68, rfl⟩, sb5 rfl rfl rfl rfl rfl⟩
   rintro ⟨x22, v23⟩ w24 ⟨hI25, hA26, rfl⟩
   refine cw_regF (s_mv rfl rfl ?_)
   obtain ⟨n95, hn95, h17⟩ := bnd h17
   replace hn95 := chk_out hn95
   refine p_add rfl rfl rfl hn95 (s_as rfl rfl (Reg.nil ?_))
   obtain rfl := Option.some.inj h17
   refine ⟨rfl, (x22, n95, v23), ⟨⟨hI25, hI25.adv, hn95.2⟩, rfl⟩, sb5 rfl rfl rfl rfl rfl⟩
  replace h17 := cdF hc19 h17
  refine cw_exit (exB_same ?_)
  obtain rfl := Option.some.inj h17
  obtain rfl := hR18 _ rfl
  refine ⟨rfl, (x8, v9), ⟨hI13, hI13.adv, rfl⟩, sb1 rfl⟩
 rintro ⟨x3, v4⟩ w5 ⟨hI6, hA7, rfl⟩
 refine cw_seq (cw_regF (s_mv rfl rfl (s_as rfl rfl (Reg.nil (cw_ret ?_)))))
 obtain rfl := Option.some.inj h
 refine fin1 Tryd.results56 rfl ?_
 exact ⟨_, rfl, (hI6.ownOut 0 rfl), hI6.kp⟩
noncomputable def P.ref03_seen (l : (List Report)) (day : Int) : Option Bool :=
  Option.bind (loopM (S := Int) (R := (Unit) ⊕ (Bool)) (fun x1 => cond (decide (x1 < (l.length : Int))) (Option.bind (Option.bind (ixo l x1) fun y3 => cond (decide (y3.kind = 4)) (Option.bind (ixo l x1) fun y18 => some (decide (y18.about = day))) (some false)) fun x32 => cond x32 (some (.inr (.inr true))) (Option.bind (chk .i64 (x1 + 1)) fun n34 => some (.inl n34))) (some (.inr (.inl ())))) 0) fun j35 => Sum.elim (fun _ => some false) (fun r36 => some r36)  j35
theorem C_ref03_seen {M : List Nat} {w : World} (hM : MLt M w) {l : (List Report)} {v_l_0 : Value} (f_l_0 : RdS ReportE M w v_l_0 l) {day : Int} (f_day_0 : InK .i64 day) {r0 : Bool} (h : P.ref03_seen l day = some r0) :
  Calls Tryd.prog 88 (List.toArray [v_l_0, vi day]) w fun e w' => e = .returned (Value.bool r0) ∧ Ext w w' := by
 have hI := Hp.start (Mu := []) hM
 refine calls_cw Tryd.func88 rfl Tryd.ntmps88 rfl ?_
 refine cw_seq (cw_regF (s_as rfl rfl (Reg.nil (cw_seq (cw_seq (cw_regF (s_as rfl rfl (Reg.nil ?_))))))))
 obtain ⟨j1, h2, h⟩ := bnd h
 refine cw_keep [0, 1, 5] rfl (cw_unitD 3 (ι := Unit) (fun _ => []) (fun _ => fun w3 => w = w3 ∧ (.inl ()) = j1) ?_ ?_)
 ·refine cw_block (cw_keep [5, 0, 1] rfl ?_)
  refine cw_loopM 1 (ι := Int) _ (fun x6 => [(5, vi x6)]) (fun x6 => x6) (fun x6 => fun w8 => w = w8 ∧ InK .i64 x6) 0 h2 ⟨rfl, (by decide)⟩ (sb3 rfl rfl rfl) ?_
  rintro x6 _ ⟨rfl, r7⟩ y11 h12 hR13
  refine cw_seq (cw_seq (cw_regF (s_mv rfl rfl (s_mv rfl rfl (s_len rfl f_l_0 Tryd.underlying22 rfl (s_lss rfl rfl rfl (Reg.nil (cw_cond rfl (fun hc14 => ?_) (fun hc14 => ?_)))))))))
  ·replace h12 := cdT hc14 h12
   refine cw_skip (cw_seq (cw_block ?_))
   obtain ⟨j15, h16, h12⟩ := bnd h12
   refine cw_keep [0, 1, 5] rfl (cw_seqD 0 (ι := Bool) (fun x17 => [(26, Value.bool x17)]) (fun x17 => fun w18 => w = w18 ∧ x17 = j15) ?_ ?_)
   ·refine cw_regF (s_mv rfl rfl (s_mv rfl rfl ?_))
    obtain ⟨y21, hy21, h16⟩ := bnd h16
    refine p_ia rfl rfl f_l_0 hy21 Tryd.underlying22 Tryd.sizeOf61 rfl ?_
    intro b22 o23 cs24 hR25 hC26
    obtain ⟨rfl, r27, r28, r29, r30, r31, r32, r33, r34⟩ := ReportE_R.1 hR25
    refine s_fa rfl Tryd.underlying61 rfl Tryd.sizeOf5 rfl (s_ld rfl (hC26.cells.at 5 rfl) Tryd.isAgg5 rfl (s_eql rfl rfl rfl (s_mv rfl rfl (Reg.gsplit (t := 18) rfl (fun hg35 => ?_) (fun hg35 => ?_)))))
    ·replace h16 := cdT hg35 h16
     refine Reg.take rfl rfl (s_mv rfl rfl (Reg.take rfl rfl (s_mv rfl rfl (Reg.take rfl rfl ?_))))
     obtain ⟨y36, hy36, h16⟩ := bnd h16
     refine p_ia rfl rfl f_l_0 hy36 Tryd.underlying22 Tryd.sizeOf61 rfl ?_
     intro b37 o38 cs39 hR40 hC41
     obtain ⟨rfl, r42, r43, r44, r45, r46, r47, r48, r49⟩ := ReportE_R.1 hR40
     refine Reg.take rfl rfl (s_fa rfl Tryd.underlying61 rfl Tryd.sizeOf3 rfl (Reg.take rfl rfl (s_ld rfl (hC41.cells.at 4 rfl) Tryd.isAgg3 rfl (Reg.take rfl rfl (s_mv rfl rfl (Reg.take rfl rfl (s_eql rfl rfl rfl (s_pkT rfl rfl rfl (Reg.nil ?_)))))))))
     obtain rfl := Option.some.inj h16
     refine ⟨rfl, decide (y36.about = day), ⟨rfl, rfl⟩, sb4 rfl rfl rfl rfl⟩
    replace h16 := cdF hg35 h16
    iterate 7 refine Reg.pass rfl rfl rfl rfl ?_
    refine s_pkF rfl rfl rfl (Reg.nil ?_)
    obtain rfl := Option.some.inj h16
    refine ⟨rfl, false, ⟨rfl, rfl⟩, sb4 rfl rfl rfl rfl⟩
   rintro x17 _ ⟨rfl, rfl⟩
   refine cw_cond rfl (fun hc50 => ?_) (fun hc50 => ?_)
   ·replace h12 := cdT hc50 h12
    refine cw_seq (cw_regF (s_as rfl rfl (Reg.nil (cw_ret ?_))))
    obtain rfl := Option.some.inj h12
    obtain rfl := hR13 _ rfl
    replace h := elimR h
    obtain rfl := Option.some.inj h
    refine fin1 Tryd.results88 rfl ?_
    exact ⟨rfl, hI.kp⟩
   replace h12 := cdF hc50 h12
   refine cw_skip (cw_regF (s_mv rfl rfl ?_))
   obtain ⟨n51, hn51, h12⟩ := bnd h12
   replace hn51 := chk_out hn51
   refine p_add rfl rfl rfl hn51 (s_as rfl rfl (Reg.nil ?_))
   obtain rfl := Option.some.inj h12
   refine ⟨rfl, n51, ⟨⟨rfl, hn51.2⟩, rfl⟩, sb3 rfl rfl rfl⟩
  replace h12 := cdF hc14 h12
  refine cw_exit (exB_same ?_)
  obtain rfl := Option.some.inj h12
  obtain rfl := hR13 _ rfl
  refine ⟨rfl, (), ⟨rfl, rfl⟩, Sub.nil _⟩
 rintro _ _ ⟨rfl, rfl⟩
 replace h := elimL h
 refine cw_seq (cw_regF (s_as rfl rfl (Reg.nil (cw_ret ?_))))
 obtain rfl := Option.some.inj h
 refine fin1 Tryd.results88 rfl ?_
 exact ⟨rfl, hI.kp⟩
noncomputable def P.ref03_put (l : (List Int)) (n : Int) : Option (List Int) :=
  Option.bind (appo 8 l ([n] : List Int)) fun l7 => Option.bind (chk .i64 ((l7.length : Int) - 1)) fun n12 => Option.bind (loopM (S := Int × (List Int)) (R := ((List Int))) (fun (x13, x14) => Option.bind (cond (decide (0 < x13)) (Option.bind (ixo x14 x13) fun y16 => Option.bind (chk .i64 (x13 - 1)) fun n23 => Option.bind (ixo x14 n23) fun y24 => some (decide (y16 < y24))) (some false)) fun x37 => cond x37 (Option.bind (Option.bind (chk .i64 (x13 - 1)) fun n39 => Option.bind (ixo x14 n39) fun y40 => Option.bind (ixo x14 x13) fun y47 => Option.bind (ixo x14 x13) fun y54 => Option.bind (chk .i64 (x13 - 1)) fun n64 => Option.bind (seto x14 x13 y40) fun l73 => Option.bind (ixo l73 n64) fun y80 => Option.bind (seto l73 n64 y47) fun l94 => some l94) fun x101 => Option.bind (chk .i64 (x13 - 1)) fun n102 => some (.inl (n102, x101))) (some (.inr x14))) (n12, l7)) fun x103 => some x103
theorem C_ref03_put {M : List Nat} {w : World} {v_l : Value} (hM : MLt M w) (hd : ∀ b ∈ ob v_l, b ∉ M) {l : (List Int)} (p_l : Own (intE .i64) 3 0 M w v_l l) {n : Int} (f_n_0 : InK .i64 n) {r0 : (List Int)} (h : P.ref03_put l n = some r0) :
  Calls Tryd.prog 63 (List.toArray [v_l, vi n]) w fun e w' => ∃ v0_0 : Value, e = .returned (v0_0) ∧ (Own (intE .i64) 3 0 M w' v0_0 r0 ∧ (∀ b ∈ ob v0_0, b ∈ ob v_l ∨ w.heap.size ≤ b) ∧ Kp (ob v_l) w w') := by
 have hI := Hp.startOwn hM hd p_l
 refine calls_cw Tryd.func63 rfl Tryd.ntmps63 rfl ?_
 refine cw_seq (cw_regF (s_as rfl rfl (Reg.nil (cw_seq (cw_regF (s_mv rfl rfl (s_mv rfl rfl (y_bs (E := (intE .i64)) (xs := [n]) sl36 hI rfl rfl (Cls.cons rfl Cls.nil) (Chs.cons ⟨rfl, f_n_0⟩ Chs.nil) rfl rfl ?_))))))))
 intro v1 w2 hI3 x4
 have hf5 := hI3.freeze 0 rfl
 have hI6 := hI3.erase 0
 obtain ⟨l7, hl7, h⟩ := bnd h
 obtain ⟨hbl7, el7⟩ := appo_out hl7
 refine y_app 0 sl36 hI6 rfl rfl rfl hf5 hbl7 rfl ?_
 rw [← el7]
 intro v8 w9 hI10 x11
 refine s_as rfl rfl (Reg.nil (cw_seq (cw_seq (cw_regF (s_mv rfl rfl (s_lenO rfl (hI10.ownAt 0 rfl) Tryd.underlying36 rfl ?_))))))
 obtain ⟨n12, hn12, h⟩ := bnd h
 replace hn12 := chk_out hn12
 refine p_sub rfl rfl rfl hn12 ?_
 refine s_as rfl rfl (Reg.nil ?_)
 obtain ⟨j13, h14, h⟩ := bnd h
 refine cw_keep [5, 0] rfl (cw_unitD 1 (ι := (List Int)) (fun x15 => []) (fun x15 => fun w16 => Hp w (ob v_l) M [ownR (ob v_l) (intE .i64) 3 v8 x15] w16 ∧ Adv (mm [ownR (ob v_l) (intE .i64) 3 v8 l7] M) (mm [ownR (ob v_l) (intE .i64) 3 v8 x15] M) w9 w16 ∧ x15 = j13) ?_ ?_)
 ·refine cw_block (cw_keep [5, 0] rfl (cw_loopM 1 (ι := Int × (List Int)) _ (fun ⟨x19, x21⟩ => [(5, vi x19)]) (fun ⟨x19, x21⟩ => (x19, x21)) (fun ⟨x19, x21⟩ => fun w22 => Hp w (ob v_l) M [ownR (ob v_l) (intE .i64) 3 v8 x21] w22 ∧ Adv (mm [ownR (ob v_l) (intE .i64) 3 v8 l7] M) (mm [ownR (ob v_l) (intE .i64) 3 v8 x21] M) w9 w22 ∧ InK .i64 x19) (n12, l7) h14 ⟨hI10, (Adv.refl _ _), hn12.2⟩ (sb2 rfl rfl) ?_))
  rintro ⟨x19, x21⟩ w22 ⟨hI23, hA24, r20⟩ y25 h26 hR27
  refine cw_seq ?_
  obtain ⟨j28, h29, h26⟩ := bnd h26
  refine cw_keep [0, 5] rfl (cw_seqD 0 (ι := Bool) (fun x30 => [(26, Value.bool x30)]) (fun x30 => fun w31 => Hp w (ob v_l) M [ownR (ob v_l) (intE .i64) 3 v8 x21] w31 ∧ Adv (mm [ownR (ob v_l) (intE .i64) 3 v8 x21] M) (mm [ownR (ob v_l) (intE .i64) 3 v8 x21] M) w22 w31 ∧ x30 = j28) ?_ ?_)
  ·refine cw_regT fol (by kernel_rfl) ?_
   refine s_mv rfl rfl (s_gtr rfl rfl rfl (s_mv rfl rfl (Reg.gsplit (t := 15) rfl (fun hg34 => ?_) (fun hg34 => ?_))))
   ·replace h29 := cdT hg34 h29
    refine Reg.take rfl rfl (s_mv rfl rfl (Reg.take rfl rfl (s_mv rfl rfl (Reg.take rfl rfl ?_))))
    obtain ⟨y35, hy35, h29⟩ := bnd h29
    refine y_ia 0 hI23 rfl rfl rfl hy35 Tryd.underlying36 Tryd.sizeOf3 rfl ?_
    intro g36 cs37 hg38 hR39 hC40
    have khR39 := hR39
    obtain ⟨rfl, r41⟩ := hR39
    refine Reg.take rfl rfl (s_ld rfl (hC40.at 0 rfl) Tryd.isAgg3 rfl (Reg.take rfl rfl (s_mv rfl rfl (Reg.take rfl rfl (s_mv rfl rfl (Reg.take rfl rfl ?_))))))
    obtain ⟨n42, hn42, h29⟩ := bnd h29
    replace hn42 := chk_out hn42
    refine p_sub rfl rfl rfl hn42 ?_
    refine Reg.take rfl rfl ?_
    obtain ⟨y43, hy43, h29⟩ := bnd h29
    refine y_ia 0 hI23 rfl rfl rfl hy43 Tryd.underlying36 Tryd.sizeOf3 rfl ?_
    intro g44 cs45 hg46 hR47 hC48
    have khR47 := hR47
    obtain ⟨rfl, r49⟩ := hR47
    refine Reg.take rfl rfl (s_ld rfl (hC48.at 0 rfl) Tryd.isAgg3 rfl (Reg.take rfl rfl (s_lss rfl rfl rfl (s_pkT rfl rfl rfl (Reg.nilq (fun w50 e51 => ?_))))))
    have hI52 := hI23.ext e51
    obtain rfl := Option.some.inj h29
    refine ⟨rfl, decide (y35 < y43), ⟨hI52, (Adv.of_ext e51), rfl⟩, sb3 rfl rfl rfl⟩
   replace h29 := cdF hg34 h29
   iterate 10 refine Reg.pass rfl rfl rfl rfl ?_
   refine s_pkF rfl rfl rfl (Reg.nilq (fun w53 e54 => ?_))
   have hI55 := hI23.ext e54
   obtain rfl := Option.some.inj h29
   refine ⟨rfl, false, ⟨hI55, (Adv.of_ext e54), rfl⟩, sb3 rfl rfl rfl⟩
  rintro x30 w31 ⟨hI32, hA33, rfl⟩
  refine cw_cond rfl (fun hc56 => ?_) (fun hc56 => ?_)
  ·replace h26 := cdT hc56 h26
   refine cw_skip (cw_seq (cw_block ?_))
   obtain ⟨j57, h58, h26⟩ := bnd h26
   refine cw_keep [0, 5] rfl (cw_unitD 0 (ι := (List Int)) (fun x59 => []) (fun x59 => fun w60 => Hp w (ob v_l) M [ownR (ob v_l) (intE .i64) 3 v8 x59] w60 ∧ Adv (mm [ownR (ob v_l) (intE .i64) 3 v8 x21] M) (mm [ownR (ob v_l) (intE .i64) 3 v8 x59] M) w31 w60 ∧ x59 = j57) ?_ ?_)
   ·refine cw_regSea [0, 1, 2, 3, 5, 6, 7, 8, 9, 10, 11, 12, 13, 14] [4, 15, 16, 17] [] [15, 17] [[15, 7], [15, 8], [15, 9], [15, 13, 12], [15, 14], [17, 7], [17, 8], [17, 9], [17, 12], [17, 13], [17, 14]] [] fol (by kernel_rfl) rfl (by kernel_rfl) rfl rfl ?_
    iterate 6 refine s_mv rfl rfl ?_
    obtain ⟨n63, hn63, h58⟩ := bnd h58
    replace hn63 := chk_out hn63
    refine p_sub rfl rfl rfl hn63 ?_
    obtain ⟨y64, hy64, h58⟩ := bnd h58
    refine y_ia 0 hI32 rfl rfl rfl hy64 Tryd.underlying36 Tryd.sizeOf3 rfl ?_
    intro g65 cs66 hg67 hR68 hC69
    have khR68 := hR68
    obtain ⟨rfl, r70⟩ := hR68
    refine s_ld rfl (hC69.at 0 rfl) Tryd.isAgg3 rfl (s_mv rfl rfl (s_mv rfl rfl ?_))
    obtain ⟨y71, hy71, h58⟩ := bnd h58
    refine y_ia 0 hI32 rfl rfl rfl hy71 Tryd.underlying36 Tryd.sizeOf3 rfl ?_
    intro g72 cs73 hg74 hR75 hC76
    have khR75 := hR75
    obtain ⟨rfl, r77⟩ := hR75
    refine s_ld rfl (hC76.at 0 rfl) Tryd.isAgg3 rfl ?_
    obtain ⟨y78, hy78, h58⟩ := bnd h58
    refine y_ia 0 hI32 rfl rfl rfl hy78 Tryd.underlying36 Tryd.sizeOf3 rfl ?_
    intro g79 cs80 hg81 hR82 hC83
    have khR82 := hR82
    obtain ⟨rfl, r84⟩ := hR82
    refine Reg.nilX ⟨rfl, rfl, rfl, ?_⟩
    intro w85 e86
    have hI87 := (Hp.start (Mu := []) hI32.mlt).ext e86
    obtain ⟨n88, hn88, h58⟩ := bnd h58
    obtain ⟨l97, hl97, h58⟩ := bnd h58
    obtain ⟨y104, hy104, h58⟩ := bnd h58
    obtain ⟨l118, hl118, h58⟩ := bnd h58
    refine SeaWalk.step [4, 15] (by kernel_rfl) (AllL.cons ?_ (AllL.cons ?_ (AllL.nil)))
    ·refine ⟨_, [], rfl, RSub.nil, rfl, nodupB_spec rfl, ?_⟩
     simp only [relOut]
     replace hn88 := chk_out hn88
     refine p_sub rfl rfl rfl hn88 ?_
     refine Reg.nil ⟨rfl, .inr hI87.kp, rfl, ?_⟩
     intro w125 e126
     have hI127 := hI87.ext e126
     refine SeaWalk.step [15] (by kernel_rfl) (AllL.cons ?_ (AllL.nil))
     refine ⟨_, [], rfl, RSub.nil, rfl, nodupB_spec rfl, ?_⟩
     simp only [relOut]
     have hI128 := hI32.join hI127
     obtain ⟨cs129, hR130, hC131⟩ := (hI128.ownAt 0 rfl).cellsAt hg81 (ixo_out hy78).2.2
     have khR130 := hR130
     obtain ⟨rfl, r132⟩ := hR130
     refine y_sto 0 (E := (intE .i64)) (o := 0) hI128 rfl rfl rfl rfl hg81 hl97 ⟨rfl, r132⟩ hC131 ⟨rfl, r70⟩ rfl Tryd.sizeOf3 rfl (one1 rfl one0) ?_
     intro w133 hI134 x135
     refine Reg.nil ⟨rfl, .inl rfl, rfl, ?_⟩
     intro w136 e137
     have hI138 := hI134.ext e137
     refine SeaWalk.step [16] (by kernel_rfl) (AllL.cons ?_ (AllL.nil))
     refine ⟨_, [], rfl, RSub.nil, rfl, nodupB_spec rfl, ?_⟩
     simp only [relOut]
     refine y_ia 0 hI138 rfl rfl rfl hy104 Tryd.underlying36 Tryd.sizeOf3 rfl ?_
     intro g139 cs140 hg141 hR142 hC143
     have khR142 := hR142
     obtain ⟨rfl, r144⟩ := hR142
     refine Reg.nil ⟨rfl, .inl rfl, rfl, ?_⟩
     intro w145 e146
     have hI147 := hI138.ext e146
     refine SeaWalk.step [17] (by kernel_rfl) (AllL.cons ?_ (AllL.nil))
     refine ⟨_, [], rfl, RSub.nil, rfl, nodupB_spec rfl, ?_⟩
     simp only [relOut]
     obtain ⟨cs148, hR149, hC150⟩ := (hI147.ownAt 0 rfl).cellsAt hg141 (ixo_out hy104).2.2
     have khR149 := hR149
     obtain ⟨rfl, r151⟩ := hR149
     refine y_sto 0 (E := (intE .i64)) (o := 0) hI147 rfl rfl rfl rfl hg141 hl118 ⟨rfl, r151⟩ hC150 ⟨rfl, r77⟩ rfl Tryd.sizeOf3 rfl (one1 rfl one0) ?_
     intro w152 hI153 x154
     refine Reg.nil ⟨rfl, .inl rfl, rfl, ?_⟩
     intro w155 e156
     have hI157 := hI153.ext e156
     refine SeaWalk.done ?_
     obtain rfl := Option.some.inj h58
     refine ⟨rfl, l118, ⟨hI157, ((Adv.of_ext e86).trans ((Adv.of_ext e126).trans (x135.trans ((Adv.of_ext e137).trans ((Adv.of_ext e146).trans (x154.trans (Adv.of_ext e156))))))), rfl⟩, sb2 rfl rfl⟩
    refine ⟨_, [], rfl, RSub.nil, rfl, nodupB_spec rfl, ?_⟩
    simp only [relOut]
    have hI158 := hI32.join hI87
    obtain ⟨cs159, hR160, hC161⟩ := (hI158.ownAt 0 rfl).cellsAt hg81 (ixo_out hy78).2.2
    have khR160 := hR160
    obtain ⟨rfl, r162⟩ := hR160
    refine y_sto 0 (E := (intE .i64)) (o := 0) hI158 rfl rfl rfl rfl hg81 hl97 ⟨rfl, r162⟩ hC161 ⟨rfl, r70⟩ rfl Tryd.sizeOf3 rfl (one1 rfl one0) ?_
    intro w163 hI164 x165
    refine Reg.nil ⟨rfl, .inl rfl, rfl, ?_⟩
    intro w166 e167
    have hI168 := hI164.ext e167
    refine SeaWalk.step [4] (by kernel_rfl) (AllL.cons ?_ (AllL.nil))
    refine ⟨_, [], rfl, RSub.nil, rfl, nodupB_spec rfl, ?_⟩
    simp only [relOut]
    replace hn88 := chk_out hn88
    refine p_sub rfl rfl rfl hn88 ?_
    refine Reg.nil ⟨rfl, .inl rfl, rfl, ?_⟩
    intro w169 e170
    have hI171 := hI168.ext e170
    refine SeaWalk.step [16] (by kernel_rfl) (AllL.cons ?_ (AllL.nil))
    refine ⟨_, [], rfl, RSub.nil, rfl, nodupB_spec rfl, ?_⟩
    simp only [relOut]
    refine y_ia 0 hI171 rfl rfl rfl hy104 Tryd.underlying36 Tryd.sizeOf3 rfl ?_
    intro g172 cs173 hg174 hR175 hC176
    have khR175 := hR175
    obtain ⟨rfl, r177⟩ := hR175
    refine Reg.nil ⟨rfl, .inl rfl, rfl, ?_⟩
    intro w178 e179
    have hI180 := hI171.ext e179
    refine SeaWalk.step [17] (by kernel_rfl) (AllL.cons ?_ (AllL.nil))
    refine ⟨_, [], rfl, RSub.nil, rfl, nodupB_spec rfl, ?_⟩
    simp only [relOut]
    obtain ⟨cs181, hR182, hC183⟩ := (hI180.ownAt 0 rfl).cellsAt hg174 (ixo_out hy104).2.2
    have khR182 := hR182
    obtain ⟨rfl, r184⟩ := hR182
    refine y_sto 0 (E := (intE .i64)) (o := 0) hI180 rfl rfl rfl rfl hg174 hl118 ⟨rfl, r184⟩ hC183 ⟨rfl, r77⟩ rfl Tryd.sizeOf3 rfl (one1 rfl one0) ?_
    intro w185 hI186 x187
    refine Reg.nil ⟨rfl, .inl rfl, rfl, ?_⟩
    intro w188 e189
    have hI190 := hI186.ext e189
    refine SeaWalk.done ?_
    obtain rfl := Option.some.inj h58
    refine ⟨rfl, l118, ⟨hI190, ((Adv.of_ext e86).trans (x165.trans ((Adv.of_ext e167).trans ((Adv.of_ext e170).trans ((Adv.of_ext e179).trans (x187.trans (Adv.of_ext e189))))))), rfl⟩, sb2 rfl rfl⟩
   rintro x59 w60 ⟨hI61, hA62, rfl⟩
   refine cw_regF (s_mv rfl rfl ?_)
   obtain ⟨n191, hn191, h26⟩ := bnd h26
   replace hn191 := chk_out hn191
   refine p_sub rfl rfl rfl hn191 ?_
   refine s_as rfl rfl (Reg.nil ?_)
   obtain rfl := Option.some.inj h26
   refine ⟨rfl, (n191, x59), ⟨⟨hI61, (hA24.trans (hA33.trans hA62)), hn191.2⟩, rfl⟩, sb2 rfl rfl⟩
  replace h26 := cdF hc56 h26
  refine cw_exit (exB_same ?_)
  obtain rfl := Option.some.inj h26
  obtain rfl := hR27 _ rfl
  refine ⟨rfl, x21, ⟨hI32, (hA24.trans hA33), rfl⟩, sb1 rfl⟩
 rintro x15 w16 ⟨hI17, hA18, rfl⟩
 refine cw_seq (cw_regF (s_mv rfl rfl (s_as rfl rfl (Reg.nil (cw_ret ?_)))))
 obtain rfl := Option.some.inj h
 refine fin1 Tryd.results63 rfl ?_
 exact ⟨_, rfl, (hI17.ownBack 0 rfl)⟩
noncomputable def P.ref03_paid (l : (List Report)) (day : Int) : Option Span :=
  Option.bind (loopM (S := Bool × Int × Int × Int) (R := (Int × Int)) (fun (x9, x10, x11, x12) => cond (decide (x10 < (l.length : Int))) (Option.bind (Option.bind (Option.bind (ixo l x10) fun y14 => cond (!decide (y14.kind = 4)) (some true) (Option.bind (ixo l x10) fun y29 => some (!decide (y29.about = day)))) fun x43 => cond x43 (some (x9, x11, x12)) (Option.bind (loopM (S := Int × Int) (R := (Int)) (fun (x45, x46) => cond (decide (x46 < (l.length : Int))) (Option.bind (Option.bind (Option.bind (ixo l x46) fun y48 => cond (decide (y48.kind = 4)) (Option.bind (ixo l x46) fun y63 => cond (decide (y63.about = day)) (Option.bind (ixo l x46) fun y78 => Option.bind (ixo l x10) fun y92 => some (decide (y78.source = y92.source))) (some false)) (some false)) fun x115 => Option.bind (cond x115 (Option.bind (ixo l x46) fun y117 => Option.bind (chk .i64 (x45 + y117.cents)) fun n131 => some n131) (some x45)) fun x132 => some x132) fun x133 => Option.bind (chk .i64 (x46 + 1)) fun n134 => some (.inl (x133, n134))) (some (.inr x45))) (0, 0)) fun x135 => Option.bind (Option.bind (cond x9 (some (false, x135, x135)) (some (x9, x11, x12))) fun (x140, x141, x142) => some (x140, x141, x142)) fun (x143, x144, x145) => some (x143, min x144 x135, max x145 x135))) fun (x149, x150, x151) => Option.bind (chk .i64 (x10 + 1)) fun n152 => some (.inl (x149, n152, x150, x151))) (some (.inr (x11, x12)))) (true, 0, 0, 0)) fun (x153, x154) => some (Span.mk x153 x154)
theorem C_ref03_paid {M : List Nat} {w : World} (hM : MLt M w) {l : (List Report)} {v_l_0 : Value} (f_l_0 : RdS ReportE M w v_l_0 l) {day : Int} (f_day_0 : InK .i64 day) {r0 : Span} (h : P.ref03_paid l day = some r0) :
  Calls Tryd.prog 64 (List.toArray [v_l_0, vi day]) w fun e w' => e = .returned (Value.agg (List.toArray [vi r0.lo, vi r0.hi])) ∧ InK .i64 r0.lo ∧ InK .i64 r0.hi ∧ Ext w w' := by
 have hI := Hp.start (Mu := []) hM
 refine calls_cw Tryd.func64 rfl Tryd.ntmps64 rfl ?_
 refine cw_seq (cw_regF (y_al hI Tryd.zeroValue40 rfl rfl ?_))
 intro b1 w2 hI3 x4
 refine Reg.nil (cw_seq (cw_regF (y_al hI3 Tryd.zeroValue40 rfl rfl ?_)))
 intro b5 w6 hI7 x8
 refine Reg.nil (cw_seq (cw_regF (s_as rfl rfl (Reg.nil (cw_seq (cw_seq (cw_regF (s_as rfl rfl (Reg.nil ?_)))))))))
 obtain ⟨j9, h10, h⟩ := bnd h
 refine cw_keep [0, 1, 6, 7, 4, 5] rfl (cw_unitD 4 (ι := Int × Int) (fun ⟨x11, x13⟩ => []) (fun ⟨x11, x13⟩ => fun w15 => Hp w [] M [rowR 40 b5 [vi x11, vi x13], rowR 40 b1 [vi 0, vi 0]] w15 ∧ Adv (mm [rowR 40 b5 [vi 0, vi 0], rowR 40 b1 [vi 0, vi 0]] M) (mm [rowR 40 b5 [vi x11, vi x13], rowR 40 b1 [vi 0, vi 0]] M) w6 w15 ∧ InK .i64 x11 ∧ InK .i64 x13 ∧ (x11, x13) = j9) ?_ ?_)
 ·refine cw_block (cw_keep [6, 7, 0, 1, 4, 5] rfl ?_)
  refine cw_loopM 2 (ι := Bool × Int × Int × Int) _ (fun ⟨x18, x19, x21, x23⟩ => [(6, Value.bool x18), (7, vi x19)]) (fun ⟨x18, x19, x21, x23⟩ => (x18, x19, x21, x23)) (fun ⟨x18, x19, x21, x23⟩ => fun w25 => Hp w [] M [rowR 40 b5 [vi x21, vi x23], rowR 40 b1 [vi 0, vi 0]] w25 ∧ Adv (mm [rowR 40 b5 [vi 0, vi 0], rowR 40 b1 [vi 0, vi 0]] M) (mm [rowR 40 b5 [vi x21, vi x23], rowR 40 b1 [vi 0, vi 0]] M) w6 w25 ∧ InK .i64 x19 ∧ InK .i64 x21 ∧ InK .i64 x23) (true, 0, 0, 0) h10 ⟨hI7, (Adv.refl _ _), (by decide), (by decide), (by decide)⟩ (sb6 rfl rfl rfl rfl rfl rfl) ?_
  rintro ⟨x18, x19, x21, x23⟩ w25 ⟨hI26, hA27, r20, r22, r24⟩ y28 h29 hR30
  refine cw_seq (cw_seq (cw_regF (s_mv rfl rfl (s_mv rfl rfl (s_len rfl (f_l_0.adv hI26.adv) Tryd.underlying22 rfl (s_lss rfl rfl rfl (Reg.nil (cw_cond rfl (fun hc31 => ?_) (fun hc31 => ?_)))))))))
  ·replace h29 := cdT hc31 h29
   refine cw_skip ?_
   obtain ⟨j32, h33, h29⟩ := bnd h29
   refine cw_keep [6, 0, 1, 4, 5, 7] rfl (cw_seqD 1 (ι := Bool × Int × Int) (fun ⟨x34, x35, x37⟩ => [(6, Value.bool x34)]) (fun ⟨x34, x35, x37⟩ => fun w39 => Hp w [] M [rowR 40 b5 [vi x35, vi x37], rowR 40 b1 [vi 0, vi 0]] w39 ∧ Adv (mm [rowR 40 b5 [vi x21, vi x23], rowR 40 b1 [vi 0, vi 0]] M) (mm [rowR 40 b5 [vi x35, vi x37], rowR 40 b1 [vi 0, vi 0]] M) w25 w39 ∧ InK .i64 x35 ∧ InK .i64 x37 ∧ (x34, x35, x37) = j32) ?_ ?_)
   ·refine cw_block (cw_seq ?_)
    obtain ⟨j42, h43, h33⟩ := bnd h33
    refine cw_keep [0, 1, 4, 5, 6, 7] rfl (cw_seqD 0 (ι := Bool) (fun x44 => [(30, Value.bool x44)]) (fun x44 => fun w45 => w25 = w45 ∧ x44 = j42) ?_ ?_)
    ·refine cw_regF (s_mv rfl rfl (s_mv rfl rfl ?_))
     obtain ⟨y48, hy48, h43⟩ := bnd h43
     refine p_ia rfl rfl (f_l_0.adv hI26.adv) hy48 Tryd.underlying22 Tryd.sizeOf61 rfl ?_
     intro b49 o50 cs51 hR52 hC53
     obtain ⟨rfl, r54, r55, r56, r57, r58, r59, r60, r61⟩ := ReportE_R.1 hR52
     refine s_fa rfl Tryd.underlying61 rfl Tryd.sizeOf5 rfl (s_ld rfl (hC53.cells.at 5 rfl) Tryd.isAgg5 rfl (s_neq rfl rfl rfl (s_mv rfl rfl (Reg.gsplit (t := 22) rfl (fun hg62 => ?_) (fun hg62 => ?_)))))
     ·replace h43 := cdT hg62 h43
      iterate 7 refine Reg.pass rfl rfl rfl rfl ?_
      refine s_pkT rfl rfl rfl (Reg.nil ?_)
      obtain rfl := Option.some.inj h43
      refine ⟨rfl, true, ⟨rfl, rfl⟩, sb7 rfl rfl rfl rfl rfl rfl rfl⟩
     replace h43 := cdF hg62 h43
     refine Reg.take rfl rfl (s_mv rfl rfl (Reg.take rfl rfl (s_mv rfl rfl (Reg.take rfl rfl ?_))))
     obtain ⟨y63, hy63, h43⟩ := bnd h43
     refine p_ia rfl rfl (f_l_0.adv hI26.adv) hy63 Tryd.underlying22 Tryd.sizeOf61 rfl ?_
     intro b64 o65 cs66 hR67 hC68
     obtain ⟨rfl, r69, r70, r71, r72, r73, r74, r75, r76⟩ := ReportE_R.1 hR67
     refine Reg.take rfl rfl (s_fa rfl Tryd.underlying61 rfl Tryd.sizeOf3 rfl (Reg.take rfl rfl (s_ld rfl (hC68.cells.at 4 rfl) Tryd.isAgg3 rfl (Reg.take rfl rfl (s_mv rfl rfl (Reg.take rfl rfl (s_neq rfl rfl rfl (s_pkF rfl rfl rfl (Reg.nil ?_)))))))))
     obtain rfl := Option.some.inj h43
     refine ⟨rfl, !decide (y63.about = day), ⟨rfl, rfl⟩, sb7 rfl rfl rfl rfl rfl rfl rfl⟩
    rintro x44 _ ⟨rfl, rfl⟩
    refine cw_cond rfl (fun hc77 => ?_) (fun hc77 => ?_)
    ·replace h33 := cdT hc77 h33
     refine cw_exit (exB_same ?_)
     obtain rfl := Option.some.inj h33
     refine ⟨rfl, (x18, x21, x23), ⟨hI26, (Adv.refl _ _), r22, r24, rfl⟩, sb6 rfl rfl rfl rfl rfl rfl⟩
    replace h33 := cdF hc77 h33
    refine cw_skip (cw_seq (cw_regF (s_as rfl rfl (Reg.nil (cw_seq (cw_seq (cw_regF (s_as rfl rfl (Reg.nil ?_)))))))))
    obtain ⟨j78, h79, h33⟩ := bnd h33
    refine cw_keep [8, 9, 0, 1, 4, 5, 6, 7] rfl (cw_unitD 2 (ι := Int) (fun x80 => [(8, vi x80)]) (fun x80 => fun w82 => Hp w [] M [rowR 40 b5 [vi x21, vi x23], rowR 40 b1 [vi 0, vi 0]] w82 ∧ Adv (mm [rowR 40 b5 [vi x21, vi x23], rowR 40 b1 [vi 0, vi 0]] M) (mm [rowR 40 b5 [vi x21, vi x23], rowR 40 b1 [vi 0, vi 0]] M) w25 w82 ∧ InK .i64 x80 ∧ x80 = j78) ?_ ?_)
    ·refine cw_block (cw_keep [8, 9, 0, 1, 4, 5, 6, 7] rfl ?_)
     refine cw_loopM 2 (ι := Int × Int) _ (fun ⟨x85, x87⟩ => [(8, vi x85), (9, vi x87)]) (fun ⟨x85, x87⟩ => (x85, x87)) (fun ⟨x85, x87⟩ => fun w89 => Hp w [] M [rowR 40 b5 [vi x21, vi x23], rowR 40 b1 [vi 0, vi 0]] w89 ∧ Adv (mm [rowR 40 b5 [vi x21, vi x23], rowR 40 b1 [vi 0, vi 0]] M) (mm [rowR 40 b5 [vi x21, vi x23], rowR 40 b1 [vi 0, vi 0]] M) w25 w89 ∧ InK .i64 x85 ∧ InK .i64 x87) (0, 0) h79 ⟨hI26, (Adv.refl _ _), (by decide), (by decide)⟩ (sb8 rfl rfl rfl rfl rfl rfl rfl rfl) ?_
     rintro ⟨x85, x87⟩ w89 ⟨hI90, hA91, r86, r88⟩ y92 h93 hR94
     refine cw_seq (cw_seq (cw_regF (s_mv rfl rfl (s_mv rfl rfl (s_len rfl (f_l_0.adv hI90.adv) Tryd.underlying22 rfl (s_lss rfl rfl rfl (Reg.nil (cw_cond rfl (fun hc95 => ?_) (fun hc95 => ?_)))))))))
     ·replace h93 := cdT hc95 h93
      refine cw_skip ?_
      obtain ⟨j96, h97, h93⟩ := bnd h93
      refine cw_keep [8, 0, 1, 4, 5, 6, 7, 9] rfl (cw_seqD 1 (ι := Int) (fun x98 => [(8, vi x98)]) (fun x98 => fun w100 => Hp w [] M [rowR 40 b5 [vi x21, vi x23], rowR 40 b1 [vi 0, vi 0]] w100 ∧ Adv (mm [rowR 40 b5 [vi x21, vi x23], rowR 40 b1 [vi 0, vi 0]] M) (mm [rowR 40 b5 [vi x21, vi x23], rowR 40 b1 [vi 0, vi 0]] M) w89 w100 ∧ InK .i64 x98 ∧ x98 = j96) ?_ ?_)
      ·refine cw_block ?_
       obtain ⟨j103, h104, h97⟩ := bnd h97
       refine cw_keep [0, 1, 4, 5, 6, 7, 8, 9] rfl (cw_seqD 0 (ι := Bool) (fun x105 => [(64, Value.bool x105)]) (fun x105 => fun w106 => Hp w [] M [rowR 40 b5 [vi x21, vi x23], rowR 40 b1 [vi 0, vi 0]] w106 ∧ Adv (mm [rowR 40 b5 [vi x21, vi x23], rowR 40 b1 [vi 0, vi 0]] M) (mm [rowR 40 b5 [vi x21, vi x23], rowR 40 b1 [vi 0, vi 0]] M) w89 w106 ∧ x105 = j103) ?_ ?_)
       ·refine cw_regT fol (by kernel_rfl) ?_
        refine s_mv rfl rfl (s_mv rfl rfl ?_)
        obtain ⟨y109, hy109, h104⟩ := bnd h104
        refine p_ia rfl rfl (f_l_0.adv hI90.adv) hy109 Tryd.underlying22 Tryd.sizeOf61 rfl ?_
        intro b110 o111 cs112 hR113 hC114
        obtain ⟨rfl, r115, r116, r117, r118, r119, r120, r121, r122⟩ := ReportE_R.1 hR113
        refine s_fa rfl Tryd.underlying61 rfl Tryd.sizeOf5 rfl (s_ld rfl (hC114.cells.at 5 rfl) Tryd.isAgg5 rfl (s_eql rfl rfl rfl (s_mv rfl rfl (Reg.gsplit (t := 43) rfl (fun hg123 => ?_) (fun hg123 => ?_)))))
        ·replace h104 := cdT hg123 h104
         refine Reg.take rfl rfl (s_mv rfl rfl (Reg.take rfl rfl (s_mv rfl rfl (Reg.take rfl rfl ?_))))
         obtain ⟨y124, hy124, h104⟩ := bnd h104
         refine p_ia rfl rfl (f_l_0.adv hI90.adv) hy124 Tryd.underlying22 Tryd.sizeOf61 rfl ?_
         intro b125 o126 cs127 hR128 hC129
         obtain ⟨rfl, r130, r131, r132, r133, r134, r135, r136, r137⟩ := ReportE_R.1 hR128
         refine Reg.take rfl rfl (s_fa rfl Tryd.underlying61 rfl Tryd.sizeOf3 rfl (Reg.take rfl rfl (s_ld rfl (hC129.cells.at 4 rfl) Tryd.isAgg3 rfl (Reg.take rfl rfl (s_mv rfl rfl (Reg.take rfl rfl (s_eql rfl rfl rfl (s_pkT rfl rfl rfl (s_mv rfl rfl (Reg.gsplit (t := 52) rfl (fun hg138 => ?_) (fun hg138 => ?_)))))))))))
         ·replace h104 := cdT hg138 h104
          refine Reg.take rfl rfl (s_mv rfl rfl (Reg.take rfl rfl (s_mv rfl rfl (Reg.take rfl rfl ?_))))
          obtain ⟨y139, hy139, h104⟩ := bnd h104
          refine p_ia rfl rfl (f_l_0.adv hI90.adv) hy139 Tryd.underlying22 Tryd.sizeOf61 rfl ?_
          intro b140 o141 cs142 hR143 hC144
          obtain ⟨rfl, r145, r146, r147, r148, r149, r150, r151, r152⟩ := ReportE_R.1 hR143
          refine Reg.take rfl rfl (s_fa rfl Tryd.underlying61 rfl Tryd.sizeOf3 rfl (Reg.take rfl rfl (s_ld rfl (hC144.cells.at 1 rfl) Tryd.isAgg3 rfl (Reg.take rfl rfl (s_mv rfl rfl (Reg.take rfl rfl (s_mv rfl rfl (Reg.take rfl rfl ?_))))))))
          obtain ⟨y153, hy153, h104⟩ := bnd h104
          refine p_ia rfl rfl (f_l_0.adv hI90.adv) hy153 Tryd.underlying22 Tryd.sizeOf61 rfl ?_
          intro b154 o155 cs156 hR157 hC158
          obtain ⟨rfl, r159, r160, r161, r162, r163, r164, r165, r166⟩ := ReportE_R.1 hR157
          refine Reg.take rfl rfl (s_fa rfl Tryd.underlying61 rfl Tryd.sizeOf3 rfl (Reg.take rfl rfl (s_ld rfl (hC158.cells.at 1 rfl) Tryd.isAgg3 rfl (Reg.take rfl rfl (s_eql rfl rfl rfl (s_pkT rfl rfl rfl (Reg.nilq (fun w167 e168 => ?_))))))))
          have hI169 := hI90.ext e168
          obtain rfl := Option.some.inj h104
          refine ⟨rfl, decide (y139.source = y153.source), ⟨hI169, (Adv.of_ext e168), rfl⟩, sb9 rfl rfl rfl rfl rfl rfl rfl rfl rfl⟩
         replace h104 := cdF hg138 h104
         iterate 11 refine Reg.pass rfl rfl rfl rfl ?_
         refine s_pkF rfl rfl rfl (Reg.nilq (fun w170 e171 => ?_))
         have hI172 := hI90.ext e171
         obtain rfl := Option.some.inj h104
         refine ⟨rfl, false, ⟨hI172, (Adv.of_ext e171), rfl⟩, sb9 rfl rfl rfl rfl rfl rfl rfl rfl rfl⟩
        replace h104 := cdF hg123 h104
        iterate 7 refine Reg.pass rfl rfl rfl rfl ?_
        refine s_pkF rfl rfl rfl (s_mv rfl rfl ?_)
        iterate 11 refine Reg.pass rfl rfl rfl rfl ?_
        refine s_pkF rfl rfl rfl (Reg.nilq (fun w173 e174 => ?_))
        have hI175 := hI90.ext e174
        obtain rfl := Option.some.inj h104
        refine ⟨rfl, false, ⟨hI175, (Adv.of_ext e174), rfl⟩, sb9 rfl rfl rfl rfl rfl rfl rfl rfl rfl⟩
       rintro x105 w106 ⟨hI107, hA108, rfl⟩
       obtain ⟨j176, h177, h97⟩ := bnd h97
       refine cw_keep [8, 64, 0, 1, 4, 5, 6, 7, 9] rfl (cw_unitD 2 (ι := Int) (fun x178 => [(8, vi x178)]) (fun x178 => fun w180 => w106 = w180 ∧ InK .i64 x178 ∧ x178 = j176) ?_ ?_)
       ·refine cw_cond rfl (fun hc183 => ?_) (fun hc183 => ?_)
        ·replace h177 := cdT hc183 h177
         refine cw_regF ?_
         iterate 3 refine s_mv rfl rfl ?_
         obtain ⟨y184, hy184, h177⟩ := bnd h177
         refine p_ia rfl rfl (f_l_0.adv hI107.adv) hy184 Tryd.underlying22 Tryd.sizeOf61 rfl ?_
         intro b185 o186 cs187 hR188 hC189
         obtain ⟨rfl, r190, r191, r192, r193, r194, r195, r196, r197⟩ := ReportE_R.1 hR188
         refine s_fa rfl Tryd.underlying61 rfl Tryd.sizeOf3 rfl (s_ld rfl (hC189.cells.at 6 rfl) Tryd.isAgg3 rfl ?_)
         obtain ⟨n198, hn198, h177⟩ := bnd h177
         replace hn198 := chk_out hn198
         refine p_add rfl rfl rfl hn198 (s_as rfl rfl (Reg.nil ?_))
         obtain rfl := Option.some.inj h177
         refine ⟨rfl, n198, ⟨rfl, hn198.2, rfl⟩, sb8 rfl rfl rfl rfl rfl rfl rfl rfl⟩
        replace h177 := cdF hc183 h177
        refine cw_skip ?_
        obtain rfl := Option.some.inj h177
        refine ⟨rfl, x85, ⟨rfl, r86, rfl⟩, sb8 rfl rfl rfl rfl rfl rfl rfl rfl⟩
       rintro x178 _ ⟨rfl, r179, rfl⟩
       obtain rfl := Option.some.inj h97
       refine ⟨rfl, x178, ⟨hI107, hA108, r179, rfl⟩, sb8 rfl rfl rfl rfl rfl rfl rfl rfl⟩
      rintro x98 w100 ⟨hI101, hA102, r99, rfl⟩
      refine cw_regF (s_mv rfl rfl ?_)
      obtain ⟨n199, hn199, h93⟩ := bnd h93
      replace hn199 := chk_out hn199
      refine p_add rfl rfl rfl hn199 (s_as rfl rfl (Reg.nil ?_))
      obtain rfl := Option.some.inj h93
      refine ⟨rfl, (x98, n199), ⟨⟨hI101, (hA91.trans hA102), r99, hn199.2⟩, rfl⟩, sb8 rfl rfl rfl rfl rfl rfl rfl rfl⟩
     replace h93 := cdF hc95 h93
     refine cw_exit (exB_same ?_)
     obtain rfl := Option.some.inj h93
     obtain rfl := hR94 _ rfl
     refine ⟨rfl, x85, ⟨hI90, hA91, r86, rfl⟩, sb7 rfl rfl rfl rfl rfl rfl rfl⟩
    rintro x80 w82 ⟨hI83, hA84, r81, rfl⟩
    obtain ⟨j200, h201, h33⟩ := bnd h33
    refine cw_keep [6, 0, 1, 4, 5, 7, 8] rfl (cw_seqD 1 (ι := Bool × Int × Int) (fun ⟨x202, x203, x205⟩ => [(6, Value.bool x202)]) (fun ⟨x202, x203, x205⟩ => fun w207 => Hp w [] M [rowR 40 b5 [vi x203, vi x205], rowR 40 b1 [vi 0, vi 0]] w207 ∧ Adv (mm [rowR 40 b5 [vi x21, vi x23], rowR 40 b1 [vi 0, vi 0]] M) (mm [rowR 40 b5 [vi x203, vi x205], rowR 40 b1 [vi 0, vi 0]] M) w82 w207 ∧ InK .i64 x203 ∧ InK .i64 x205 ∧ (x202, x203, x205) = j200) ?_ ?_)
    ·refine cw_seq (cw_regF (s_mv rfl rfl (Reg.nil ?_)))
     obtain ⟨j210, h211, h201⟩ := bnd h201
     refine cw_keep [6, 72, 0, 1, 4, 5, 7, 8] rfl (cw_unitD 2 (ι := Bool × Int × Int) (fun ⟨x212, x213, x215⟩ => [(6, Value.bool x212)]) (fun ⟨x212, x213, x215⟩ => fun w217 => Hp w [] M [rowR 40 b5 [vi x213, vi x215], rowR 40 b1 [vi 0, vi 0]] w217 ∧ Adv (mm [rowR 40 b5 [vi x21, vi x23], rowR 40 b1 [vi 0, vi 0]] M) (mm [rowR 40 b5 [vi x213, vi x215], rowR 40 b1 [vi 0, vi 0]] M) w82 w217 ∧ InK .i64 x213 ∧ InK .i64 x215 ∧ (x212, x213, x215) = j210) ?_ ?_)
     ·refine cw_cond rfl (fun hc220 => ?_) (fun hc220 => ?_)
      ·replace h211 := cdT hc220 h211
       refine cw_seq (cw_regF (s_mv rfl rfl (s_mv rfl rfl ?_)))
       refine s_bd [(0, 1), (1, 1)] Tryd.zeroValue40 rfl Tryd.underlying40 (fun _ => by simp [Tryd.sizeOf3]) rfl (Cls.cons rfl (Cls.cons rfl (Cls.nil))) rfl rfl ?_
       refine y_st 0 hI83 rfl rfl rfl rfl Tryd.sizeOf40 rfl rfl (on2 rfl rfl) ?_
       intro w221 hI222 x223
       refine Reg.nil (cw_regF (s_as rfl rfl (Reg.nil ?_)))
       obtain rfl := Option.some.inj h211
       refine ⟨rfl, (false, x80, x80), ⟨hI222, x223, r81, r81, rfl⟩, sb7 rfl rfl rfl rfl rfl rfl rfl⟩
      replace h211 := cdF hc220 h211
      refine cw_skip ?_
      obtain rfl := Option.some.inj h211
      refine ⟨rfl, (x18, x21, x23), ⟨hI83, (Adv.refl _ _), r22, r24, rfl⟩, sb7 rfl rfl rfl rfl rfl rfl rfl⟩
     rintro ⟨x212, x213, x215⟩ w217 ⟨hI218, hA219, r214, r216, rfl⟩
     obtain rfl := Option.some.inj h201
     refine ⟨rfl, (x212, x213, x215), ⟨hI218, hA219, r214, r216, rfl⟩, sb7 rfl rfl rfl rfl rfl rfl rfl⟩
    rintro ⟨x202, x203, x205⟩ w207 ⟨hI208, hA209, r204, r206, rfl⟩
    refine cw_regF (s_fa rfl Tryd.underlying40 rfl Tryd.sizeOf3 rfl (s_ld rfl ((hI208.row 0 rfl).rd.cells.at 0 rfl) Tryd.isAgg3 rfl (s_mv rfl rfl (s_min rfl rfl rfl ?_))))
    refine s_fa rfl Tryd.underlying40 rfl Tryd.sizeOf3 rfl (s_ld rfl ((hI208.row 0 rfl).rd.cells.at 1 rfl) Tryd.isAgg3 rfl (s_mv rfl rfl (s_max rfl rfl rfl ?_)))
    refine s_bd [(0, 1), (1, 1)] Tryd.zeroValue40 rfl Tryd.underlying40 (fun _ => by simp [Tryd.sizeOf3]) rfl (Cls.cons rfl (Cls.cons rfl (Cls.nil))) rfl rfl ?_
    refine y_st 0 hI208 rfl rfl rfl rfl Tryd.sizeOf40 rfl rfl (on2 rfl rfl) ?_
    intro w224 hI225 x226
    refine Reg.nil ?_
    obtain rfl := Option.some.inj h33
    refine ⟨rfl, (x202, min x203 x80, max x205 x80), ⟨hI225, (hA84.trans (hA209.trans x226)), (InK.imin r204 r81), (InK.imax r206 r81), rfl⟩, sb6 rfl rfl rfl rfl rfl rfl⟩
   rintro ⟨x34, x35, x37⟩ w39 ⟨hI40, hA41, r36, r38, rfl⟩
   refine cw_regF (s_mv rfl rfl ?_)
   obtain ⟨n227, hn227, h29⟩ := bnd h29
   replace hn227 := chk_out hn227
   refine p_add rfl rfl rfl hn227 (s_as rfl rfl (Reg.nil ?_))
   obtain rfl := Option.some.inj h29
   refine ⟨rfl, (x34, n227, x35, x37), ⟨⟨hI40, (hA27.trans hA41), hn227.2, r36, r38⟩, rfl⟩, sb6 rfl rfl rfl rfl rfl rfl⟩
  replace h29 := cdF hc31 h29
  refine cw_exit (exB_same ?_)
  obtain rfl := Option.some.inj h29
  obtain rfl := hR30 _ rfl
  refine ⟨rfl, (x21, x23), ⟨hI26, hA27, r22, r24, rfl⟩, sb2 rfl rfl⟩
 rintro ⟨x11, x13⟩ w15 ⟨hI16, hA17, r12, r14, rfl⟩
 refine cw_seq (cw_regF (s_lda rfl (hI16.row 0 rfl).rd.cells Tryd.isAgg40 rfl Tryd.sizeOf40 rfl (y_st 1 hI16 rfl rfl rfl rfl Tryd.sizeOf40 rfl rfl (on2 rfl rfl) ?_)))
 intro w228 hI229 x230
 refine Reg.nil (cw_ret ?_)
 obtain rfl := Option.some.inj h
 refine fin_any Tryd.results64 (AllRs.cons (RsOk.agg rfl (hI229.row 1 rfl).rd.cells Tryd.isAgg40 rfl Tryd.sizeOf40) (AllRs.nil)) rfl ?_
 exact ⟨rfl, r12, r14, hI229.kp⟩
noncomputable def P.ref03_once (l : (List Report)) (kind : Int) : Option Told :=
  Option.bind (loopM (S := Int × Int × Int × Int × Int × (List Int)) (R := (Int × Int × Int × (List Int))) (fun (x9, x10, x11, x12, x13, x14) => cond (decide (x10 < (l.length : Int))) (Option.bind (Option.bind (ixo l x10) fun y16 => cond (!decide (y16.kind = kind)) (some (x9, x11, x12, x13, x14)) (Option.bind (Option.bind (cond (decide (x11 = 0)) (some (y16.about, 2, y16.cents, y16.about, [])) (some (x9, x11, x12, x13, x14))) fun (x44, x45, x46, x47, x48) => some (x44, x45, x46, x47, x48)) fun (x49, x50, x51, x52, x53) => Option.bind (Option.bind (cond (decide (x50 = 2)) (cond (!decide (y16.cents = x51)) (some true) (some (!decide (y16.about = x49)))) (some false)) fun x56 => Option.bind (cond x56 (some (1, 0)) (some (x50, x51))) fun (x64, x65) => some (x64, x65)) fun (x66, x67) => Option.bind (P.ref03_put x53 y16.id) fun z71 => some (x49, x66, x67, min x52 y16.about, z71))) fun (x81, x82, x83, x84, x85) => Option.bind (chk .i64 (x10 + 1)) fun n86 => some (.inl (x81, n86, x82, x83, x84, x85))) (some (.inr (x11, x12, x13, x14)))) (0, 0, 0, 0, 0, [])) fun (x87, x88, x89, x90) => some (Told.mk x87 x88 x89 x90)
theorem C_ref03_once {M : List Nat} {w : World} (hM : MLt M w) {l : (List Report)} {v_l_0 : Value} (f_l_0 : RdS ReportE M w v_l_0 l) {kind : Int} (f_kind_0 : InK .u8 kind) {r0 : Told} (h : P.ref03_once l kind = some r0) :
  Calls Tryd.prog 62 (List.toArray [v_l_0, vu kind]) w fun e w' => ∃ v0_3 : Value, e = .returned (Value.agg (List.toArray (tV r0 v0_3 []))) ∧ InK .u8 r0.known ∧ InK .i64 r0.cents ∧ InK .i64 r0.since ∧ RdS (intE .i64) M w' v0_3 r0.by_ ∧ Ext w w' := by
 have hI := Hp.start (Mu := []) hM
 refine calls_cw Tryd.func62 rfl Tryd.ntmps62 rfl ?_
 refine cw_seq (cw_regF (y_al hI Tryd.zeroValue38 rfl rfl ?_))
 intro b1 w2 hI3 x4
 refine Reg.nil (cw_seq (cw_regF (y_al hI3 Tryd.zeroValue38 rfl rfl ?_)))
 intro b5 w6 hI7 x8
 refine Reg.nil (cw_seq (cw_regF (s_as rfl rfl (Reg.nil (cw_seq (cw_seq (cw_regF (s_as rfl rfl (Reg.nil ?_)))))))))
 obtain ⟨j9, h10, h⟩ := bnd h
 refine cw_keep [0, 1, 6, 7, 4, 5] rfl (cw_unitD 4 (ι := Int × Int × Int × (List Int) × Value) (fun ⟨x11, x13, x15, x17, v18⟩ => []) (fun ⟨x11, x13, x15, x17, v18⟩ => fun w19 => Hp w [] M [ownR [] (intE .i64) 3 v18 x17, rowR 38 b5 [vu x11, vi x13, vi x15, v18], rowR 38 b1 (tZ [])] w19 ∧ Adv (mm [rowR 38 b5 (tZ []), rowR 38 b1 (tZ [])] M) (mm [ownR [] (intE .i64) 3 v18 x17, rowR 38 b5 [vu x11, vi x13, vi x15, v18], rowR 38 b1 (tZ [])] M) w6 w19 ∧ InK .u8 x11 ∧ InK .i64 x13 ∧ InK .i64 x15 ∧ (x11, x13, x15, x17) = j9) ?_ ?_)
 ·refine cw_block (cw_keep [6, 7, 0, 1, 4, 5] rfl ?_)
  have hI37 := hI7.addNil (intE .i64) 3
  refine cw_loopM 2 (ι := Int × Int × Int × Int × Int × (List Int) × Value) _ (fun ⟨x22, x24, x26, x28, x30, x32, v33⟩ => [(6, vi x22), (7, vi x24)]) (fun ⟨x22, x24, x26, x28, x30, x32, v33⟩ => (x22, x24, x26, x28, x30, x32)) (fun ⟨x22, x24, x26, x28, x30, x32, v33⟩ => fun w34 => Hp w [] M [ownR [] (intE .i64) 3 v33 x32, rowR 38 b5 [vu x26, vi x28, vi x30, v33], rowR 38 b1 (tZ [])] w34 ∧ Adv (mm [rowR 38 b5 (tZ []), rowR 38 b1 (tZ [])] M) (mm [ownR [] (intE .i64) 3 v33 x32, rowR 38 b5 [vu x26, vi x28, vi x30, v33], rowR 38 b1 (tZ [])] M) w6 w34 ∧ InK .i64 x22 ∧ InK .i64 x24 ∧ InK .u8 x26 ∧ InK .i64 x28 ∧ InK .i64 x30) (0, 0, 0, 0, 0, ([] : List Int), (vn)) h10 ⟨hI37, (hI7.addNilH (intE .i64) 3), (by decide), (by decide), (by decide), (by decide), (by decide)⟩ (sb6 rfl rfl rfl rfl rfl rfl) ?_
  rintro ⟨x22, x24, x26, x28, x30, x32, v33⟩ w34 ⟨hI35, hA36, r23, r25, r27, r29, r31⟩ y38 h39 hR40
  refine cw_seq (cw_seq (cw_regF (s_mv rfl rfl (s_mv rfl rfl (s_len rfl (f_l_0.adv hI35.adv) Tryd.underlying22 rfl (s_lss rfl rfl rfl (Reg.nil (cw_cond rfl (fun hc41 => ?_) (fun hc41 => ?_)))))))))
  ·replace h39 := cdT hc41 h39
   refine cw_skip ?_
   obtain ⟨j42, h43, h39⟩ := bnd h39
   refine cw_keep [6, 0, 1, 4, 5, 7] rfl (cw_seqD 1 (ι := Int × Int × Int × Int × (List Int) × Value) (fun ⟨x44, x46, x48, x50, x52, v53⟩ => [(6, vi x44)]) (fun ⟨x44, x46, x48, x50, x52, v53⟩ => fun w54 => Hp w [] M [ownR [] (intE .i64) 3 v53 x52, rowR 38 b5 [vu x46, vi x48, vi x50, v53], rowR 38 b1 (tZ [])] w54 ∧ Adv (mm [ownR [] (intE .i64) 3 v33 x32, rowR 38 b5 [vu x26, vi x28, vi x30, v33], rowR 38 b1 (tZ [])] M) (mm [ownR [] (intE .i64) 3 v53 x52, rowR 38 b5 [vu x46, vi x48, vi x50, v53], rowR 38 b1 (tZ [])] M) w34 w54 ∧ InK .i64 x44 ∧ InK .u8 x46 ∧ InK .i64 x48 ∧ InK .i64 x50 ∧ (x44, x46, x48, x50, x52) = j42) ?_ ?_)
   ·refine cw_block (cw_seq (cw_regF (s_mv rfl rfl (s_mv rfl rfl ?_))))
    obtain ⟨y57, hy57, h43⟩ := bnd h43
    refine p_ia rfl rfl (f_l_0.adv hI35.adv) hy57 Tryd.underlying22 Tryd.sizeOf61 rfl ?_
    intro b58 o59 cs60 hR61 hC62
    obtain ⟨rfl, r63, r64, r65, r66, r67, r68, r69, r70⟩ := ReportE_R.1 hR61
    refine s_lda rfl hC62.cells Tryd.isAgg61 rfl Tryd.sizeOf61 rfl (y_al hI35 Tryd.zeroValue61 rfl rfl ?_)
    intro b71 w72 hI73 x74
    refine y_st 0 hI73 rfl rfl rfl rfl Tryd.sizeOf61 rfl rfl (on8 rfl rfl rfl rfl rfl rfl rfl rfl) ?_
    intro w75 hI76 x77
    have hC79 := hI76.freezeRow 0 rfl
    have hI78 := hI76.erase 0
    refine Reg.nil (cw_seq (cw_seq (cw_regF (s_fa rfl Tryd.underlying61 rfl Tryd.sizeOf5 rfl (s_ld rfl (hC79.cells.at 5 rfl) Tryd.isAgg5 rfl (s_mv rfl rfl (s_neq rfl rfl rfl (Reg.nil (cw_cond rfl (fun hc80 => ?_) (fun hc80 => ?_))))))))))
    ·replace h43 := cdT hc80 h43
     refine cw_exit (exB_same ?_)
     obtain rfl := Option.some.inj h43
     refine ⟨rfl, (x22, x26, x28, x30, x32, v33), ⟨hI78, (x74.trans (x77.trans (hI76.eraseH 0))), r23, r27, r29, r31, rfl⟩, sb6 rfl rfl rfl rfl rfl rfl⟩
    replace h43 := cdF hc80 h43
    refine cw_skip ?_
    obtain ⟨j81, h82, h43⟩ := bnd h43
    refine cw_keep [6, 0, 1, 4, 5, 7, 8] rfl (cw_seqD 1 (ι := Int × Int × Int × Int × (List Int) × Value) (fun ⟨x83, x85, x87, x89, x91, v92⟩ => [(6, vi x83)]) (fun ⟨x83, x85, x87, x89, x91, v92⟩ => fun w93 => Hp w [] M [ownR [] (intE .i64) 3 v92 x91, rowR 38 b5 [vu x85, vi x87, vi x89, v92], rowR 38 b1 (tZ [])] w93 ∧ Adv (mm [ownR [] (intE .i64) 3 v33 x32, rowR 38 b5 [vu x26, vi x28, vi x30, v33], rowR 38 b1 (tZ [])] M) (mm [ownR [] (intE .i64) 3 v92 x91, rowR 38 b5 [vu x85, vi x87, vi x89, v92], rowR 38 b1 (tZ [])] M) w75 w93 ∧ InK .i64 x83 ∧ InK .u8 x85 ∧ InK .i64 x87 ∧ InK .i64 x89 ∧ (x83, x85, x87, x89, x91) = j81) ?_ ?_)
    ·refine cw_seq (cw_regF (s_fa rfl Tryd.underlying38 rfl Tryd.sizeOf5 rfl (s_ld rfl ((hI78.row 1 rfl).rd.cells.at 0 rfl) Tryd.isAgg5 rfl (s_eql rfl rfl rfl (Reg.nil ?_)))))
     obtain ⟨j96, h97, h82⟩ := bnd h82
     refine cw_keep [6, 25, 0, 1, 4, 5, 7, 8] rfl (cw_unitD 2 (ι := Int × Int × Int × Int × (List Int) × Value) (fun ⟨x98, x100, x102, x104, x106, v107⟩ => [(6, vi x98)]) (fun ⟨x98, x100, x102, x104, x106, v107⟩ => fun w108 => Hp w [] M [ownR [] (intE .i64) 3 v107 x106, rowR 38 b5 [vu x100, vi x102, vi x104, v107], rowR 38 b1 (tZ [])] w108 ∧ Adv (mm [ownR [] (intE .i64) 3 v33 x32, rowR 38 b5 [vu x26, vi x28, vi x30, v33], rowR 38 b1 (tZ [])] M) (mm [ownR [] (intE .i64) 3 v107 x106, rowR 38 b5 [vu x100, vi x102, vi x104, v107], rowR 38 b1 (tZ [])] M) w75 w108 ∧ InK .i64 x98 ∧ InK .u8 x100 ∧ InK .i64 x102 ∧ InK .i64 x104 ∧ (x98, x100, x102, x104, x106) = j96) ?_ ?_)
     ·refine cw_cond rfl (fun hc111 => ?_) (fun hc111 => ?_)
      ·replace h97 := cdT hc111 h97
       refine cw_seq (cw_regF (s_fa rfl Tryd.underlying61 rfl Tryd.sizeOf3 rfl (s_ld rfl (hC79.cells.at 6 rfl) Tryd.isAgg3 rfl (s_fa rfl Tryd.underlying61 rfl Tryd.sizeOf3 rfl (s_ld rfl (hC79.cells.at 4 rfl) Tryd.isAgg3 rfl ?_)))))
       refine s_bd [(0, 1), (1, 1), (2, 1), (3, 1)] Tryd.zeroValue38 rfl Tryd.underlying38 (fun _ => by simp [Tryd.sizeOf3, Tryd.sizeOf36, Tryd.sizeOf5]) rfl (Cls.cons rfl (Cls.cons rfl (Cls.cons rfl (Cls.nil)))) rfl rfl ?_
       refine y_st 1 hI78 rfl rfl rfl rfl Tryd.sizeOf38 rfl rfl (on4 rfl rfl rfl rfl) ?_
       intro w112 hI113 x114
       refine Reg.nil (cw_regF (s_fa rfl Tryd.underlying61 rfl Tryd.sizeOf3 rfl (s_ld rfl ((hC79.adv x114).cells.at 4 rfl) Tryd.isAgg3 rfl (s_as rfl rfl (Reg.nil ?_)))))
       obtain rfl := Option.some.inj h97
       have hI115 := hI113.addNil (intE .i64) 3
       refine ⟨rfl, (y57.about, 2, y57.cents, y57.about, ([] : List Int), (vn)), ⟨(hI115.sel [0, 2, 3] rfl), ((x114.trans (hI113.addNilH (intE .i64) 3)).trans (Hp.selA (σ := [ownR [] (intE .i64) 3 (vn) ([] : List Int), ownR [] (intE .i64) 3 v33 x32, rowR 38 b5 [vu 2, vi y57.cents, vi y57.about, (vn)], rowR 38 b1 (tZ [])]) [0, 2, 3])), r67, (by decide), r69, r67, rfl⟩, sb7 rfl rfl rfl rfl rfl rfl rfl⟩
      replace h97 := cdF hc111 h97
      refine cw_skip ?_
      obtain rfl := Option.some.inj h97
      refine ⟨rfl, (x22, x26, x28, x30, x32, v33), ⟨hI78, (Adv.refl _ _), r23, r27, r29, r31, rfl⟩, sb7 rfl rfl rfl rfl rfl rfl rfl⟩
     rintro ⟨x98, x100, x102, x104, x106, v107⟩ w108 ⟨hI109, hA110, r99, r101, r103, r105, rfl⟩
     obtain rfl := Option.some.inj h82
     refine ⟨rfl, (x98, x100, x102, x104, x106, v107), ⟨hI109, hA110, r99, r101, r103, r105, rfl⟩, sb7 rfl rfl rfl rfl rfl rfl rfl⟩
    rintro ⟨x83, x85, x87, x89, x91, v92⟩ w93 ⟨hI94, hA95, r84, r86, r88, r90, rfl⟩
    obtain ⟨j116, h117, h43⟩ := bnd h43
    refine cw_keep [0, 1, 4, 5, 6, 7, 8] rfl (cw_seqD 0 (ι := Int × Int) (fun ⟨x118, x120⟩ => []) (fun ⟨x118, x120⟩ => fun w122 => Hp w [] M [ownR [] (intE .i64) 3 v92 x91, rowR 38 b5 [vu x118, vi x120, vi x89, v92], rowR 38 b1 (tZ [])] w122 ∧ Adv (mm [ownR [] (intE .i64) 3 v92 x91, rowR 38 b5 [vu x85, vi x87, vi x89, v92], rowR 38 b1 (tZ [])] M) (mm [ownR [] (intE .i64) 3 v92 x91, rowR 38 b5 [vu x118, vi x120, vi x89, v92], rowR 38 b1 (tZ [])] M) w93 w122 ∧ InK .u8 x118 ∧ InK .i64 x120 ∧ (x118, x120) = j116) ?_ ?_)
    ·obtain ⟨j125, h126, h117⟩ := bnd h117
     refine cw_keep [0, 1, 4, 5, 6, 7, 8] rfl (cw_seqD 0 (ι := Bool) (fun x127 => [(48, Value.bool x127)]) (fun x127 => fun w128 => w93 = w128 ∧ x127 = j125) ?_ ?_)
     ·refine cw_regF (s_fa rfl Tryd.underlying38 rfl Tryd.sizeOf5 rfl (s_ld rfl ((hI94.row 1 rfl).rd.cells.at 0 rfl) Tryd.isAgg5 rfl (s_eql rfl rfl rfl (s_mv rfl rfl (Reg.gsplit (t := 36) rfl (fun hg131 => ?_) (fun hg131 => ?_))))))
      ·replace h126 := cdT hg131 h126
       refine Reg.take rfl rfl (s_fa rfl Tryd.underlying61 rfl Tryd.sizeOf3 rfl (Reg.take rfl rfl (s_ld rfl ((hC79.adv hA95).cells.at 6 rfl) Tryd.isAgg3 rfl (Reg.take rfl rfl (s_fa rfl Tryd.underlying38 rfl Tryd.sizeOf3 rfl (Reg.take rfl rfl (s_ld rfl ((hI94.row 1 rfl).rd.cells.at 1 rfl) Tryd.isAgg3 rfl (Reg.take rfl rfl (s_neq rfl rfl rfl (Reg.take rfl rfl (s_mv rfl rfl ?_)))))))))))
       refine Reg.gsplit (t := 42) rfl (fun hg132 => ?_) (fun hg132 => ?_)
       ·replace h126 := cdT hg132 h126
        iterate 4 refine Reg.pass rfl rfl rfl rfl ?_
        refine Reg.take rfl rfl (s_pkT rfl rfl rfl (s_pkT rfl rfl rfl (Reg.nil ?_)))
        obtain rfl := Option.some.inj h126
        refine ⟨rfl, true, ⟨rfl, rfl⟩, sb8 rfl rfl rfl rfl rfl rfl rfl rfl⟩
       replace h126 := cdF hg132 h126
       refine Reg.take rfl rfl (s_fa rfl Tryd.underlying61 rfl Tryd.sizeOf3 rfl (Reg.take rfl rfl (s_ld rfl ((hC79.adv hA95).cells.at 4 rfl) Tryd.isAgg3 rfl (Reg.take rfl rfl (s_mv rfl rfl (Reg.take rfl rfl (s_neq rfl rfl rfl (Reg.take rfl rfl (s_pkF rfl rfl rfl (s_pkT rfl rfl rfl (Reg.nil ?_)))))))))))
       obtain rfl := Option.some.inj h126
       refine ⟨rfl, !decide (y57.about = x83), ⟨rfl, rfl⟩, sb8 rfl rfl rfl rfl rfl rfl rfl rfl⟩
      replace h126 := cdF hg131 h126
      iterate 6 refine Reg.pass rfl rfl rfl rfl ?_
      iterate 4 refine Reg.passU rfl rfl rfl ?_
      refine Reg.pass rfl rfl rfl rfl (s_pkF rfl rfl rfl (Reg.nil ?_))
      obtain rfl := Option.some.inj h126
      refine ⟨rfl, false, ⟨rfl, rfl⟩, sb8 rfl rfl rfl rfl rfl rfl rfl rfl⟩
     rintro x127 _ ⟨rfl, rfl⟩
     obtain ⟨j133, h134, h117⟩ := bnd h117
     refine cw_keep [48, 0, 1, 4, 5, 6, 7, 8] rfl (cw_unitD 1 (ι := Int × Int) (fun ⟨x135, x137⟩ => []) (fun ⟨x135, x137⟩ => fun w139 => Hp w [] M [ownR [] (intE .i64) 3 v92 x91, rowR 38 b5 [vu x135, vi x137, vi x89, v92], rowR 38 b1 (tZ [])] w139 ∧ Adv (mm [ownR [] (intE .i64) 3 v92 x91, rowR 38 b5 [vu x85, vi x87, vi x89, v92], rowR 38 b1 (tZ [])] M) (mm [ownR [] (intE .i64) 3 v92 x91, rowR 38 b5 [vu x135, vi x137, vi x89, v92], rowR 38 b1 (tZ [])] M) w93 w139 ∧ InK .u8 x135 ∧ InK .i64 x137 ∧ (x135, x137) = j133) ?_ ?_)
     ·refine cw_cond rfl (fun hc142 => ?_) (fun hc142 => ?_)
      ·replace h134 := cdT hc142 h134
       refine cw_regF (s_fa rfl Tryd.underlying38 rfl Tryd.sizeOf5 rfl (y_st 1 hI94 rfl rfl rfl rfl Tryd.sizeOf5 rfl rfl (one1 rfl one0) ?_))
       intro w143 hI144 x145
       refine s_fa rfl Tryd.underlying38 rfl Tryd.sizeOf3 rfl (y_st 1 hI144 rfl rfl rfl rfl Tryd.sizeOf3 rfl rfl (one1 rfl one0) ?_)
       intro w146 hI147 x148
       refine Reg.nil ?_
       obtain rfl := Option.some.inj h134
       refine ⟨rfl, (1, 0), ⟨hI147, (x145.trans x148), (by decide), (by decide), rfl⟩, sb7 rfl rfl rfl rfl rfl rfl rfl⟩
      replace h134 := cdF hc142 h134
      refine cw_skip ?_
      obtain rfl := Option.some.inj h134
      refine ⟨rfl, (x85, x87), ⟨hI94, (Adv.refl _ _), r86, r88, rfl⟩, sb7 rfl rfl rfl rfl rfl rfl rfl⟩
     rintro ⟨x135, x137⟩ w139 ⟨hI140, hA141, r136, r138, rfl⟩
     obtain rfl := Option.some.inj h117
     refine ⟨rfl, (x135, x137), ⟨hI140, hA141, r136, r138, rfl⟩, sb7 rfl rfl rfl rfl rfl rfl rfl⟩
    rintro ⟨x118, x120⟩ w122 ⟨hI123, hA124, r119, r121, rfl⟩
    refine cw_seq (cw_regF (s_fa rfl Tryd.underlying38 rfl Tryd.sizeOf3 rfl (s_ld rfl ((hI123.row 1 rfl).rd.cells.at 2 rfl) Tryd.isAgg3 rfl (s_fa rfl Tryd.underlying61 rfl Tryd.sizeOf3 rfl (s_ld rfl ((hC79.adv (hA95.trans hA124)).cells.at 4 rfl) Tryd.isAgg3 rfl (s_min rfl rfl rfl ?_))))))
    refine s_fa rfl Tryd.underlying38 rfl Tryd.sizeOf3 rfl (y_st 1 hI123 rfl rfl rfl rfl Tryd.sizeOf3 rfl rfl (one1 rfl one0) ?_)
    intro w149 hI150 x151
    refine Reg.nil (cw_regF (s_fa rfl Tryd.underlying38 rfl Tryd.sizeOf36 rfl (s_ld rfl ((hI150.row 1 rfl).rd.cells.at 3 rfl) Tryd.isAgg36 rfl (s_fa rfl Tryd.underlying61 rfl Tryd.sizeOf3 rfl (s_ld rfl ((hC79.adv (hA95.trans (hA124.trans x151))).cells.at 0 rfl) Tryd.isAgg3 rfl ?_)))))
    obtain ⟨z152, hz153, h43⟩ := bnd h43
    refine s_call rfl Tryd.call63 rfl ((C_ref03_put (hI150.erase 0).mlt (hI150.apart 0 rfl) (hI150.lendOwn 0 rfl) r63 hz153).mono ?_)
    rintro _ w154 ⟨v156, rfl, hf157⟩
    refine ⟨_, rfl, ?_⟩
    have hI158 := hI150.took 0 rfl hf157
    refine s_fa rfl Tryd.underlying38 rfl Tryd.sizeOf36 rfl (y_st 1 hI158 rfl rfl rfl (Own.cells1 (hI158.ownAt 0 rfl)) Tryd.sizeOf36 rfl rfl (one1 (Own.oneC (hI158.ownAt 0 rfl)) one0) ?_)
    intro w159 hI160 x161
    refine Reg.nil ?_
    obtain rfl := Option.some.inj h43
    refine ⟨rfl, (x83, x118, x120, min x89 y57.about, z152, v156), ⟨hI160, (x74.trans (x77.trans ((hI76.eraseH 0).trans (hA95.trans (hA124.trans (x151.trans ((hI150.tookA 0 rfl hf157).trans x161))))))), r84, r119, r121, (InK.imin r90 r67), rfl⟩, sb6 rfl rfl rfl rfl rfl rfl⟩
   rintro ⟨x44, x46, x48, x50, x52, v53⟩ w54 ⟨hI55, hA56, r45, r47, r49, r51, rfl⟩
   refine cw_regF (s_mv rfl rfl ?_)
   obtain ⟨n162, hn162, h39⟩ := bnd h39
   replace hn162 := chk_out hn162
   refine p_add rfl rfl rfl hn162 (s_as rfl rfl (Reg.nil ?_))
   obtain rfl := Option.some.inj h39
   refine ⟨rfl, (x44, n162, x46, x48, x50, x52, v53), ⟨⟨hI55, (hA36.trans hA56), r45, hn162.2, r47, r49, r51⟩, rfl⟩, sb6 rfl rfl rfl rfl rfl rfl⟩
  replace h39 := cdF hc41 h39
  refine cw_exit (exB_same ?_)
  obtain rfl := Option.some.inj h39
  obtain rfl := hR40 _ rfl
  refine ⟨rfl, (x26, x28, x30, x32, v33), ⟨hI35, hA36, r27, r29, r31, rfl⟩, sb2 rfl rfl⟩
 rintro ⟨x11, x13, x15, x17, v18⟩ w19 ⟨hI20, hA21, r12, r14, r16, rfl⟩
 refine cw_seq (cw_regF (s_lda rfl (hI20.row 1 rfl).rd.cells Tryd.isAgg38 rfl Tryd.sizeOf38 rfl (y_st 2 hI20 rfl rfl rfl rfl Tryd.sizeOf38 rfl rfl (one1 rfl (one1 rfl (one1 rfl (one1 (Own.oneC (hI20.ownAt 0 rfl)) one0)))) ?_)))
 intro w163 hI164 x165
 refine Reg.nil (cw_ret ?_)
 obtain rfl := Option.some.inj h
 have hf166 := hI164.freeze 0 rfl
 have hI167 := hI164.erase 0
 refine fin_any Tryd.results62 (AllRs.cons (RsOk.agg rfl (hI167.row 1 rfl).rd.cells Tryd.isAgg38 rfl Tryd.sizeOf38) (AllRs.nil)) rfl ?_
 exact ⟨_, rfl, r12, r14, r16, (hf166.adv hI167.baseH), hI167.kp⟩
noncomputable def P.ref03_last (l : (List Report)) (kind : Int) : Option Told :=
  Option.bind (loopM (S := Int × Int × Int × Int × (List Int)) (R := (Int × Int × Int × (List Int))) (fun (x9, x10, x11, x12, x13) => cond (decide (x9 < (l.length : Int))) (Option.bind (Option.bind (ixo l x9) fun y15 => cond (!decide (y15.kind = kind)) (some (x10, x11, x12, x13)) (Option.bind (Option.bind (cond (decide (x10 = 0)) (some true) (some (decide (x12 < y15.about)))) fun x40 => Option.bind (cond x40 (some (2, y15.cents, y15.about, [])) (some (x10, x11, x12, x13))) fun (x45, x46, x47, x48) => some (x45, x46, x47, x48)) fun (x49, x50, x51, x52) => Option.bind (Option.bind (cond (!decide (y15.cents = x50)) (some (decide (x49 = 2))) (some false)) fun x54 => Option.bind (cond x54 (some (1, 0)) (some (x49, x50))) fun (x62, x63) => some (x62, x63)) fun (x64, x65) => Option.bind (P.ref03_put x52 y15.id) fun z66 => some (x64, x65, x51, z66))) fun (x76, x77, x78, x79) => Option.bind (chk .i64 (x9 + 1)) fun n80 => some (.inl (n80, x76, x77, x78, x79))) (some (.inr (x10, x11, x12, x13)))) (0, 0, 0, 0, [])) fun (x81, x82, x83, x84) => some (Told.mk x81 x82 x83 x84)
theorem C_ref03_last {M : List Nat} {w : World} (hM : MLt M w) {l : (List Report)} {v_l_0 : Value} (f_l_0 : RdS ReportE M w v_l_0 l) {kind : Int} (f_kind_0 : InK .u8 kind) {r0 : Told} (h : P.ref03_last l kind = some r0) :
  Calls Tryd.prog 87 (List.toArray [v_l_0, vu kind]) w fun e w' => ∃ v0_3 : Value, e = .returned (Value.agg (List.toArray (tV r0 v0_3 []))) ∧ InK .u8 r0.known ∧ InK .i64 r0.cents ∧ InK .i64 r0.since ∧ RdS (intE .i64) M w' v0_3 r0.by_ ∧ Ext w w' := by
 have hI := Hp.start (Mu := []) hM
 refine calls_cw Tryd.func87 rfl Tryd.ntmps87 rfl ?_
 refine cw_seq (cw_regF (y_al hI Tryd.zeroValue38 rfl rfl ?_))
 intro b1 w2 hI3 x4
 refine Reg.nil (cw_seq (cw_regF (y_al hI3 Tryd.zeroValue38 rfl rfl ?_)))
 intro b5 w6 hI7 x8
 refine Reg.nil (cw_seq (cw_seq (cw_regF (s_as rfl rfl (Reg.nil ?_)))))
 obtain ⟨j9, h10, h⟩ := bnd h
 refine cw_keep [0, 1, 6, 4, 5] rfl (cw_unitD 3 (ι := Int × Int × Int × (List Int) × Value) (fun ⟨x11, x13, x15, x17, v18⟩ => []) (fun ⟨x11, x13, x15, x17, v18⟩ => fun w19 => Hp w [] M [ownR [] (intE .i64) 3 v18 x17, rowR 38 b5 [vu x11, vi x13, vi x15, v18], rowR 38 b1 (tZ [])] w19 ∧ Adv (mm [rowR 38 b5 (tZ []), rowR 38 b1 (tZ [])] M) (mm [ownR [] (intE .i64) 3 v18 x17, rowR 38 b5 [vu x11, vi x13, vi x15, v18], rowR 38 b1 (tZ [])] M) w6 w19 ∧ InK .u8 x11 ∧ InK .i64 x13 ∧ InK .i64 x15 ∧ (x11, x13, x15, x17) = j9) ?_ ?_)
 ·refine cw_block (cw_keep [6, 0, 1, 4, 5] rfl ?_)
  have hI35 := hI7.addNil (intE .i64) 3
  refine cw_loopM 1 (ι := Int × Int × Int × Int × (List Int) × Value) _ (fun ⟨x22, x24, x26, x28, x30, v31⟩ => [(6, vi x22)]) (fun ⟨x22, x24, x26, x28, x30, v31⟩ => (x22, x24, x26, x28, x30)) (fun ⟨x22, x24, x26, x28, x30, v31⟩ => fun w32 => Hp w [] M [ownR [] (intE .i64) 3 v31 x30, rowR 38 b5 [vu x24, vi x26, vi x28, v31], rowR 38 b1 (tZ [])] w32 ∧ Adv (mm [rowR 38 b5 (tZ []), rowR 38 b1 (tZ [])] M) (mm [ownR [] (intE .i64) 3 v31 x30, rowR 38 b5 [vu x24, vi x26, vi x28, v31], rowR 38 b1 (tZ [])] M) w6 w32 ∧ InK .i64 x22 ∧ InK .u8 x24 ∧ InK .i64 x26 ∧ InK .i64 x28) (0, 0, 0, 0, ([] : List Int), (vn)) h10 ⟨hI35, (hI7.addNilH (intE .i64) 3), (by decide), (by decide), (by decide), (by decide)⟩ (sb5 rfl rfl rfl rfl rfl) ?_
  rintro ⟨x22, x24, x26, x28, x30, v31⟩ w32 ⟨hI33, hA34, r23, r25, r27, r29⟩ y36 h37 hR38
  refine cw_seq (cw_seq (cw_regF (s_mv rfl rfl (s_mv rfl rfl (s_len rfl (f_l_0.adv hI33.adv) Tryd.underlying22 rfl (s_lss rfl rfl rfl (Reg.nil (cw_cond rfl (fun hc39 => ?_) (fun hc39 => ?_)))))))))
  ·replace h37 := cdT hc39 h37
   refine cw_skip ?_
   obtain ⟨j40, h41, h37⟩ := bnd h37
   refine cw_keep [0, 1, 4, 5, 6] rfl (cw_seqD 0 (ι := Int × Int × Int × (List Int) × Value) (fun ⟨x42, x44, x46, x48, v49⟩ => []) (fun ⟨x42, x44, x46, x48, v49⟩ => fun w50 => Hp w [] M [ownR [] (intE .i64) 3 v49 x48, rowR 38 b5 [vu x42, vi x44, vi x46, v49], rowR 38 b1 (tZ [])] w50 ∧ Adv (mm [ownR [] (intE .i64) 3 v31 x30, rowR 38 b5 [vu x24, vi x26, vi x28, v31], rowR 38 b1 (tZ [])] M) (mm [ownR [] (intE .i64) 3 v49 x48, rowR 38 b5 [vu x42, vi x44, vi x46, v49], rowR 38 b1 (tZ [])] M) w32 w50 ∧ InK .u8 x42 ∧ InK .i64 x44 ∧ InK .i64 x46 ∧ (x42, x44, x46, x48) = j40) ?_ ?_)
   ·refine cw_block (cw_seq (cw_regF (s_mv rfl rfl (s_mv rfl rfl ?_))))
    obtain ⟨y53, hy53, h41⟩ := bnd h41
    refine p_ia rfl rfl (f_l_0.adv hI33.adv) hy53 Tryd.underlying22 Tryd.sizeOf61 rfl ?_
    intro b54 o55 cs56 hR57 hC58
    obtain ⟨rfl, r59, r60, r61, r62, r63, r64, r65, r66⟩ := ReportE_R.1 hR57
    refine s_lda rfl hC58.cells Tryd.isAgg61 rfl Tryd.sizeOf61 rfl (y_al hI33 Tryd.zeroValue61 rfl rfl ?_)
    intro b67 w68 hI69 x70
    refine y_st 0 hI69 rfl rfl rfl rfl Tryd.sizeOf61 rfl rfl (on8 rfl rfl rfl rfl rfl rfl rfl rfl) ?_
    intro w71 hI72 x73
    have hC75 := hI72.freezeRow 0 rfl
    have hI74 := hI72.erase 0
    refine Reg.nil (cw_seq (cw_seq (cw_regF (s_fa rfl Tryd.underlying61 rfl Tryd.sizeOf5 rfl (s_ld rfl (hC75.cells.at 5 rfl) Tryd.isAgg5 rfl (s_mv rfl rfl (s_neq rfl rfl rfl (Reg.nil (cw_cond rfl (fun hc76 => ?_) (fun hc76 => ?_))))))))))
    ·replace h41 := cdT hc76 h41
     refine cw_exit (exB_same ?_)
     obtain rfl := Option.some.inj h41
     refine ⟨rfl, (x24, x26, x28, x30, v31), ⟨hI74, (x70.trans (x73.trans (hI72.eraseH 0))), r25, r27, r29, rfl⟩, sb5 rfl rfl rfl rfl rfl⟩
    replace h41 := cdF hc76 h41
    refine cw_skip ?_
    obtain ⟨j77, h78, h41⟩ := bnd h41
    refine cw_keep [0, 1, 4, 5, 6, 7] rfl (cw_seqD 0 (ι := Int × Int × Int × (List Int) × Value) (fun ⟨x79, x81, x83, x85, v86⟩ => []) (fun ⟨x79, x81, x83, x85, v86⟩ => fun w87 => Hp w [] M [ownR [] (intE .i64) 3 v86 x85, rowR 38 b5 [vu x79, vi x81, vi x83, v86], rowR 38 b1 (tZ [])] w87 ∧ Adv (mm [ownR [] (intE .i64) 3 v31 x30, rowR 38 b5 [vu x24, vi x26, vi x28, v31], rowR 38 b1 (tZ [])] M) (mm [ownR [] (intE .i64) 3 v86 x85, rowR 38 b5 [vu x79, vi x81, vi x83, v86], rowR 38 b1 (tZ [])] M) w71 w87 ∧ InK .u8 x79 ∧ InK .i64 x81 ∧ InK .i64 x83 ∧ (x79, x81, x83, x85) = j77) ?_ ?_)
    ·obtain ⟨j90, h91, h78⟩ := bnd h78
     refine cw_keep [0, 1, 4, 5, 6, 7] rfl (cw_seqD 0 (ι := Bool) (fun x92 => [(31, Value.bool x92)]) (fun x92 => fun w93 => w71 = w93 ∧ x92 = j90) ?_ ?_)
     ·refine cw_regF (s_fa rfl Tryd.underlying38 rfl Tryd.sizeOf5 rfl (s_ld rfl ((hI74.row 1 rfl).rd.cells.at 0 rfl) Tryd.isAgg5 rfl (s_eql rfl rfl rfl (s_mv rfl rfl (Reg.gsplit (t := 25) rfl (fun hg96 => ?_) (fun hg96 => ?_))))))
      ·replace h91 := cdT hg96 h91
       iterate 5 refine Reg.pass rfl rfl rfl rfl ?_
       refine s_pkT rfl rfl rfl (Reg.nil ?_)
       obtain rfl := Option.some.inj h91
       refine ⟨rfl, true, ⟨rfl, rfl⟩, sb7 rfl rfl rfl rfl rfl rfl rfl⟩
      replace h91 := cdF hg96 h91
      refine Reg.take rfl rfl (s_fa rfl Tryd.underlying61 rfl Tryd.sizeOf3 rfl (Reg.take rfl rfl (s_ld rfl (hC75.cells.at 4 rfl) Tryd.isAgg3 rfl (Reg.take rfl rfl (s_fa rfl Tryd.underlying38 rfl Tryd.sizeOf3 rfl (Reg.take rfl rfl (s_ld rfl ((hI74.row 1 rfl).rd.cells.at 2 rfl) Tryd.isAgg3 rfl (Reg.take rfl rfl (s_gtr rfl rfl rfl (s_pkF rfl rfl rfl (Reg.nil ?_)))))))))))
      obtain rfl := Option.some.inj h91
      refine ⟨rfl, decide (x28 < y53.about), ⟨rfl, rfl⟩, sb7 rfl rfl rfl rfl rfl rfl rfl⟩
     rintro x92 _ ⟨rfl, rfl⟩
     obtain ⟨j97, h98, h78⟩ := bnd h78
     refine cw_keep [31, 0, 1, 4, 5, 6, 7] rfl (cw_unitD 1 (ι := Int × Int × Int × (List Int) × Value) (fun ⟨x99, x101, x103, x105, v106⟩ => []) (fun ⟨x99, x101, x103, x105, v106⟩ => fun w107 => Hp w [] M [ownR [] (intE .i64) 3 v106 x105, rowR 38 b5 [vu x99, vi x101, vi x103, v106], rowR 38 b1 (tZ [])] w107 ∧ Adv (mm [ownR [] (intE .i64) 3 v31 x30, rowR 38 b5 [vu x24, vi x26, vi x28, v31], rowR 38 b1 (tZ [])] M) (mm [ownR [] (intE .i64) 3 v106 x105, rowR 38 b5 [vu x99, vi x101, vi x103, v106], rowR 38 b1 (tZ [])] M) w71 w107 ∧ InK .u8 x99 ∧ InK .i64 x101 ∧ InK .i64 x103 ∧ (x99, x101, x103, x105) = j97) ?_ ?_)
     ·refine cw_cond rfl (fun hc110 => ?_) (fun hc110 => ?_)
      ·replace h98 := cdT hc110 h98
       refine cw_regF (s_fa rfl Tryd.underlying61 rfl Tryd.sizeOf3 rfl (s_ld rfl (hC75.cells.at 6 rfl) Tryd.isAgg3 rfl (s_fa rfl Tryd.underlying61 rfl Tryd.sizeOf3 rfl (s_ld rfl (hC75.cells.at 4 rfl) Tryd.isAgg3 rfl ?_))))
       refine s_bd [(0, 1), (1, 1), (2, 1), (3, 1)] Tryd.zeroValue38 rfl Tryd.underlying38 (fun _ => by simp [Tryd.sizeOf3, Tryd.sizeOf36, Tryd.sizeOf5]) rfl (Cls.cons rfl (Cls.cons rfl (Cls.cons rfl (Cls.nil)))) rfl rfl ?_
       refine y_st 1 hI74 rfl rfl rfl rfl Tryd.sizeOf38 rfl rfl (on4 rfl rfl rfl rfl) ?_
       intro w111 hI112 x113
       refine Reg.nil ?_
       obtain rfl := Option.some.inj h98
       have hI114 := hI112.addNil (intE .i64) 3
       refine ⟨rfl, (2, y53.cents, y53.about, ([] : List Int), (vn)), ⟨(hI114.sel [0, 2, 3] rfl), ((x113.trans (hI112.addNilH (intE .i64) 3)).trans (Hp.selA (σ := [ownR [] (intE .i64) 3 (vn) ([] : List Int), ownR [] (intE .i64) 3 v31 x30, rowR 38 b5 [vu 2, vi y53.cents, vi y53.about, (vn)], rowR 38 b1 (tZ [])]) [0, 2, 3])), (by decide), r65, r63, rfl⟩, sb6 rfl rfl rfl rfl rfl rfl⟩
      replace h98 := cdF hc110 h98
      refine cw_skip ?_
      obtain rfl := Option.some.inj h98
      refine ⟨rfl, (x24, x26, x28, x30, v31), ⟨hI74, (Adv.refl _ _), r25, r27, r29, rfl⟩, sb6 rfl rfl rfl rfl rfl rfl⟩
     rintro ⟨x99, x101, x103, x105, v106⟩ w107 ⟨hI108, hA109, r100, r102, r104, rfl⟩
     obtain rfl := Option.some.inj h78
     refine ⟨rfl, (x99, x101, x103, x105, v106), ⟨hI108, hA109, r100, r102, r104, rfl⟩, sb6 rfl rfl rfl rfl rfl rfl⟩
    rintro ⟨x79, x81, x83, x85, v86⟩ w87 ⟨hI88, hA89, r80, r82, r84, rfl⟩
    obtain ⟨j115, h116, h41⟩ := bnd h41
    refine cw_keep [0, 1, 4, 5, 6, 7] rfl (cw_seqD 0 (ι := Int × Int) (fun ⟨x117, x119⟩ => []) (fun ⟨x117, x119⟩ => fun w121 => Hp w [] M [ownR [] (intE .i64) 3 v86 x85, rowR 38 b5 [vu x117, vi x119, vi x83, v86], rowR 38 b1 (tZ [])] w121 ∧ Adv (mm [ownR [] (intE .i64) 3 v86 x85, rowR 38 b5 [vu x79, vi x81, vi x83, v86], rowR 38 b1 (tZ [])] M) (mm [ownR [] (intE .i64) 3 v86 x85, rowR 38 b5 [vu x117, vi x119, vi x83, v86], rowR 38 b1 (tZ [])] M) w87 w121 ∧ InK .u8 x117 ∧ InK .i64 x119 ∧ (x117, x119) = j115) ?_ ?_)
    ·obtain ⟨j124, h125, h116⟩ := bnd h116
     refine cw_keep [0, 1, 4, 5, 6, 7] rfl (cw_seqD 0 (ι := Bool) (fun x126 => [(46, Value.bool x126)]) (fun x126 => fun w127 => w87 = w127 ∧ x126 = j124) ?_ ?_)
     ·refine cw_regF (s_fa rfl Tryd.underlying61 rfl Tryd.sizeOf3 rfl (s_ld rfl ((hC75.adv hA89).cells.at 6 rfl) Tryd.isAgg3 rfl (s_fa rfl Tryd.underlying38 rfl Tryd.sizeOf3 rfl (s_ld rfl ((hI88.row 1 rfl).rd.cells.at 1 rfl) Tryd.isAgg3 rfl (s_neq rfl rfl rfl (s_mv rfl rfl (Reg.gsplit (t := 42) rfl (fun hg130 => ?_) (fun hg130 => ?_))))))))
      ·replace h125 := cdT hg130 h125
       refine Reg.take rfl rfl (s_fa rfl Tryd.underlying38 rfl Tryd.sizeOf5 rfl (Reg.take rfl rfl (s_ld rfl ((hI88.row 1 rfl).rd.cells.at 0 rfl) Tryd.isAgg5 rfl (Reg.take rfl rfl (s_eql rfl rfl rfl (s_pkT rfl rfl rfl (Reg.nil ?_)))))))
       obtain rfl := Option.some.inj h125
       refine ⟨rfl, decide (x79 = 2), ⟨rfl, rfl⟩, sb7 rfl rfl rfl rfl rfl rfl rfl⟩
      replace h125 := cdF hg130 h125
      iterate 3 refine Reg.pass rfl rfl rfl rfl ?_
      refine s_pkF rfl rfl rfl (Reg.nil ?_)
      obtain rfl := Option.some.inj h125
      refine ⟨rfl, false, ⟨rfl, rfl⟩, sb7 rfl rfl rfl rfl rfl rfl rfl⟩
     rintro x126 _ ⟨rfl, rfl⟩
     obtain ⟨j131, h132, h116⟩ := bnd h116
     refine cw_keep [46, 0, 1, 4, 5, 6, 7] rfl (cw_unitD 1 (ι := Int × Int) (fun ⟨x133, x135⟩ => []) (fun ⟨x133, x135⟩ => fun w137 => Hp w [] M [ownR [] (intE .i64) 3 v86 x85, rowR 38 b5 [vu x133, vi x135, vi x83, v86], rowR 38 b1 (tZ [])] w137 ∧ Adv (mm [ownR [] (intE .i64) 3 v86 x85, rowR 38 b5 [vu x79, vi x81, vi x83, v86], rowR 38 b1 (tZ [])] M) (mm [ownR [] (intE .i64) 3 v86 x85, rowR 38 b5 [vu x133, vi x135, vi x83, v86], rowR 38 b1 (tZ [])] M) w87 w137 ∧ InK .u8 x133 ∧ InK .i64 x135 ∧ (x133, x135) = j131) ?_ ?_)
     ·refine cw_cond rfl (fun hc140 => ?_) (fun hc140 => ?_)
      ·replace h132 := cdT hc140 h132
       refine cw_regF (s_fa rfl Tryd.underlying38 rfl Tryd.sizeOf5 rfl (y_st 1 hI88 rfl rfl rfl rfl Tryd.sizeOf5 rfl rfl (one1 rfl one0) ?_))
       intro w141 hI142 x143
       refine s_fa rfl Tryd.underlying38 rfl Tryd.sizeOf3 rfl (y_st 1 hI142 rfl rfl rfl rfl Tryd.sizeOf3 rfl rfl (one1 rfl one0) ?_)
       intro w144 hI145 x146
       refine Reg.nil ?_
       obtain rfl := Option.some.inj h132
       refine ⟨rfl, (1, 0), ⟨hI145, (x143.trans x146), (by decide), (by decide), rfl⟩, sb6 rfl rfl rfl rfl rfl rfl⟩
      replace h132 := cdF hc140 h132
      refine cw_skip ?_
      obtain rfl := Option.some.inj h132
      refine ⟨rfl, (x79, x81), ⟨hI88, (Adv.refl _ _), r80, r82, rfl⟩, sb6 rfl rfl rfl rfl rfl rfl⟩
     rintro ⟨x133, x135⟩ w137 ⟨hI138, hA139, r134, r136, rfl⟩
     obtain rfl := Option.some.inj h116
     refine ⟨rfl, (x133, x135), ⟨hI138, hA139, r134, r136, rfl⟩, sb6 rfl rfl rfl rfl rfl rfl⟩
    rintro ⟨x117, x119⟩ w121 ⟨hI122, hA123, r118, r120, rfl⟩
    refine cw_regF (s_fa rfl Tryd.underlying38 rfl Tryd.sizeOf36 rfl (s_ld rfl ((hI122.row 1 rfl).rd.cells.at 3 rfl) Tryd.isAgg36 rfl (s_fa rfl Tryd.underlying61 rfl Tryd.sizeOf3 rfl (s_ld rfl ((hC75.adv (hA89.trans hA123)).cells.at 0 rfl) Tryd.isAgg3 rfl ?_))))
    obtain ⟨z147, hz148, h41⟩ := bnd h41
    refine s_call rfl Tryd.call63 rfl ((C_ref03_put (hI122.erase 0).mlt (hI122.apart 0 rfl) (hI122.lendOwn 0 rfl) r59 hz148).mono ?_)
    rintro _ w149 ⟨v151, rfl, hf152⟩
    refine ⟨_, rfl, ?_⟩
    have hI153 := hI122.took 0 rfl hf152
    refine s_fa rfl Tryd.underlying38 rfl Tryd.sizeOf36 rfl (y_st 1 hI153 rfl rfl rfl (Own.cells1 (hI153.ownAt 0 rfl)) Tryd.sizeOf36 rfl rfl (one1 (Own.oneC (hI153.ownAt 0 rfl)) one0) ?_)
    intro w154 hI155 x156
    refine Reg.nil ?_
    obtain rfl := Option.some.inj h41
    refine ⟨rfl, (x117, x119, x83, z147, v151), ⟨hI155, (x70.trans (x73.trans ((hI72.eraseH 0).trans (hA89.trans (hA123.trans ((hI122.tookA 0 rfl hf152).trans x156)))))), r118, r120, r84, rfl⟩, sb5 rfl rfl rfl rfl rfl⟩
   rintro ⟨x42, x44, x46, x48, v49⟩ w50 ⟨hI51, hA52, r43, r45, r47, rfl⟩
   refine cw_regF (s_mv rfl rfl ?_)
   obtain ⟨n157, hn157, h37⟩ := bnd h37
   replace hn157 := chk_out hn157
   refine p_add rfl rfl rfl hn157 (s_as rfl rfl (Reg.nil ?_))
   obtain rfl := Option.some.inj h37
   refine ⟨rfl, (n157, x42, x44, x46, x48, v49), ⟨⟨hI51, (hA34.trans hA52), hn157.2, r43, r45, r47⟩, rfl⟩, sb5 rfl rfl rfl rfl rfl⟩
  replace h37 := cdF hc39 h37
  refine cw_exit (exB_same ?_)
  obtain rfl := Option.some.inj h37
  obtain rfl := hR38 _ rfl
  refine ⟨rfl, (x24, x26, x28, x30, v31), ⟨hI33, hA34, r25, r27, r29, rfl⟩, sb2 rfl rfl⟩
 rintro ⟨x11, x13, x15, x17, v18⟩ w19 ⟨hI20, hA21, r12, r14, r16, rfl⟩
 refine cw_seq (cw_regF (s_lda rfl (hI20.row 1 rfl).rd.cells Tryd.isAgg38 rfl Tryd.sizeOf38 rfl (y_st 2 hI20 rfl rfl rfl rfl Tryd.sizeOf38 rfl rfl (one1 rfl (one1 rfl (one1 rfl (one1 (Own.oneC (hI20.ownAt 0 rfl)) one0)))) ?_)))
 intro w158 hI159 x160
 refine Reg.nil (cw_ret ?_)
 obtain rfl := Option.some.inj h
 have hf161 := hI159.freeze 0 rfl
 have hI162 := hI159.erase 0
 refine fin_any Tryd.results87 (AllRs.cons (RsOk.agg rfl (hI162.row 1 rfl).rd.cells Tryd.isAgg38 rfl Tryd.sizeOf38) (AllRs.nil)) rfl ?_
 exact ⟨_, rfl, r12, r14, r16, (hf161.adv hI162.baseH), hI162.kp⟩
end Go.Proofs.YtepjkmoipjeghaaDoor
