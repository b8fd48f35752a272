/-
  From the claim's form to the verifier's: what reads as a datum (DataW.trod) reads by an Enc. General: nothing of the program is named here.
-/
import Derived.Test.YtecmlmngcnionaaSxOwn
import Derived.ProofKit
import Derived.Deep.Slices
namespace Go.Sx
open Go Go.RowKit Go.WideShapes

def Bridge (P : Program) (t : TypeId) {α : Type} (E : Enc α) : Prop :=
  ∀ (H : Type) (enc : TypeId × Value → H) (w : World) (n : Nat) (cs : List Value) (x : DataW H × List MemPlace), DataW.trod enc P w 0 (fun _ => true) true n t cs = some x → ∃ a, E.R [] w cs a

theorem wf_InK {k : IntKind} {n : Int} (h : (Lit.int k n).wf = true) : InK k n := by
  simpa [Lit.wf, InK] using h
theorem bridge_int {P : Program} {t : TypeId} {k : IntKind} (ht : P.underlying t = some (.int k)) : Bridge P t (intE k) := fun H enc w n cs x h => by
  obtain ⟨r, e1, _, hw⟩ := DataW.trod_int ht h
  exact ⟨r, e1, wf_InK hw⟩
theorem bridge_bool {P : Program} {t : TypeId} (ht : P.underlying t = some .bool) : Bridge P t boolE := fun H enc w n cs x h => by
  obtain ⟨b, e1, _⟩ := DataW.trod_bool ht h
  exact ⟨b, e1⟩
theorem bridge_map {P : Program} {t : TypeId} {α β : Type} {f : β → α} {E : Enc α} (g : α → β) (hg : ∀ a, f (g a) = a) (B : Bridge P t E) : Bridge P t (mapE f E) := fun H enc w n cs x h => by
  obtain ⟨a, ha⟩ := B H enc w n cs x h
  exact ⟨g a, by show E.R [] w cs (f (g a)); rw [hg]; exact ha⟩
theorem bridge_slice {P : Program} {t e : TypeId} {α : Type} {E : Enc α} (ht : P.underlying t = some (.slice e)) (hc : P.cellsOf e = E.n) (B : Bridge P e E) : Bridge P t (sliceE E) := fun H enc w n cs x h => by
  rcases Go.Deep.open_slice ht h with ⟨rfl, _⟩ | ⟨a, len, cap, m, k, D, Pl, rfl, hb, hl, hm, hmm, _, hel⟩
  · exact ⟨[], .slice none 0 0, rfl, RdS.nil _ _ _⟩
  · simp only [if_true] at hmm
    rw [hmm] at hel
    have hx : ∀ i, ∃ y : Option α, i < len → ∃ cs' a', y = some a' ∧ E.R [] w cs' a' ∧ w.cells? 0 (a.add (i * P.cellsOf e)) (P.cellsOf e) = some cs' := fun i => by
      by_cases hi : i < len
      · obtain ⟨cs', h1, h2⟩ := hel i (by omega)
        obtain ⟨a', ha⟩ := B H enc w k cs' _ h2
        exact ⟨some a', fun _ => ⟨cs', a', rfl, ha, h1⟩⟩
      · exact ⟨none, fun h => absurd h hi⟩
    by_cases h0 : len = 0
    · subst h0
      exact ⟨[], .slice (some a) 0 cap, rfl, some a, cap, rfl, Nat.zero_le _, hm, .inl rfl⟩
    have hlist : ∃ xs : List α, xs.length = len ∧ ∀ i (hi : i < xs.length), ∃ cs', E.R [] w cs' xs[i] ∧ w.cells? 0 (a.add (i * P.cellsOf e)) (P.cellsOf e) = some cs' := by
      have h1 : ∀ i (hi : i < len), ∃ a', ∃ cs', E.R [] w cs' a' ∧ w.cells? 0 (a.add (i * P.cellsOf e)) (P.cellsOf e) = some cs' := fun i hi => by
        obtain ⟨y, hy⟩ := hx i
        obtain ⟨cs', a', _, h2, h3⟩ := hy hi
        exact ⟨a', cs', h2, h3⟩
      refine ⟨List.ofFn fun i : Fin len => (h1 i.1 i.2).choose, by simp, fun i hi => ?_⟩
      have hi' : i < len := by simpa using hi
      simpa using (h1 i hi').choose_spec
    obtain ⟨xs, hxl, hxs⟩ := hlist
    have hpos := E.pos
    have hspot : ∃ b o, a = ⟨b, o, none⟩ := by
      obtain ⟨cs', hR, hcc⟩ := hxs 0 (by omega)
      obtain ⟨_, hlen, hcell⟩ := World.cells?_some hcc
      have hn := E.len hR
      have h00 := hcell 0 (by omega)
      rw [Nat.zero_mul] at h00
      have ha : (a.add 0).add 0 = a := by simp [Addr.add]
      rw [ha, List.getElem?_eq_getElem (by omega)] at h00
      obtain ⟨b, o, s⟩ := a
      have hs : s = none := World.cell?_spot h00
      exact ⟨b, o, by rw [hs]⟩
    obtain ⟨b, o, rfl⟩ := hspot
    have hlt : b < w.heap.size := by
      obtain ⟨cs', hR, hcc⟩ := hxs 0 (by omega)
      obtain ⟨_, hlen, hcell⟩ := World.cells?_some hcc
      have hn := E.len hR
      have h00 := hcell 0 (by omega)
      rw [List.getElem?_eq_getElem (by omega)] at h00
      have := cell_lt h00
      simpa [add_none] using this
    refine ⟨xs, .slice (some ⟨b, o, none⟩) len cap, rfl, some ⟨b, o, none⟩, cap, by rw [hxl], by omega, hm, .inr ⟨b, o, rfl, by simp, hlt, fun i hi => ?_⟩⟩
    obtain ⟨cs', hR, hcc⟩ := hxs i hi
    obtain ⟨_, hlen, hcell⟩ := World.cells?_some hcc
    refine ⟨cs', hR, fun j u hj => ?_⟩
    have hjl : j < P.cellsOf e := by
      rcases Nat.lt_or_ge j cs'.length with h | h
      · omega
      · simp [List.getElem?_eq_none h] at hj
    have := hcell j hjl
    rw [add_none, add_none, hj, hc] at this
    exact this

/-- The fields from here on. -/
def FieldsB (P : Program) (N : Nat) (fs : List Field) {α : Type} (E : Enc α) : Prop :=
  ∀ (H : Type) (enc : TypeId × Value → H) (w : World) (cs : List Value), cs.length = N →
    (∀ f ∈ fs, ∃ (n : Nat) (x : DataW H × List MemPlace), DataW.trod enc P w 0 (fun _ => true) true n f.type ((cs.drop f.offset).take (P.cellsOf f.type)) = some x) →
    ∃ a, E.R [] w (cs.drop ((fs.head?.map (·.offset)).getD 0)) a
theorem fb_last {P : Program} {N : Nat} {f : Field} {α : Type} {E : Enc α} (B : Bridge P f.type E) (hN : f.offset + P.cellsOf f.type = N) : FieldsB P N [f] E := fun H enc w cs hl h => by
  obtain ⟨n, x, hx⟩ := h f (by simp)
  have : (cs.drop f.offset).take (P.cellsOf f.type) = cs.drop f.offset := List.take_of_length_le (by rw [List.length_drop]; omega)
  rw [this] at hx
  exact B H enc w n _ x hx
theorem fb_cons {P : Program} {N : Nat} {f g : Field} {r : List Field} {α β : Type} {E : Enc α} {F : Enc β} (B : Bridge P f.type E) (hN : f.offset + P.cellsOf f.type = g.offset) (R : FieldsB P N (g :: r) F) : FieldsB P N (f :: g :: r) (prodE E F) :=
  fun H enc w cs hl h => by
    obtain ⟨n, x, hx⟩ := h f (by simp)
    obtain ⟨a, ha⟩ := B H enc w n _ x hx
    obtain ⟨b, hb⟩ := R H enc w cs hl fun f' hf' => h f' (List.mem_cons_of_mem _ hf')
    refine ⟨(a, b), (cs.drop f.offset).take (P.cellsOf f.type), cs.drop g.offset, ?_, ha, hb⟩
    show cs.drop f.offset = _
    rw [← hN, ← List.drop_drop, List.take_append_drop]
theorem bridge_struct {P : Program} {t : TypeId} {f : Field} {r : List Field} {α : Type} {E : Enc α} (ht : P.underlying t = some (.struct (f :: r).toArray)) (h0 : f.offset = 0) (F : FieldsB P (P.cellsOf t) (f :: r) E) : Bridge P t E := fun H enc w n cs x h => by
  obtain ⟨xs, m, _, _, hl, hlen, hf⟩ := DataW.trod_struct ht h
  obtain ⟨a, ha⟩ := F H enc w cs hl fun g hg => by
    obtain ⟨i, hi, rfl⟩ := List.getElem_of_mem hg
    have hi' : i < xs.length := by rw [hlen]; simpa using hi
    have := hf i (f :: r)[i] (by simp [List.getElem?_eq_getElem hi])
    rw [List.getElem?_eq_getElem hi'] at this
    exact ⟨m, _, this⟩
  exact ⟨a, by simpa [h0] using ha⟩

/-- An argument, opened. -/
theorem open_arg {P : Program} {t : TypeId} {α : Type} {E : Enc α} (B : Bridge P t E) {H : Type} {enc : TypeId × Value → H} {w : World} {v : Value} {d : DataW H} {p : List MemPlace} (h : DataW.Trod enc P w 0 (fun _ => true) true t v d p) : ∃ a, E.R [] w v.cells.toList a := by
  obtain ⟨n, hn⟩ := h
  exact B H enc w n _ _ hn
end Go.Sx
