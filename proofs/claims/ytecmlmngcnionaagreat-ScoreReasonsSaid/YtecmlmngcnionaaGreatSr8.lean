/-
  Part 8 of the texts that the statement's proof stands on: what memory holds, how code is walked, what the functions reckon. In the order in which they build.
-/
import Derived.Shelf.SlSortCmp.Whole1
import Derived.Shelf.SlSortCmp.NoneTotal
import Derived.ProofKit
import Derived.Deep.Slices
import Derived.Test.YtecmlmngcnionaaGreatSr7
set_option linter.unusedVariables false
namespace Go.Proofs.YtecmlmngcnionaaGreat
open Go Go.Sx Go.RowKit Go.Sort Go.Shelf
/-- A slice of numbers as it stands in w, with what it reads as. -/
def El (M : List Nat) (w : World) : Type := { p : Value × List Int // RdS (intE .i64) M w p.1 p.2 }
instance {M : List Nat} {w : World} : Inhabited (El M w) := ⟨⟨(.slice none 0 0, []), RdS.nil _ _ _⟩⟩
def El.v {M : List Nat} {w : World} (x : El M w) : Value := x.1.1
def El.l {M : List Nat} {w : World} (x : El M w) : List Int := x.1.2
theorem chunks_el {M : List Nat} {w : World} : ∀ {cs : List Value} {xs : List (List Int)}, Chunks (sliceE (intE .i64)) M w cs xs → ∃ d : List (El M w), cs = d.map El.v ∧ xs = d.map El.l
  | cs, [], h => ⟨[], h, rfl⟩
  | cs, x :: xs, ⟨c, rest, he, hR, hr⟩ => by
    obtain ⟨u, hu, hS⟩ := sliceE_R.1 hR
    obtain ⟨d, h1, h2⟩ := chunks_el hr
    exact ⟨⟨(u, x), hS⟩ :: d, by rw [he, hu, h1]; rfl, by rw [h2]; rfl⟩
theorem el_chunks {M M' : List Nat} {w w' : World} (ha : ∀ {v : Value} {l : List Int}, RdS (intE .i64) M w v l → RdS (intE .i64) M' w' v l) : ∀ d : List (El M w), Chunks (sliceE (intE .i64)) M' w' (d.map El.v) (d.map El.l)
  | [] => rfl
  | x :: d => ⟨[x.v], d.map El.v, rfl, sliceE_R.2 ⟨x.v, rfl, ha x.2⟩, el_chunks ha d⟩
theorem put_takeE {α : Type} [Inhabited α] {enc : α → Value} {ys : List α} {cur : Array Value} (h : ys.length ≤ cur.size) : (putCells enc 0 ys.toArray cur).toList.take ys.length = ys.map enc := by
  apply List.ext_getElem?
  intro i
  rw [List.getElem?_take, List.getElem?_map]
  split
  · rename_i hi
    have hc : cur[i]? = some cur[i] := Array.getElem?_eq_getElem (by omega)
    simp only [putCells, Array.getElem?_toList, Array.getElem?_mapIdx, hc, Option.map_some]
    rw [if_pos ⟨by omega, by simpa using hi⟩]
    simp [hi]
  · rename_i hi
    rw [List.getElem?_eq_none (by omega)]; rfl
theorem swo_sets {M : List Nat} {w : World} : SWO (ltOf fun x y : El M w => S.setc x.l y.l) where
  irrefl x := by
    have := S.setc_anti x.l x.l
    unfold ltOf; rw [decide_eq_false_iff_not]; show ¬ S.setc x.l x.l < 0; omega
  trans x y z h1 h2 := by
    unfold ltOf at *
    rw [decide_eq_true_eq] at *
    have h1 : S.setc x.l y.l < 0 := h1
    have h2 : S.setc y.l z.l < 0 := h2
    exact (S.setc_trans x.l y.l z.l (by omega) (by omega)).2 (.inl h1)
  ntrans x y z h1 h2 := by
    unfold ltOf at *
    rw [decide_eq_false_iff_not] at *
    have h1 : ¬ S.setc x.l y.l < 0 := h1
    have h2 : ¬ S.setc y.l z.l < 0 := h2
    show ¬ S.setc x.l z.l < 0
    have a1 := S.setc_anti x.l y.l
    have a2 := S.setc_anti y.l z.l
    have a3 := S.setc_anti x.l z.l
    have := (S.setc_trans z.l y.l x.l (by omega) (by omega)).1
    omega
theorem kp_sort {α : Type} [Inhabited α] {enc : α → Value} {w : World} {g n : Nat} {d : Array α} {os : Array Obj} : Kp [g] w (sortWorld enc w g 0 n d os) := by
  refine ⟨rfl, rfl, rfl, by simp [sortWorld], fun j hj hm => ?_⟩
  have hne : ¬ g = j := fun e => hm (by simp [e])
  unfold sortWorld
  rw [heap_grow_old _ _ (by simpa using hj)]
  show (w.heap.modify g (onCells (putCells enc 0 d)))[j]? = _
  rw [Array.getElem?_modify, if_neg hne]
theorem sorted_sets {M : List Nat} {w : World} (hM : MLt M w) {g cap : Nat} {cur : Array Value} {x : List (List Int)} (h2 : w.heap[g]? = some (.cells cur 26 (0, 0))) (h3 : x.length ≤ cap + 1) (h4 : cap + 1 ≤ maxLen) (h5 : cur.size = (cap + 1) * 1)
    (h6 : Chunks (sliceE (intE .i64)) (g :: M) w (cur.toList.take (x.length * 1)) x) (hlen : x.length < 4611686018427387904) :
    Calls Tryz.prog 23 #[.slice (some ⟨g, 0, none⟩) x.length (cap + 1), .func (.func 24) #[] #[]] w fun e w' => e = .returned (.tuple #[]) ∧ ∃ r : List (List Int), r.Perm x ∧ (∀ (i j : Nat) (a b : List Int), i < j → r[i]? = some a → r[j]? = some b → S.setc a b ≤ 0) ∧
      Own (sliceE (intE .i64)) 26 0 M w' (.slice (some ⟨g, 0, none⟩) x.length (cap + 1)) r ∧ Kp [g] w w' := by
  have hg := heap_lt h2
  obtain ⟨d, hd1, hd2⟩ := chunks_el h6
  have hdl : d.length = x.length := by rw [hd2]; simp
  have hH : Holds (El.v (M := g :: M) (w := w)) w g 0 d.toArray := fun j hj => by
    have hj' : j < d.length := by simpa using hj
    have h8 := congrArg (fun l => l[j]?) hd1
    simp only [Nat.mul_one, List.getElem?_take, show j < x.length by omega, if_true, Array.getElem?_toList, List.getElem?_map, List.getElem?_eq_getElem hj', Option.map_some] at h8
    constructor
    · have : w.cell? ⟨g, 0 + j, none⟩ = cur[j]? := by simp [World.cell?, h2]
      rw [this, h8]; simp [hj']
    · simp [World.frozen?, h2]
  have eg : ∀ args w, (callFunc 24 args).run Tryz.prog w = .ok (.enter 24 args) w := enters_of Tryz.func24 (by kernel_rfl) rfl
  have hMg : MLt (g :: M) w := fun b hb => by
    rcases List.mem_cons.1 hb with rfl | hb
    · exact hg
    · exact hM b hb
  have hst : ∀ {n : Nat} {d' : Array (El (g :: M) w)} {os : Array Obj} {v : Value} {l : List Int}, RdS (intE .i64) (g :: M) w v l → RdS (intE .i64) (g :: M) (sortWorld El.v w g 0 n d' os) v l := fun h => h.kp (kp_sort.mono fun b hb => .inl (by simp at hb; simp [hb]))
  have hcmp : CmpLays1 Tryz.prog 24 #[] (El.v (M := g :: M) (w := w)) (fun a b => S.setc a.l b.l) g 0 d.toArray.size w := fun m os dk _ a b => by
    have ha := (hst (n := m) (d' := dk) (os := os) a.2)
    have hb := (hst (n := m) (d' := dk) (os := os) b.2)
    have hml : MLt (g :: M) (sortWorld El.v w g 0 m dk os) := fun c hc => Nat.lt_of_lt_of_le (hMg c hc) kp_sort.size
    refine (W_score_sets_in1 hml ha hb (S.p_sets1 a.l b.l ha.len hb.len)).mono ?_
    rintro e w' ⟨rfl, _, rfl⟩
    exact ⟨rfl, 0, #[], by rw [grow_empty]; rfl⟩
  have hc := Any.slices_SortFunc Tryz.laySortFunc (El.v (M := g :: M) (w := w)) (fun a => a.2.oneC) (fun a b => S.setc a.l b.l) swo_sets 24 #[] g 0 (cap + 1) d.toArray w eg hcmp hH hg (by simpa [hdl] using hlen)
  change Calls Tryz.prog 23 _ _ _ at hc
  rw [show d.toArray.size = x.length by simp [hdl]] at hc
  refine hc.mono ?_
  rintro e w' ⟨rfl, d', n, os, hp, hs, rfl⟩
  obtain ⟨hp1, _, hp3⟩ := hp
  have hsz : d'.size = x.length := by rw [hp1]; simp [hdl]
  refine ⟨rfl, d'.toList.map El.l, ?_, fun i j a b hij ha hb => ?_, .inr ⟨g, cap, putCells El.v 0 d' cur, by simp [hsz], Nat.zero_le _, ?_, by simp [hsz]; exact h3, h4, ?_, ?_⟩, kp_sort⟩
  · rw [hd2]
    refine List.Perm.map _ ?_
    have h1 : (d'.extract 0 x.length).toList = d'.toList := by rw [← hsz]; simp
    have h2 : (d.toArray.extract 0 x.length).toList = d := by rw [← hdl]; simp
    rw [h1, h2] at hp3
    exact hp3
  · simp only [List.getElem?_map, Option.map_eq_some_iff] at ha hb
    obtain ⟨a', ha', rfl⟩ := ha
    obtain ⟨b', hb', rfl⟩ := hb
    have hjl : j < d'.size := by simpa using get_lt hb'
    have := hs i j (Nat.zero_le _) hij (by omega)
    unfold ltOf at this
    rw [decide_eq_false_iff_not] at this
    have ea : d'[i]! = a' := by
      rw [Array.getElem?_toList] at ha'
      simp [Array.getElem!_eq_getD, ha']
    have eb : d'[j]! = b' := by
      rw [Array.getElem?_toList] at hb'
      simp [Array.getElem!_eq_getD, hb']
    rw [ea, eb] at this
    have h0 : ¬ S.setc b'.l a'.l < 0 := this
    have := S.setc_anti a'.l b'.l
    omega
  · unfold sortWorld
    rw [heap_grow_old _ _ (by simpa using hg)]
    show (w.heap.modify g (onCells (putCells El.v 0 d')))[g]? = _
    rw [Array.getElem?_modify, if_pos rfl, h2]; rfl
  · show (putCells El.v 0 d' cur).size = (cap + 1) * 1
    rw [← h5]; simp [putCells]
  · show Chunks (sliceE (intE .i64)) (g :: M) _ ((putCells El.v 0 d' cur).toList.take ((d'.toList.map El.l).length * 1)) _
    have h9 := put_takeE (enc := El.v (M := g :: M) (w := w)) (ys := d'.toList) (cur := cur) (by rw [Array.length_toList, hsz]; omega)
    rw [Nat.mul_one, List.length_map]
    rw [show d'.toList.toArray = d' by simp] at h9
    rw [h9]
    exact el_chunks hst d'.toList
end Go.Proofs.YtecmlmngcnionaaGreat
namespace Go.Proofs.YtecmlmngcnionaaGreat
open Go Go.Sx Go.RowKit Go.Sort Go.Shelf
noncomputable def P.slices_SortFunc_23 (x : List (List Int)) (_ : List Int → List Int → Option Int) : Option (List (List Int)) := if x.length < 4611686018427387904 then some (x.mergeSort fun a b => decide (S.setc a b ≤ 0)) else none
theorem C_slices_SortFunc_23 {M : List Nat} {w : World} {v_x : Value} (hM : MLt M w) (_ : ∀ b ∈ ob v_x, b ∉ M) {x : List (List Int)} (p_x : Own (sliceE (intE .i64)) 26 0 M w v_x x) {cmp : List Int → List Int → Option Int}
    (_ : ∀ (x0 : (List Int)) (vx0_0 : Value) (x1 : (List Int)) (vx1_0 : Value) (r : Int) (w1 : World), Kp (ob v_x) w w1 → RdS (intE .i64) (ob v_x ++ M) w1 vx0_0 x0 → RdS (intE .i64) (ob v_x ++ M) w1 vx1_0 x1 → cmp x0 x1 = some r → CallsV Tryz.prog (.func (.func 24) #[] [].toArray) [vx0_0, vx1_0] w1 fun e w2 => e = .returned (Value.int IntKind.i64 r) ∧ InK IntKind.i64 r ∧ Ext w1 w2)
    {r0 : List (List Int)} (h : P.slices_SortFunc_23 x cmp = some r0) :
    Calls Tryz.prog 23 (List.toArray [v_x, .func (.func 24) #[] [].toArray]) w fun e w' => e = .returned (Value.tuple #[]) ∧ (Own (sliceE (intE .i64)) 26 0 M w' v_x r0 ∧ (∀ b ∈ ob v_x, b ∈ ob v_x ∨ w.heap.size ≤ b) ∧ Kp (ob v_x) w w') := by
  obtain ⟨hlen, rfl⟩ : x.length < 4611686018427387904 ∧ (x.mergeSort fun a b => decide (S.setc a b ≤ 0)) = r0 := by
    unfold P.slices_SortFunc_23 at h
    split at h
    · exact ⟨by assumption, Option.some.inj h⟩
    · cases h
  rcases p_x with ⟨a, rfl, rfl⟩ | ⟨g, cap, cur, rfl, h1, h2, h3, h4, h5, h6⟩
  · have hc := AnyF.slices_SortFunc_none (P := Tryz.prog) (ρ := Tryz.laySortFunc_ren) { Tryz.laySortFunc with } a 0 (.func (.func 24) #[] [].toArray) w
    change Calls Tryz.prog 23 _ _ _ at hc
    refine hc.mono ?_
    rintro e w' h9
    obtain ⟨rfl, h9⟩ := h9
    subst h9
    exact ⟨rfl, .inl ⟨a, rfl, by simp⟩, fun b hb => .inl hb, Kp.refl _ _⟩
  · refine (sorted_sets hM h2 h3 h4 h5 h6 hlen).mono ?_
    rintro e w' ⟨rfl, r, hp, hs, ho, hk⟩
    obtain rfl := S.sort_is hp hs
    have hl := hp.length_eq
    exact ⟨rfl, by simpa using ho, fun b hb => .inl hb, hk.mono fun b hb => .inl (by simpa [ob] using hb)⟩
end Go.Proofs.YtecmlmngcnionaaGreat
set_option maxRecDepth 20000
namespace Go.Proofs.YtecmlmngcnionaaGreat
open Go Go.Sx Go.RowKit
noncomputable def P.score_sets (traits : Int) : Option (List (List Int)) :=
 Option.bind (shlO .i64 1 traits) fun n1 => Option.bind (loopM (S := (List (List Int)) × Int) (R := ((List (List Int)))) (fun (x2, x3) => cond (decide (x3 < n1)) (Option.bind (Option.bind (loopM (S := (List Int) × Int) (R := ((List Int))) (fun (x5, x6) => cond (decide (x6 < traits)) (Option.bind (Option.bind (shrO x3 x6 IntKind.i64.bits) fun n8 => Option.bind (cond (decide (andI .i64 n8 1 = 1)) (Option.bind (appo 8 x5 ([x6] : List Int)) fun l16 => some l16) (some x5)) fun x21 => some x21) fun x22 => Option.bind (chk .i64 (x6 + 1)) fun n23 => some (.inl (x22, n23))) (some (.inr x5))) ([], 0)) fun x24 => Option.bind (cond (decide (0 < (x24.length : Int))) (Option.bind (appo 24 x2 ([x24] : List (List Int))) fun l34 => some l34) (some x2)) fun x39 => some x39) fun x40 => Option.bind (chk .i64 (x3 + 1)) fun n41 => some (.inl (x40, n41))) (some (.inr x2))) ([], 0)) fun x42 => Option.bind (P.slices_SortFunc_23 x42 (fun x0_ x1_ => P.score_sets_in1 x0_ x1_)) fun l43 => some l43
theorem C_score_sets {M : List Nat} {w : World} (hM : MLt M w) {traits : Int} (f_traits_0 : InK .i64 traits) {r0 : (List (List Int))} (h : P.score_sets traits = some r0) :
  Calls Tryz.prog 13 (List.toArray [Value.int .i64 traits]) w fun e w' => ∃ v0_0 : Value, e = .returned (v0_0) ∧ (Own (sliceE (intE .i64)) 26 0 M w' v0_0 r0 ∧ ∀ b ∈ ob v0_0, w.heap.size ≤ b) ∧ Ext w w' := by
 have hI := Hp.start (Mu := []) hM
 refine calls_cw Tryz.func13 rfl Tryz.ntmps13 rfl ?_
 refine cw_seq (cw_regF ?_)
 refine s_as rfl rfl ?_
 refine Reg.nil ?_
 refine cw_seq (cw_regF ?_)
 refine s_as rfl rfl ?_
 refine Reg.nil ?_
 refine cw_seq (cw_seq (cw_regF ?_))
 refine s_mv rfl rfl ?_
 obtain ⟨n1, hn1, h⟩ := bnd h
 refine p_shl rfl rfl rfl hn1 ?_
 refine s_mv rfl rfl ?_
 refine Reg.nil ?_
 obtain ⟨j2, h3, h⟩ := bnd h
 refine cw_sub (L := [(0, _), (3, _), (8, _), (9, _)]) (Sub.cons rfl (Sub.cons rfl (Sub.cons rfl (Sub.cons rfl (Sub.nil _))))) ?_
 refine cw_unitD 4 (ι := (List (List Int)) × Value) (fun ⟨x4, v5⟩ => [(3, v5)]) (fun ⟨x4, v5⟩ => fun w6 => Hp w [] M [ownR [] (sliceE (intE .i64)) 26 v5 x4] w6 ∧ Adv (mm [] M) (mm [ownR [] (sliceE (intE .i64)) 26 v5 x4] M) w w6 ∧ x4 = j2) ?_ ?_
 ·skip
  refine cw_block ?_
  refine cw_sub (L := [(3, _), (9, _), (0, _), (8, _)]) (Sub.cons rfl (Sub.cons rfl (Sub.cons rfl (Sub.cons rfl (Sub.nil _))))) ?_
  have hI16 := hI.addNil (sliceE (intE .i64)) 26
  refine cw_loopM 2 (ι := (List (List Int)) × Int × Value) _ (fun ⟨x9, x11, v10⟩ => [(3, v10), (9, Value.int .i64 x11)]) (fun ⟨x9, x11, v10⟩ => (x9, x11)) (fun ⟨x9, x11, v10⟩ => fun w13 => Hp w [] M [ownR [] (sliceE (intE .i64)) 26 v10 x9] w13 ∧ Adv (mm [] M) (mm [ownR [] (sliceE (intE .i64)) 26 v10 x9] M) w w13 ∧ InK .i64 x11) (([] : List (List Int)), 0, (Value.slice none 0 0)) h3 ⟨hI16, hI16.adv, (by decide)⟩ (Sub.cons rfl (Sub.cons rfl (Sub.cons rfl (Sub.cons rfl (Sub.nil _))))) ?_
  rintro ⟨x9, x11, v10⟩ w13 ⟨hI14, hA15, r12⟩ y17 h18 hR19
  refine cw_seq (cw_regF ?_)
  refine s_lss rfl rfl rfl ?_
  refine Reg.nil ?_
  refine cw_seq ?_
  refine cw_cond rfl (fun hc20 => ?_) (fun hc20 => ?_)
  ·replace h18 := cdT hc20 h18
   refine cw_skip ?_
   obtain ⟨j21, h22, h18⟩ := bnd h18
   refine cw_sub (L := [(3, _), (0, _), (8, _), (9, _)]) (Sub.cons rfl (Sub.cons rfl (Sub.cons rfl (Sub.cons rfl (Sub.nil _))))) ?_
   refine cw_seqD 1 (ι := (List (List Int)) × Value) (fun ⟨x23, v24⟩ => [(3, v24)]) (fun ⟨x23, v24⟩ => fun w25 => Hp w [] M [ownR [] (sliceE (intE .i64)) 26 v24 x23] w25 ∧ Adv (mm [ownR [] (sliceE (intE .i64)) 26 v10 x9] M) (mm [ownR [] (sliceE (intE .i64)) 26 v24 x23] M) w13 w25 ∧ x23 = j21) ?_ ?_
   ·skip
    refine cw_block ?_
    refine cw_seq (cw_regF ?_)
    refine s_mv rfl rfl ?_
    refine s_as rfl rfl ?_
    refine Reg.nil ?_
    refine cw_seq (cw_regF ?_)
    refine s_as rfl rfl ?_
    refine Reg.nil ?_
    refine cw_seq (cw_seq (cw_regF ?_))
    refine s_mv rfl rfl ?_
    refine s_mv rfl rfl ?_
    refine Reg.nil ?_
    obtain ⟨j28, h29, h22⟩ := bnd h22
    refine cw_sub (L := [(4, _), (5, _), (12, _), (13, _), (0, _), (3, _), (8, _), (9, _)]) (Sub.cons rfl (Sub.cons rfl (Sub.cons rfl (Sub.cons rfl (Sub.cons rfl (Sub.cons rfl (Sub.cons rfl (Sub.cons rfl (Sub.nil _))))))))) ?_
    refine cw_unitD 4 (ι := (List Int) × Value) (fun ⟨x30, v31⟩ => [(5, v31)]) (fun ⟨x30, v31⟩ => fun w32 => Hp w [] M [ownR [] (intE .i64) 3 v31 x30, ownR [] (sliceE (intE .i64)) 26 v10 x9] w32 ∧ Adv (mm [ownR [] (sliceE (intE .i64)) 26 v10 x9] M) (mm [ownR [] (intE .i64) 3 v31 x30, ownR [] (sliceE (intE .i64)) 26 v10 x9] M) w13 w32 ∧ x30 = j28) ?_ ?_
    ·skip
     refine cw_block ?_
     refine cw_sub (L := [(5, _), (13, _), (0, _), (3, _), (4, _), (8, _), (9, _), (12, _)]) (Sub.cons rfl (Sub.cons rfl (Sub.cons rfl (Sub.cons rfl (Sub.cons rfl (Sub.cons rfl (Sub.cons rfl (Sub.cons rfl (Sub.nil _))))))))) ?_
     have hI42 := hI14.addNil (intE .i64) 3
     refine cw_loopM 2 (ι := (List Int) × Int × Value) _ (fun ⟨x35, x37, v36⟩ => [(5, v36), (13, Value.int .i64 x37)]) (fun ⟨x35, x37, v36⟩ => (x35, x37)) (fun ⟨x35, x37, v36⟩ => fun w39 => Hp w [] M [ownR [] (intE .i64) 3 v36 x35, ownR [] (sliceE (intE .i64)) 26 v10 x9] w39 ∧ Adv (mm [ownR [] (sliceE (intE .i64)) 26 v10 x9] M) (mm [ownR [] (intE .i64) 3 v36 x35, ownR [] (sliceE (intE .i64)) 26 v10 x9] M) w13 w39 ∧ InK .i64 x37) (([] : List Int), 0, (Value.slice none 0 0)) h29 ⟨hI42, (Hp.addNilA (σ := [ownR [] (sliceE (intE .i64)) 26 v10 x9]) (intE .i64) 3), (by decide)⟩ (Sub.cons rfl (Sub.cons rfl (Sub.cons rfl (Sub.cons rfl (Sub.cons rfl (Sub.cons rfl (Sub.cons rfl (Sub.cons rfl (Sub.nil _))))))))) ?_
     rintro ⟨x35, x37, v36⟩ w39 ⟨hI40, hA41, r38⟩ y43 h44 hR45
     refine cw_seq (cw_regF ?_)
     refine s_lss rfl rfl rfl ?_
     refine Reg.nil ?_
     refine cw_seq ?_
     refine cw_cond rfl (fun hc46 => ?_) (fun hc46 => ?_)
     ·replace h44 := cdT hc46 h44
      refine cw_skip ?_
      obtain ⟨j47, h48, h44⟩ := bnd h44
      refine cw_sub (L := [(5, _), (0, _), (3, _), (4, _), (8, _), (9, _), (12, _), (13, _)]) (Sub.cons rfl (Sub.cons rfl (Sub.cons rfl (Sub.cons rfl (Sub.cons rfl (Sub.cons rfl (Sub.cons rfl (Sub.cons rfl (Sub.nil _))))))))) ?_
      refine cw_seqD 1 (ι := (List Int) × Value) (fun ⟨x49, v50⟩ => [(5, v50)]) (fun ⟨x49, v50⟩ => fun w51 => Hp w [] M [ownR [] (intE .i64) 3 v50 x49, ownR [] (sliceE (intE .i64)) 26 v10 x9] w51 ∧ Adv (mm [ownR [] (intE .i64) 3 v36 x35, ownR [] (sliceE (intE .i64)) 26 v10 x9] M) (mm [ownR [] (intE .i64) 3 v50 x49, ownR [] (sliceE (intE .i64)) 26 v10 x9] M) w39 w51 ∧ x49 = j47) ?_ ?_
      ·skip
       refine cw_block ?_
       refine cw_seq (cw_regF ?_)
       refine s_mv rfl rfl ?_
       refine s_as rfl rfl ?_
       refine Reg.nil ?_
       refine cw_seq (cw_regF ?_)
       refine s_mv rfl rfl ?_
       refine s_mv rfl rfl ?_
       obtain ⟨n54, hn54, h48⟩ := bnd h48
       refine p_shr rfl rfl rfl hn54 ?_
       refine s_and rfl rfl rfl ?_
       refine s_eql rfl rfl rfl ?_
       refine Reg.nil ?_
       obtain ⟨j55, h56, h48⟩ := bnd h48
       refine cw_sub (L := [(5, _), (6, _), (20, _), (0, _), (3, _), (4, _), (8, _), (9, _), (12, _), (13, _)]) (Sub.cons rfl (Sub.cons rfl (Sub.cons rfl (Sub.cons rfl (Sub.cons rfl (Sub.cons rfl (Sub.cons rfl (Sub.cons rfl (Sub.cons rfl (Sub.cons rfl (Sub.nil _))))))))))) ?_
       refine cw_unitD 3 (ι := (List Int) × Value) (fun ⟨x57, v58⟩ => [(5, v58)]) (fun ⟨x57, v58⟩ => fun w59 => Hp w [] M [ownR [] (intE .i64) 3 v58 x57, ownR [] (sliceE (intE .i64)) 26 v10 x9] w59 ∧ Adv (mm [ownR [] (intE .i64) 3 v36 x35, ownR [] (sliceE (intE .i64)) 26 v10 x9] M) (mm [ownR [] (intE .i64) 3 v58 x57, ownR [] (sliceE (intE .i64)) 26 v10 x9] M) w39 w59 ∧ x57 = j55) ?_ ?_
       ·skip
        refine cw_cond rfl (fun hc62 => ?_) (fun hc62 => ?_)
        ·replace h56 := cdT hc62 h56
         refine cw_regF ?_
         refine s_mv rfl rfl ?_
         refine s_mv rfl rfl ?_
         refine y_bs (E := (intE .i64)) (xs := [x37]) sl26 hI40 rfl rfl (Cls.cons rfl Cls.nil) (Chs.cons ⟨rfl, r38⟩ Chs.nil) rfl rfl ?_
         intro v63 w64 hI65 x66
         have hf67 := hI65.freeze 0 rfl
         have hI68 := hI65.erase 0
         obtain ⟨l69, hl69, h56⟩ := bnd h56
         obtain ⟨hbl69, el69⟩ := appo_out hl69
         refine y_app 0 sl26 hI68 rfl rfl rfl hf67 hbl69 rfl ?_
         rw [← el69]
         intro v70 w71 hI72 x73
         refine s_as rfl rfl ?_
         refine Reg.nil ?_
         obtain rfl := Option.some.inj h56
         refine ⟨rfl, (l69, v70), ⟨hI72, (x66.trans ((Hp.eraseA (σ := [ownR [] (intE .i64) 3 v63 ([x37] : List Int), ownR [] (intE .i64) 3 v36 x35, ownR [] (sliceE (intE .i64)) 26 v10 x9]) 0).trans x73)), rfl⟩, Sub.cons rfl (Sub.cons rfl (Sub.cons rfl (Sub.cons rfl (Sub.cons rfl (Sub.cons rfl (Sub.cons rfl (Sub.cons rfl (Sub.nil _))))))))⟩
        ·replace h56 := cdF hc62 h56
         refine cw_skip ?_
         obtain rfl := Option.some.inj h56
         refine ⟨rfl, (x35, v36), ⟨hI40, (Adv.refl _ _), rfl⟩, Sub.cons rfl (Sub.cons rfl (Sub.cons rfl (Sub.cons rfl (Sub.cons rfl (Sub.cons rfl (Sub.cons rfl (Sub.cons rfl (Sub.nil _))))))))⟩
       ·skip
        rintro ⟨x57, v58⟩ w59 ⟨hI60, hA61, rfl⟩
        obtain rfl := Option.some.inj h48
        refine ⟨rfl, (x57, v58), ⟨hI60, hA61, rfl⟩, Sub.cons rfl (Sub.cons rfl (Sub.cons rfl (Sub.cons rfl (Sub.cons rfl (Sub.cons rfl (Sub.cons rfl (Sub.cons rfl (Sub.nil _))))))))⟩
      ·skip
       rintro ⟨x49, v50⟩ w51 ⟨hI52, hA53, rfl⟩
       refine cw_regF ?_
       obtain ⟨n74, hn74, h44⟩ := bnd h44
       replace hn74 := chk_out hn74
       refine p_add rfl rfl rfl hn74 ?_
       refine s_mv rfl rfl ?_
       refine Reg.nil ?_
       obtain rfl := Option.some.inj h44
       refine ⟨rfl, (x49, n74, v50), ⟨⟨hI52, (hA41.trans hA53), hn74.2⟩, rfl⟩, Sub.cons rfl (Sub.cons rfl (Sub.cons rfl (Sub.cons rfl (Sub.cons rfl (Sub.cons rfl (Sub.cons rfl (Sub.cons rfl (Sub.nil _))))))))⟩
     ·replace h44 := cdF hc46 h44
      refine cw_exit ?_
      refine exB_same ?_
      obtain rfl := Option.some.inj h44
      obtain rfl := hR45 _ rfl
      refine ⟨rfl, (x35, v36), ⟨hI40, hA41, rfl⟩, Sub.cons rfl (Sub.cons rfl (Sub.cons rfl (Sub.cons rfl (Sub.cons rfl (Sub.nil _)))))⟩
    ·skip
     rintro ⟨x30, v31⟩ w32 ⟨hI33, hA34, rfl⟩
     refine cw_seq (cw_regF ?_)
     refine s_mv rfl rfl ?_
     refine s_lenO rfl (hI33.ownAt 0 rfl) Tryz.underlying26 rfl ?_
     refine s_gtr rfl rfl rfl ?_
     refine Reg.nil ?_
     obtain ⟨j75, h76, h22⟩ := bnd h22
     refine cw_sub (L := [(3, _), (5, _), (28, _), (0, _), (8, _), (9, _)]) (Sub.cons rfl (Sub.cons rfl (Sub.cons rfl (Sub.cons rfl (Sub.cons rfl (Sub.cons rfl (Sub.nil _))))))) ?_
     refine cw_unitD 3 (ι := (List (List Int)) × Value) (fun ⟨x77, v78⟩ => [(3, v78)]) (fun ⟨x77, v78⟩ => fun w79 => Hp w [] M [ownR [] (sliceE (intE .i64)) 26 v78 x77] w79 ∧ Adv (mm [ownR [] (intE .i64) 3 v31 x30, ownR [] (sliceE (intE .i64)) 26 v10 x9] M) (mm [ownR [] (sliceE (intE .i64)) 26 v78 x77] M) w32 w79 ∧ x77 = j75) ?_ ?_
     ·skip
      refine cw_cond rfl (fun hc82 => ?_) (fun hc82 => ?_)
      ·replace h76 := cdT hc82 h76
       refine cw_regF ?_
       refine s_mv rfl rfl ?_
       refine s_mv rfl rfl ?_
       have hf83 := hI33.freeze 0 rfl
       have hI84 := hI33.erase 0
       refine y_bs (E := (sliceE (intE .i64))) (xs := [x30]) sl53 hI84 rfl rfl (Cls.cons (RdS.cells1 hf83) Cls.nil) (Chs.cons ⟨_, rfl, hf83⟩ Chs.nil) rfl rfl ?_
       intro v85 w86 hI87 x88
       have hf89 := hI87.freeze 0 rfl
       have hI90 := hI87.erase 0
       obtain ⟨l91, hl91, h76⟩ := bnd h76
       obtain ⟨hbl91, el91⟩ := appo_out hl91
       refine y_app 0 sl53 hI90 rfl rfl rfl hf89 hbl91 rfl ?_
       rw [← el91]
       intro v92 w93 hI94 x95
       refine s_as rfl rfl ?_
       refine Reg.nil ?_
       obtain rfl := Option.some.inj h76
       refine ⟨rfl, (l91, v92), ⟨hI94, ((Hp.eraseA (σ := [ownR [] (intE .i64) 3 v31 x30, ownR [] (sliceE (intE .i64)) 26 v10 x9]) 0).trans (x88.trans ((Hp.eraseA (σ := [ownR [] (sliceE (intE .i64)) 26 v85 ([x30] : List (List Int)), ownR [] (sliceE (intE .i64)) 26 v10 x9]) 0).trans x95))), rfl⟩, Sub.cons rfl (Sub.cons rfl (Sub.cons rfl (Sub.cons rfl (Sub.nil _))))⟩
      ·replace h76 := cdF hc82 h76
       refine cw_skip ?_
       obtain rfl := Option.some.inj h76
       refine ⟨rfl, (x9, v10), ⟨(hI33.sel [1] rfl), (Hp.selA (σ := [ownR [] (intE .i64) 3 v31 x30, ownR [] (sliceE (intE .i64)) 26 v10 x9]) [1]), rfl⟩, Sub.cons rfl (Sub.cons rfl (Sub.cons rfl (Sub.cons rfl (Sub.nil _))))⟩
     ·skip
      rintro ⟨x77, v78⟩ w79 ⟨hI80, hA81, rfl⟩
      obtain rfl := Option.some.inj h22
      refine ⟨rfl, (x77, v78), ⟨hI80, (hA34.trans hA81), rfl⟩, Sub.cons rfl (Sub.cons rfl (Sub.cons rfl (Sub.cons rfl (Sub.nil _))))⟩
   ·skip
    rintro ⟨x23, v24⟩ w25 ⟨hI26, hA27, rfl⟩
    refine cw_regF ?_
    obtain ⟨n96, hn96, h18⟩ := bnd h18
    replace hn96 := chk_out hn96
    refine p_add rfl rfl rfl hn96 ?_
    refine s_mv rfl rfl ?_
    refine Reg.nil ?_
    obtain rfl := Option.some.inj h18
    refine ⟨rfl, (x23, n96, v24), ⟨⟨hI26, hI26.adv, hn96.2⟩, rfl⟩, Sub.cons rfl (Sub.cons rfl (Sub.cons rfl (Sub.cons rfl (Sub.nil _))))⟩
  ·replace h18 := cdF hc20 h18
   refine cw_exit ?_
   refine exB_same ?_
   obtain rfl := Option.some.inj h18
   obtain rfl := hR19 _ rfl
   refine ⟨rfl, (x9, v10), ⟨hI14, hI14.adv, rfl⟩, Sub.cons rfl (Sub.nil _)⟩
 ·skip
  rintro ⟨x4, v5⟩ w6 ⟨hI7, hA8, rfl⟩
  refine cw_seq (cw_regF ?_)
  refine s_mv rfl rfl ?_
  obtain ⟨l97, hz98, h⟩ := bnd h
  refine s_call rfl Tryz.call23 rfl ?_
  refine (C_slices_SortFunc_23 (hI7.erase 0).mlt (hI7.apart 0 rfl) (hI7.lendOwn 0 rfl) (fun a0 a1 a2 a3 r w9 e9 f0 f1 hr => CallsV.ofL Tryz.call24 rfl (C_score_sets_in1 ((hI7.lendM 0 rfl).ext e9) f0 f1 hr)) hz98).mono ?_
  rintro _ w99 ⟨rfl, hf101⟩
  refine ⟨_, rfl, ?_⟩
  have hI102 := hI7.took 0 rfl hf101
  refine Reg.nil ?_
  refine cw_seq (cw_regF ?_)
  refine s_mv rfl rfl ?_
  refine s_as rfl rfl ?_
  refine Reg.nil ?_
  refine cw_ret ?_
  obtain rfl := Option.some.inj h
  refine fin1 Tryz.results13 rfl ?_
  exact ⟨_, rfl, (hI102.ownOut 0 rfl), hI102.kp⟩
end Go.Proofs.YtecmlmngcnionaaGreat
namespace Go.Sx
open Go Go.RowKit
def Ret {α : Type} (o : Option α) (Q : α → Prop) : Prop := ∃ a, o = some a ∧ Q a
section
variable {α β S R : Type}
theorem Ret.val {o : Option α} {a : α} {Q : α → Prop} (h : o = some a) (q : Q a) : Ret o Q := ⟨a, h, q⟩
theorem Ret.ok {a : α} {Q : α → Prop} (q : Q a) : Ret (some a) Q := ⟨a, rfl, q⟩
theorem Ret.bind {o : Option α} {K : α → Option β} {Q : β → Prop} (h : Ret o fun a => Ret (K a) Q) : Ret (Option.bind o K) Q := by
  obtain ⟨a, h1, h2⟩ := h
  subst h1; exact h2
theorem Ret.mono {o : Option α} {Q Q' : α → Prop} (h : Ret o Q) (hq : ∀ a, Q a → Q' a) : Ret o Q' := by
  obtain ⟨a, h1, h2⟩ := h
  exact ⟨a, h1, hq a h2⟩
theorem Ret.cond {b : Bool} {x y : Option α} {Q : α → Prop} (h1 : b = true → Ret x Q) (h2 : b = false → Ret y Q) : Ret (cond b x y) Q := by
  cases b with
  | true => exact h1 rfl
  | false => exact h2 rfl
theorem Ret.condT {b : Bool} {x y : Option α} {Q : α → Prop} (h : b = true) (h1 : Ret x Q) : Ret (_root_.cond b x y) Q := by subst h; exact h1
theorem Ret.condF {b : Bool} {x y : Option α} {Q : α → Prop} (h : b = false) (h1 : Ret y Q) : Ret (_root_.cond b x y) Q := by subst h; exact h1
theorem Ret.chk {x : Int} {Q : Int → Prop} (h : -9223372036854775808 ≤ x ∧ x ≤ 9223372036854775807) (q : Q x) : Ret (chk .i64 x) Q := ⟨x, chk_i64 h, q⟩
theorem Ret.ixo {l : List α} {i : Nat} {y : α} {Q : α → Prop} (h : l[i]? = some y) (q : Q y) : Ret (ixo l (i : Int)) Q := ⟨y, ixo_at h, q⟩
theorem Ret.ixoI {l : List α} {i : Int} {Q : α → Prop} (h0 : 0 ≤ i) (h1 : i < l.length) (q : ∀ y, l[i.toNat]? = some y → Q y) : Ret (Sx.ixo l i) Q := by
  have hlt : i.toNat < l.length := by omega
  have hy : l[i.toNat]? = some l[i.toNat] := List.getElem?_eq_getElem hlt
  exact ⟨_, ixo_some h0 hy, q _ hy⟩
theorem Ret.appo {b : Nat} {xs ys : List α} {Q : List α → Prop} (h : (xs.length + ys.length) * b ≤ 140737488355328) (h2 : xs.length + ys.length ≤ 140737488355328) (q : Q (xs ++ ys)) : Ret (appo b xs ys) Q := ⟨_, appo_ok h h2, q⟩
theorem Ret.seto {l : List α} {i : Nat} {x : α} {Q : List α → Prop} (h : i < l.length) (q : Q (l.set i x)) : Ret (seto l (i : Int) x) Q :=
  ⟨_, by unfold Sx.seto; rw [if_pos ⟨by omega, by omega⟩, Int.toNat_natCast], q⟩
theorem Ret.mko {b : Nat} {z : α} {n : Nat} {Q : List α → Prop} (h : b * n ≤ 140737488355328) (h2 : n ≤ 140737488355328) (q : Q (List.replicate n z)) : Ret (mko b z (n : Int)) Q := ⟨_, mko_ok h h2, q⟩
def Nxt (A : S → Prop) (Q : R → Prop) : S ⊕ R → Prop
  | .inl s => A s
  | .inr r => Q r
theorem Ret.next {s : S} {A : S → Prop} {Q : R → Prop} (h : A s) : Ret (some (.inl s)) (Nxt A Q) := ⟨_, rfl, h⟩
theorem Ret.done {r : R} {A : S → Prop} {Q : R → Prop} (h : Q r) : Ret (some (.inr r)) (Nxt A Q) := ⟨_, rfl, h⟩
theorem Ret.elimL {γ : Type} {f : α → Option γ} {g : β → Option γ} {a : α} {Q : γ → Prop} (h : Ret (f a) Q) : Ret (Sum.elim f g (.inl a)) Q := h
theorem Ret.elimR {γ : Type} {f : α → Option γ} {g : β → Option γ} {b : β} {Q : γ → Prop} (h : Ret (g b) Q) : Ret (Sum.elim f g (.inr b)) Q := h
theorem Ret.loop {body : S → Option (S ⊕ R)} {s0 : S} {Q : R → Prop} (I : S → Prop) (μ : S → Nat) (h0 : I s0) (step : ∀ s, I s → Ret (body s) (Nxt (fun s' => I s' ∧ μ s' < μ s) Q)) : Ret (loopM body s0) Q := by
  have key : ∀ (n : Nat) (s : S), μ s ≤ n → I s → Ret (loopM body s) Q := by
    intro n
    induction n with
    | zero =>
      intro s hn hs
      obtain ⟨r, h1, h2⟩ := step s hs
      cases r with
      | inl s' => have := h2.2; omega
      | inr r => exact ⟨r, loopM_end h1, h2⟩
    | succ n ih =>
      intro s hn hs
      obtain ⟨r, h1, h2⟩ := step s hs
      cases r with
      | inl s' => rw [loopM_go h1]; exact ih s' (by have := h2.2; omega) h2.1
      | inr r => exact ⟨r, loopM_end h1, h2⟩
  exact key _ s0 (Nat.le_refl _) h0
theorem Ret.yes {o : Option Bool} (h : Ret o fun b => b = true) : o = some true := by
  obtain ⟨a, h1, h2⟩ := h
  rw [h1, h2]
end
end Go.Sx
namespace Go.Sx
open Go Go.RowKit Go.WideShapes
def Bridge (P : Program) (t : TypeId) {α : Type} (E : Enc α) : Prop :=
  ∀ (H : Type) (enc : TypeId × Value → H) (w : World) (n : Nat) (cs : List Value) (x : DataW H × List MemPlace), DataW.trod enc P w 0 (fun _ => true) true n t cs = some x → ∃ a, E.R [] w cs a
theorem wf_InK {k : IntKind} {n : Int} (h : (Lit.int k n).wf = true) : InK k n := by
  simpa [Lit.wf, InK] using h
theorem bridge_int {P : Program} {t : TypeId} {k : IntKind} (ht : P.underlying t = some (.int k)) : Bridge P t (intE k) := fun H enc w n cs x h => by
  obtain ⟨r, e1, _, hw⟩ := DataW.trod_int ht h
  exact ⟨r, e1, wf_InK hw⟩
theorem bridge_map {P : Program} {t : TypeId} {α β : Type} {f : β → α} {E : Enc α} (g : α → β) (hg : ∀ a, f (g a) = a) (B : Bridge P t E) : Bridge P t (mapE f E) := fun H enc w n cs x h => by
  obtain ⟨a, ha⟩ := B H enc w n cs x h
  exact ⟨g a, by show E.R [] w cs (f (g a)); rw [hg]; exact ha⟩
theorem bridge_slice {P : Program} {t e : TypeId} {α : Type} {E : Enc α} (ht : P.underlying t = some (.slice e)) (hc : P.cellsOf e = E.n) (B : Bridge P e E) : Bridge P t (sliceE E) := fun H enc w n cs x h => by
  rcases Go.Deep.open_slice ht h with ⟨rfl, _⟩ | ⟨a, len, cap, m, k, D, Pl, rfl, hb, hl, hm, hmm, _, hel⟩
  · exact ⟨[], .slice none 0 0, rfl, RdS.nil _ _ _⟩
  · simp only [if_true] at hmm
    rw [hmm] at hel
    have hx : ∀ i, ∃ y : Option α, i < len → ∃ cs' a', y = some a' ∧ E.R [] w cs' a' ∧ w.cells? 0 (a.add (i * P.cellsOf e)) (P.cellsOf e) = some cs' := fun i => by
      by_cases hi : i < len
      · obtain ⟨cs', h1, h2⟩ := hel i (by omega)
        obtain ⟨a', ha⟩ := B H enc w k cs' _ h2
        exact ⟨some a', fun _ => ⟨cs', a', rfl, ha, h1⟩⟩
      · exact ⟨none, fun h => absurd h hi⟩
    by_cases h0 : len = 0
    · subst h0
      exact ⟨[], .slice (some a) 0 cap, rfl, some a, cap, rfl, Nat.zero_le _, hm, .inl rfl⟩
    have hlist : ∃ xs : List α, xs.length = len ∧ ∀ i (hi : i < xs.length), ∃ cs', E.R [] w cs' xs[i] ∧ w.cells? 0 (a.add (i * P.cellsOf e)) (P.cellsOf e) = some cs' := by
      have h1 : ∀ i (hi : i < len), ∃ a', ∃ cs', E.R [] w cs' a' ∧ w.cells? 0 (a.add (i * P.cellsOf e)) (P.cellsOf e) = some cs' := fun i hi => by
        obtain ⟨y, hy⟩ := hx i
        obtain ⟨cs', a', _, h2, h3⟩ := hy hi
        exact ⟨a', cs', h2, h3⟩
      refine ⟨List.ofFn fun i : Fin len => (h1 i.1 i.2).choose, by simp, fun i hi => ?_⟩
      have hi' : i < len := by simpa using hi
      simpa using (h1 i hi').choose_spec
    obtain ⟨xs, hxl, hxs⟩ := hlist
    have hpos := E.pos
    have hspot : ∃ b o, a = ⟨b, o, none⟩ := by
      obtain ⟨cs', hR, hcc⟩ := hxs 0 (by omega)
      obtain ⟨_, hlen, hcell⟩ := World.cells?_some hcc
      have hn := E.len hR
      have h00 := hcell 0 (by omega)
      rw [Nat.zero_mul] at h00
      have ha : (a.add 0).add 0 = a := by simp [Addr.add]
      rw [ha, List.getElem?_eq_getElem (by omega)] at h00
      obtain ⟨b, o, s⟩ := a
      have hs : s = none := World.cell?_spot h00
      exact ⟨b, o, by rw [hs]⟩
    obtain ⟨b, o, rfl⟩ := hspot
    have hlt : b < w.heap.size := by
      obtain ⟨cs', hR, hcc⟩ := hxs 0 (by omega)
      obtain ⟨_, hlen, hcell⟩ := World.cells?_some hcc
      have hn := E.len hR
      have h00 := hcell 0 (by omega)
      rw [List.getElem?_eq_getElem (by omega)] at h00
      have := cell_lt h00
      simpa [add_none] using this
    refine ⟨xs, .slice (some ⟨b, o, none⟩) len cap, rfl, some ⟨b, o, none⟩, cap, by rw [hxl], by omega, hm, .inr ⟨b, o, rfl, by simp, hlt, fun i hi => ?_⟩⟩
    obtain ⟨cs', hR, hcc⟩ := hxs i hi
    obtain ⟨_, hlen, hcell⟩ := World.cells?_some hcc
    refine ⟨cs', hR, fun j u hj => ?_⟩
    have hjl : j < P.cellsOf e := by
      rcases Nat.lt_or_ge j cs'.length with h | h
      · omega
      · simp [List.getElem?_eq_none h] at hj
    have := hcell j hjl
    rw [add_none, add_none, hj, hc] at this
    exact this
/-- The fields from here on. -/
def FieldsB (P : Program) (N : Nat) (fs : List Field) {α : Type} (E : Enc α) : Prop :=
  ∀ (H : Type) (enc : TypeId × Value → H) (w : World) (cs : List Value), cs.length = N →
    (∀ f ∈ fs, ∃ (n : Nat) (x : DataW H × List MemPlace), DataW.trod enc P w 0 (fun _ => true) true n f.type ((cs.drop f.offset).take (P.cellsOf f.type)) = some x) →
    ∃ a, E.R [] w (cs.drop ((fs.head?.map (·.offset)).getD 0)) a
theorem fb_last {P : Program} {N : Nat} {f : Field} {α : Type} {E : Enc α} (B : Bridge P f.type E) (hN : f.offset + P.cellsOf f.type = N) : FieldsB P N [f] E := fun H enc w cs hl h => by
  obtain ⟨n, x, hx⟩ := h f (by simp)
  have : (cs.drop f.offset).take (P.cellsOf f.type) = cs.drop f.offset := List.take_of_length_le (by rw [List.length_drop]; omega)
  rw [this] at hx
  exact B H enc w n _ x hx
theorem fb_cons {P : Program} {N : Nat} {f g : Field} {r : List Field} {α β : Type} {E : Enc α} {F : Enc β} (B : Bridge P f.type E) (hN : f.offset + P.cellsOf f.type = g.offset) (R : FieldsB P N (g :: r) F) : FieldsB P N (f :: g :: r) (prodE E F) :=
  fun H enc w cs hl h => by
    obtain ⟨n, x, hx⟩ := h f (by simp)
    obtain ⟨a, ha⟩ := B H enc w n _ x hx
    obtain ⟨b, hb⟩ := R H enc w cs hl fun f' hf' => h f' (List.mem_cons_of_mem _ hf')
    refine ⟨(a, b), (cs.drop f.offset).take (P.cellsOf f.type), cs.drop g.offset, ?_, ha, hb⟩
    show cs.drop f.offset = _
    rw [← hN, ← List.drop_drop, List.take_append_drop]
theorem bridge_struct {P : Program} {t : TypeId} {f : Field} {r : List Field} {α : Type} {E : Enc α} (ht : P.underlying t = some (.struct (f :: r).toArray)) (h0 : f.offset = 0) (F : FieldsB P (P.cellsOf t) (f :: r) E) : Bridge P t E := fun H enc w n cs x h => by
  obtain ⟨xs, m, _, _, hl, hlen, hf⟩ := DataW.trod_struct ht h
  obtain ⟨a, ha⟩ := F H enc w cs hl fun g hg => by
    obtain ⟨i, hi, rfl⟩ := List.getElem_of_mem hg
    have hi' : i < xs.length := by rw [hlen]; simpa using hi
    have := hf i (f :: r)[i] (by simp [List.getElem?_eq_getElem hi])
    rw [List.getElem?_eq_getElem hi'] at this
    exact ⟨m, _, this⟩
  exact ⟨a, by simpa [h0] using ha⟩
/-- An argument, opened. -/
theorem open_arg {P : Program} {t : TypeId} {α : Type} {E : Enc α} (B : Bridge P t E) {H : Type} {enc : TypeId × Value → H} {w : World} {v : Value} {d : DataW H} {p : List MemPlace} (h : DataW.Trod enc P w 0 (fun _ => true) true t v d p) : ∃ a, E.R [] w v.cells.toList a := by
  obtain ⟨n, hn⟩ := h
  exact B H enc w n _ _ hn
end Go.Sx
