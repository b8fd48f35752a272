/-
  Slices of one's own that came in and are handed back, and cuts of them. General: nothing of the program is named here.
-/
import Derived.Test.YtecmlmngcnionaaSxMem
namespace Go.Sx
open Go Go.RowKit

section
variable {w0 w w' : World} {Mu M : List Nat} {σ : List Res}
theorem Hp.startOwn {α : Type} {E : Enc α} {e : TypeId} {v : Value} {xs : List α} (hM : MLt M w) (hd : ∀ b ∈ ob v, b ∉ M) (h : Own E e 0 M w v xs) : Hp w (ob v) M [ownR (ob v) E e v xs] w := by
  refine ⟨Kp.refl _ _, fun b hb => ?_, Adv.refl _ _, hM, fun r hr b hb => ?_, fun r hr => ?_, fun i j r r' hi hj hne => ?_, fun r hr => ?_⟩
  · rcases List.mem_append.1 hb with h1 | h1
    · exact (h.ge b h1).2
    · exact hM b h1
  · have : r = ownR (ob v) E e v xs := by simpa using hr
    subst this
    exact hd b hb
  · have : r = ownR (ob v) E e v xs := by simpa using hr
    subst this
    exact ⟨fun b hb => hb, fun b hb => .inl hb⟩
  · cases i with
    | zero => cases j with
      | zero => exact absurd rfl hne
      | succ j => simp at hj
    | succ i => simp at hi
  · have : r = ownR (ob v) E e v xs := by simpa using hr
    subst this
    exact h.mon fun b hb => by
      rcases List.mem_append.1 hb with h1 | h1
      · exact .inl h1
      · exact .inr h1
/-- What is handed back of a slice that came in. -/
theorem Hp.ownBack {α : Type} {E : Enc α} {e : TypeId} {v : Value} {xs : List α} {u : Value} (h : Hp w0 (ob u) M σ w) (i : Nat) {mu : List Nat} (hi : σ[i]? = some (ownR mu E e v xs)) :
    Own E e 0 M w v xs ∧ (∀ b ∈ ob v, b ∈ ob u ∨ w0.heap.size ≤ b) ∧ Kp (ob u) w0 w :=
  ⟨(h.ownAt i hi).mon fun _ hb => .inr (mem_mm.2 (.inr hb)), fun b hb => ((h.own _ (List.mem_of_getElem? hi)).2 b hb).elim (fun h1 => .inl ((h.own _ (List.mem_of_getElem? hi)).1 b h1)) .inr, h.kp⟩
theorem Hp.lendA {α : Type} {E : Enc α} {e : TypeId} {v : Value} {xs : List α} {mu : List Nat} (i : Nat) (hi : σ[i]? = some (ownR mu E e v xs)) : Adv (mm σ M) (ob v ++ mm (σ.eraseIdx i) M) w w :=
  Adv.drop fun b hb => (List.mem_append.1 hb).elim (fun h => mem_mm.2 (.inl ⟨_, List.mem_of_getElem? hi, h⟩)) (mm_sub (List.eraseIdx_sublist σ i))
theorem Hp.lendOwn (h : Hp w0 Mu M σ w) (i : Nat) {α : Type} {E : Enc α} {e : TypeId} {v : Value} {xs : List α} {mu : List Nat} (hi : σ[i]? = some (ownR mu E e v xs)) : Own E e 0 (mm (σ.eraseIdx i) M) w v xs := (h.ownAt i hi).mon fun b hb => .inr (mm_sub (List.eraseIdx_sublist σ i) hb)
theorem Hp.lendM (h : Hp w0 Mu M σ w) (i : Nat) {α : Type} {E : Enc α} {e : TypeId} {v : Value} {xs : List α} {mu : List Nat} (hi : σ[i]? = some (ownR mu E e v xs)) : MLt (ob v ++ mm (σ.eraseIdx i) M) w := fun b hb =>
  (List.mem_append.1 hb).elim (fun h1 => h.mlt b (h.ownSub i hi b h1)) (fun h1 => h.mlt b (mm_sub (List.eraseIdx_sublist σ i) h1))
theorem Adv.lent {L M : List Nat} {w w' : World} (e : Kp L w w') : Adv (L ++ M) (L ++ M) w w' := ⟨e.mono fun b hb => .inl (List.mem_append_left _ hb), fun _ hb => .inl hb⟩
/-- A call that took a slice of one's own and handed one back. -/
theorem Hp.took {α : Type} {E : Enc α} {e : TypeId} {v v' : Value} {xs ys : List α} {mu : List Nat} (h : Hp w0 Mu M σ w) (i : Nat) (hi : σ[i]? = some (ownR mu E e v xs)) (hp : Own E e 0 (mm (σ.eraseIdx i) M) w' v' ys ∧ (∀ b ∈ ob v', b ∈ ob v ∨ w.heap.size ≤ b) ∧ Kp (ob v) w w') :
    Hp w0 Mu M (σ.set i (ownR mu E e v' ys)) w' := h.upd2 i hi hp.2.2 hp.2.1 rfl fun M' hM' => hp.1.mon hM'
theorem Hp.tookA {α : Type} {E : Enc α} {e : TypeId} {v v' : Value} {xs ys : List α} {mu : List Nat} (h : Hp w0 Mu M σ w) (i : Nat) (hi : σ[i]? = some (ownR mu E e v xs)) (hp : Own E e 0 (mm (σ.eraseIdx i) M) w' v' ys ∧ (∀ b ∈ ob v', b ∈ ob v ∨ w.heap.size ≤ b) ∧ Kp (ob v) w w') :
    Adv (mm σ M) (mm (σ.set i (ownR mu E e v' ys)) M) w w' := h.updA (r' := ownR mu E e v' ys) i hi hp.2.2 hp.2.1
end

theorem Chunks.take {α : Type} {E : Enc α} {M : List Nat} {w : World} : ∀ {cs : List Value} {ys : List α}, Chunks E M w cs ys → ∀ k, k ≤ ys.length → Chunks E M w (cs.take (k * E.n)) (ys.take k)
  | cs, [], hc, k, _ => by have hc : cs = [] := hc; subst hc; simp; rfl
  | cs, y :: ys, ⟨c, rest, e, hR, hr⟩, 0, _ => by simp; rfl
  | cs, y :: ys, ⟨c, rest, e, hR, hr⟩, k + 1, hk => by
    have hl := E.len hR
    refine ⟨c, rest.take (k * E.n), ?_, hR, Chunks.take hr k (by simpa using hk)⟩
    rw [e, Nat.add_mul, Nat.one_mul, Nat.add_comm, ← hl]
    simp [List.take_append]
    exact List.take_of_length_le (Nat.le_add_right _ _)
theorem Own.take {α : Type} {E : Enc α} {e : TypeId} {Bb : Nat} {M : List Nat} {w : World} {a : Option Addr} {n c : Nat} {xs : List α} (h : Own E e Bb M w (.slice a n c) xs) (k : Nat) (hk : k ≤ xs.length) : Own E e Bb M w (.slice a k c) (xs.take k) := by
  rcases h with ⟨a', he, rfl⟩ | ⟨g, cap, cur, he, h1, h2, h3, h4, h5, h6⟩
  · cases he
    have : k = 0 := by simpa using hk
    subst this
    exact .inl ⟨_, rfl, rfl⟩
  · cases he
    refine .inr ⟨g, cap, cur, by rw [List.length_take, Nat.min_eq_left hk], h1, h2, by rw [List.length_take]; omega, h4, h5, ?_⟩
    have := h6.take k hk
    rw [List.take_take] at this
    rw [List.length_take, Nat.min_eq_left hk]
    rwa [Nat.min_eq_left (Nat.mul_le_mul_right _ hk)] at this
theorem Reg.eff0 {P : Program} {N : Nat} {ops : Array Oper} {rest : List Oper} {ds : List Deferred} {L : Env} {w : World} {A B : Out} {X : Nat → Out} {Z : List PanicEntry → Out} {o : Oper} (v : Value) (w' : World) (hg : o.guard = none) (hd : o.dst = none)
    (hr : ∀ a, Knows N ds L a → (execOp a.eval o).run P w = .ok (.value v) w')
    (h : Reg P N ops .seq rest ds L w' A B X Z) : Reg P N ops .seq (o :: rest) ds L w A B X Z := by
  intro a ha
  refine wpList_plain hg fun K hK => ?_
  simp only [Oper.wp, hr a ha, Oper.upon_value, hd]
  exact hK _ _ (h _ ha)
theorem cutLo_inK {α : Type} {xs l : List α} {j : Int} (h : cutLo xs j = some l) (hx : InK .i64 xs.length) : InK .i64 l.length := by
  obtain ⟨h1, rfl⟩ := cutLo_out h
  rw [InK.i64] at *
  rw [List.length_drop]
  omega
/-- v' is v from k on. -/
def View {α : Type} (E : Enc α) (v v' : Value) (k : Nat) : Prop := ∃ a n c, v = .slice a n c ∧ v' = .slice (if c = k then a else a.map (·.add (k * E.n))) (n - k) (c - k)
section
variable {P : Program} {N : Nat} {ops : Array Oper} {q : Md} {rest : List Oper} {ds : List Deferred} {L : Env} {w w0 : World} {A B : Out} {X : Nat → Out} {Z : List PanicEntry → Out} {d : Nat} {ty : TypeId} {pos : String} {af : Array Edge} {Mu M : List Nat} {σ : List Res}
/-- x[l:] of one's own. -/
theorem y_vw (i : Nat) {α : Type} {E : Enc α} {mu : List Nat} {e' t e : TypeId} {x y : Operand} {v : Value} {xs l : List α} {k : IntKind} {j : Int} (hI : Hp w0 Mu M σ w) (hi : σ[i]? = some (ownR mu E e' v xs))
    (hx : ev L x = some v) (hy : ev L y = some (.int k j)) (hl : cutLo xs j = some l) (ht : P.underlying t = some (.slice e)) (hs : ∀ w, (sizeOf e).run P w = .ok E.n w) (hN : Nat.blt d N = true)
    (h : ∀ v', View E v v' j.toNat → Reg P N ops q rest ds ((d, v') :: L) w A B X Z) :
    Reg P N ops q (⟨some d, .slice t x (some y) none none, ty, pos, af, none⟩ :: rest) ds L w A B X Z := by
  obtain ⟨⟨h0, h1⟩, _⟩ := cutLo_out hl
  obtain ⟨a, c, rfl, h2, h3⟩ := (hI.ownAt i hi).shape
  have ht' : P.underlying t = some (.slice (P.elem t)) := by simp [Program.elem, ht]
  have he : P.elem t = e := by simp [Program.elem, ht]
  refine Reg.val _ rfl rfl hN (fun a' ha w' _ => ?_) (h _ ⟨a, _, c, rfl, rfl⟩)
  have hr := run_slice_l (P := P) w' t a xs.length c ht' k j h0 (by omega)
  simp [execOp, ha.eval hx, ha.eval hy, run_sliceAt_slice w' t _ _ _ _ ht', hr, he, hs, sliced]
theorem y_vlen (i : Nat) {α : Type} {E : Enc α} {mu : List Nat} {e' t e : TypeId} {x : Operand} {v v' : Value} {xs l : List α} {j : Int} (hI : Hp w0 Mu M σ w) (hi : σ[i]? = some (ownR mu E e' v xs)) (hv : View E v v' j.toNat) (hl : cutLo xs j = some l)
    (hx : ev L x = some v') (ht : P.underlying t = some (.slice e)) (hN : Nat.blt d N = true) (h : Reg P N ops q rest ds ((d, .int .i64 l.length) :: L) w A B X Z) :
    Reg P N ops q (⟨some d, .call ⟨.builtin .len, #[x], #[t]⟩, ty, pos, af, none⟩ :: rest) ds L w A B X Z := by
  obtain ⟨_, rfl⟩ := cutLo_out hl
  obtain ⟨a, c, rfl, h2, h3⟩ := (hI.ownAt i hi).shape
  obtain ⟨a', n', c', he, rfl⟩ := hv
  cases he
  rw [List.length_drop] at h
  exact s_lenV hx ht hN h
/-- The address of an element of such a cut. -/
theorem y_iaV (i : Nat) {α : Type} {E : Enc α} {mu : List Nat} {e' t e : TypeId} {x y : Operand} {v v' : Value} {xs l : List α} {k : IntKind} {j m : Int} {z : α} (hI : Hp w0 Mu M σ w) (hi : σ[i]? = some (ownR mu E e' v xs)) (hv : View E v v' j.toNat) (hl : cutLo xs j = some l)
    (hx : ev L x = some v') (hy : ev L y = some (.int k m)) (hz : ixo l m = some z) (ht : P.underlying t = some (.slice e)) (hs : ∀ w, (sizeOf e).run P w = .ok E.n w) (hN : Nat.blt d N = true)
    (h : ∀ g cs, ob v = [g] → ixo xs (j + m) = some z → E.R (mm σ M) w cs z → Cells w g ((j + m).toNat * E.n) cs → Reg P N ops q rest ds ((d, .pointer (some ⟨g, (j + m).toNat * E.n, none⟩)) :: L) w A B X Z) :
    Reg P N ops q (⟨some d, .indexAddr t x y, ty, pos, af, none⟩ :: rest) ds L w A B X Z := by
  obtain ⟨⟨h0, h1⟩, rfl⟩ := cutLo_out hl
  obtain ⟨m0, m1, m2⟩ := ixo_out hz
  rw [List.getElem?_drop] at m2
  have hjm : (j + m).toNat = j.toNat + m.toNat := by omega
  rw [List.length_drop] at m1
  have hz' : ixo xs (j + m) = some z := ixo_some (by omega) (by rw [hjm]; exact m2)
  have ho := hI.ownAt i hi
  obtain ⟨g, cap, cur, rfl, hob, _, _, hle, _⟩ := ho.at_ (by omega)
  obtain ⟨cs, hR, hC⟩ := ho.cellsAt hob m2
  rw [← hjm] at hC
  obtain ⟨a', n', c', he, rfl⟩ := hv
  cases he
  refine Reg.val (.pointer (some ⟨g, (j + m).toNat * E.n, none⟩)) rfl rfl hN (fun a ha w' _ => ?_) (h g cs hob hz' hR hC)
  have hck : ¬ cap + 1 = j.toNat := by omega
  have hnk : m < ((xs.length - j.toNat : Nat) : Int) := by omega
  simp [execOp, ha.eval hx, ha.eval hy, Instr.indexAt, asIntOf, run_underlying ht, hck, m0, hnk, hs, add_none, hjm, Nat.add_mul]
theorem zeroCells_list (zc : Array Value) (m : Nat) : (Builtin.zeroCells zc m).toList = (List.replicate m zc.toList).flatten := by
  have key : (List.range (m * zc.size)).map (fun i => zc[i % zc.size]!) = (List.replicate m zc.toList).flatten := by
    induction m with
    | zero => simp
    | succ m ih =>
      rw [Nat.add_mul, Nat.one_mul, List.range_add, List.map_append, ih, List.map_map, List.replicate_succ', List.flatten_append]
      congr 1
      simp only [List.flatten_cons, List.flatten_nil, List.append_nil]
      apply List.ext_getElem
      · simp
      · intro i h1 h2
        simp at h1
        simp [Nat.add_mod, Nat.mod_eq_of_lt h1, h1]
  rw [← key]
  simp [Builtin.zeroCells]
/-- clear(x[l:]) -/
theorem y_clear (i : Nat) {α : Type} {E : Enc α} {mu : List Nat} {e t : TypeId} {x : Operand} {v v' z : Value} {zc : List Value} {z0 : α} {xs l : List α} {j : Int} (hI : Hp w0 Mu M σ w) (hi : σ[i]? = some (ownR mu E e v xs)) (hv : View E v v' j.toNat) (hl : cutLo xs j = some l)
    (hx : ev L x = some v') (ht : P.underlying t = some (.slice e)) (hz : ∀ w, (zeroValue e).run P w = .ok z w) (hzc : z.cells = zc.toArray) (hz0 : ∀ M w, E.R M w zc z0)
    (h : ∀ w', Hp w0 Mu M (σ.set i (ownR mu E e v (xs.take j.toNat ++ List.replicate l.length z0))) w' → Adv (mm σ M) (mm (σ.set i (ownR mu E e v (xs.take j.toNat ++ List.replicate l.length z0))) M) w w' → Reg P N ops .seq rest ds L w' A B X Z) :
    Reg P N ops .seq (⟨none, .call ⟨.builtin .clear, #[x], #[t]⟩, ty, pos, af, none⟩ :: rest) ds L w A B X Z := by
  obtain ⟨⟨h0, h1⟩, rfl⟩ := cutLo_out hl
  have ho := hI.ownAt i hi
  have hlen : (xs.take j.toNat ++ List.replicate (xs.drop j.toNat).length z0).length = xs.length := by simp; omega
  rcases Nat.lt_or_ge j.toNat xs.length with hlt | hge
  · obtain ⟨g, cap, cur, rfl, hob, hB, hheap, hle, hmax, hsize, hch⟩ := ho.at_ (by omega)
    obtain ⟨a', n', c', he, rfl⟩ := hv
    cases he
    have hck : ¬ cap + 1 = j.toNat := by omega
    have hcl : cur.toList.length = (cap + 1) * E.n := by rw [← hsize]; exact Array.length_toList
    have hzl : zc.length = E.n := E.len (hz0 [] w)
    have hvs : ((List.replicate (xs.length - j.toNat) zc).flatten).length = (xs.length - j.toNat) * E.n := by
      simp [List.length_flatten, hzl]
    have hroom : j.toNat * E.n + (xs.length - j.toNat) * E.n = xs.length * E.n := by rw [← Nat.add_mul]; congr 1; omega
    have hroom2 : xs.length * E.n ≤ (cap + 1) * E.n := Nat.mul_le_mul_right _ hle
    have hrow : Row e w g cur.toList := hheap
    obtain ⟨w', hrun, hw', hk⟩ := run_storeAt (P := P) g e ((List.replicate (xs.length - j.toNat) zc).flatten) 0 cur.toList w (j.toNat * E.n) hrow (by rw [hcl, hvs]; omega) (fun u hu => by
      obtain ⟨c, hc, hu⟩ := List.mem_flatten.1 hu
      rw [List.eq_of_mem_replicate hc] at hu
      exact E.one (hz0 [] w) u hu)
    have hk' : Kp (ob (Value.slice (some ⟨g, 0, none⟩) xs.length (cap + 1))) w w' := by rw [hob]; exact hk
    have hsub := hI.ownSub i hi
    rw [hob] at hsub
    have hadv : Adv (g :: mm σ M) (g :: mm σ M) w w' := ⟨hk.mono fun x hx => .inl (by simp at hx; subst hx; exact List.mem_cons_self ..), fun _ h => .inl h⟩
    have hown : Own E e 0 (mm σ M) w' (Value.slice (some ⟨g, 0, none⟩) xs.length (cap + 1)) (xs.take j.toNat ++ List.replicate (xs.drop j.toNat).length z0) := by
      refine .inr ⟨g, cap, (setAt cur.toList (j.toNat * E.n) ((List.replicate (xs.length - j.toNat) zc).flatten)).toArray, by rw [hlen], Nat.zero_le _, by simpa [Row] using hw', by rw [hlen]; exact hle, hmax, by simp [setAt_len, hcl], ?_⟩
      have he : ((setAt cur.toList (j.toNat * E.n) ((List.replicate (xs.length - j.toNat) zc).flatten)).toArray.toList.take ((xs.take j.toNat ++ List.replicate (xs.drop j.toNat).length z0).length * E.n)) = (cur.toList.take (j.toNat * E.n)) ++ (List.replicate (xs.length - j.toNat) zc).flatten := by
        rw [hlen, show (setAt cur.toList (j.toNat * E.n) ((List.replicate (xs.length - j.toNat) zc).flatten)).toArray.toList = setAt cur.toList (j.toNat * E.n) ((List.replicate (xs.length - j.toNat) zc).flatten) from rfl, setAt_eq _ _ _ (by rw [hcl, hvs]; omega), ← hroom, ← hvs]
        have hl2 : (cur.toList.take (j.toNat * E.n) ++ (List.replicate (xs.length - j.toNat) zc).flatten).length = j.toNat * E.n + ((List.replicate (xs.length - j.toNat) zc).flatten).length := by
          rw [List.length_append, List.length_take, hcl, Nat.min_eq_left (by omega)]
        rw [← hl2]; exact List.take_left
      rw [he]
      have hrep : ∀ m, Chunks E (g :: mm σ M) w' ((List.replicate m zc).flatten) (List.replicate m z0) := by
        intro m
        induction m with
        | zero => exact rfl
        | succ m ih => exact ⟨zc, _, by rw [List.replicate_succ]; rfl, hz0 _ _, by simpa using ih⟩
      rw [List.length_drop]
      refine Chunks.append (hrep _) (Chunks.adv hadv ?_)
      have h5 := hch.take j.toNat (by omega)
      rwa [List.take_take, Nat.min_eq_left (Nat.mul_le_mul_right _ (by omega))] at h5
    refine Reg.eff0 (.tuple #[]) w' rfl rfl (fun a ha => ?_) (h w' (hI.upd i hi hk' (fun b hb => .inl hb) rfl fun M' hM' => hown.mon hM') (hI.updA (r' := ownR mu E e _ _) i hi hk' fun b hb => .inl hb))
    obtain ⟨m, hm⟩ : ∃ m, xs.length - j.toNat = m + 1 := ⟨xs.length - j.toNat - 1, by omega⟩
    rw [hm] at hrun
    have hzl2 := zeroCells_list zc.toArray (m + 1)
    have hn : ∀ a', (if cap + 1 = j.toNat then a' else Option.map (fun x : Addr => x.add (j.toNat * E.n)) (some ⟨g, 0, none⟩)) = some ⟨g, j.toNat * E.n, none⟩ := fun a' => by rw [if_neg hck]; simp [add_none]
    rw [hn, hm] at hx
    have hrun2 : (storeCells ⟨g, j.toNat * E.n, none⟩ (Builtin.zeroCells z.cells (m + 1)).toList).run P w = .ok () w' := by
      rw [hzc, hzl2]; exact hrun
    simp [execOp, resolve, invoke, builtin, ha.eval hx, Builtin.clear_, run_underlying ht, hz, hrun2]
  · have hn0 : (xs.drop j.toNat).length = 0 := by rw [List.length_drop]; omega
    have hxs : xs.take j.toNat ++ List.replicate (xs.drop j.toNat).length z0 = xs := by rw [hn0, List.take_of_length_le hge]; simp
    rw [hxs] at h
    refine Reg.eff0 (.tuple #[]) w rfl rfl (fun a ha => ?_) (h w (hI.upd i hi (Kp.refl _ _) (fun b hb => .inl hb) rfl fun M' hM' => ho.mon hM') (hI.updA (r' := ownR mu E e v xs) i hi (Kp.refl _ _) fun b hb => .inl hb))
    obtain ⟨a', n', c', rfl, rfl⟩ := hv
    obtain ⟨a2, c2, he2, _⟩ := ho.shape
    cases he2
    have h00 : xs.length - j.toNat = 0 := by omega
    simp only [h00] at hx
    generalize (if c' = j.toNat then a' else Option.map (fun x : Addr => x.add (j.toNat * E.n)) a') = a3 at hx
    cases a3 <;> simp [execOp, resolve, invoke, builtin, ha.eval hx, Builtin.clear_, run_underlying ht]
/-- x[:h] of one's own, which is given up for it. -/
theorem y_tk (i : Nat) {α : Type} {E : Enc α} {mu : List Nat} {e' t e : TypeId} {x y : Operand} {v : Value} {xs l : List α} {k : IntKind} {j : Int} (hI : Hp w0 Mu M σ w) (hi : σ[i]? = some (ownR mu E e' v xs))
    (hx : ev L x = some v) (hy : ev L y = some (.int k j)) (hl : cutHi xs j = some l) (ht : P.underlying t = some (.slice e)) (hs : ∀ w, (sizeOf e).run P w = .ok E.n w) (hN : Nat.blt d N = true)
    (h : ∀ v', Hp w0 Mu M (σ.set i (ownR mu E e' v' l)) w → Adv (mm σ M) (mm (σ.set i (ownR mu E e' v' l)) M) w w → Reg P N ops .seq rest ds ((d, v') :: L) w A B X Z) :
    Reg P N ops .seq (⟨some d, .slice t x none (some y) none, ty, pos, af, none⟩ :: rest) ds L w A B X Z := by
  obtain ⟨⟨h0, h1⟩, rfl⟩ := cutHi_out hl
  have ho := hI.ownAt i hi
  obtain ⟨a, c, rfl, h2, h3⟩ := ho.shape
  have ht' : P.underlying t = some (.slice (P.elem t)) := by simp [Program.elem, ht]
  have he : P.elem t = e := by simp [Program.elem, ht]
  have hval : sliced a 0 j.toNat c E.n = .slice a j.toNat c := by
    simp only [sliced, Nat.zero_mul, Nat.sub_zero]
    congr 1
    split
    · rfl
    · cases a <;> simp [Addr.add]
  have hown := ho.take j.toNat (by omega)
  have hob : ∀ b ∈ ob (Value.slice a j.toNat c), b ∈ ob (Value.slice a xs.length c) := fun b hb => by cases a <;> cases c <;> first | exact hb | simpa [ob] using hb
  refine Reg.val (.slice a j.toNat c) rfl rfl hN (fun a' ha w' _ => ?_) (h _ (hI.upd i hi (Kp.refl _ _) (fun b hb => .inl (hob b hb)) rfl fun M' hM' => hown.mon hM') (hI.updA (r' := ownR mu E e' (.slice a j.toNat c) _) i hi (Kp.refl _ _) fun b hb => .inl (hob b hb)))
  have hr := run_slice_h (P := P) w' t a xs.length c ht' k j h0 (by omega)
  simp [execOp, ha.eval hx, ha.eval hy, run_sliceAt_slice w' t _ _ _ _ ht', hr, he, hs, hval]
/-- A method called behind an interface's value. -/
def CallsI (P : Program) (v : Value) (name : String) (args : List Value) (w : World) (R : Ending → World → Prop) : Prop := ∃ f recv, Meth P v name f recv ∧ Calls P f (recv :: args).toArray w R
theorem CallsI.mono {v : Value} {name : String} {args : List Value} {w : World} {R R' : Ending → World → Prop} (h : CallsI P v name args w R) (hr : ∀ e w', R e w' → R' e w') : CallsI P v name args w R' := by
  obtain ⟨f, recv, h1, h2⟩ := h; exact ⟨f, recv, h1, h2.mono hr⟩
theorem s_invD {r : Operand} {name : String} {xs : List Operand} {vs : List Value} {ts : Array TypeId} {v : Value} (hr : ev L r = some v) (hvs : evs L xs = some vs) (hN : Nat.blt d N = true)
    (h : CallsI P v name vs w fun e w' => ∃ v, e = .returned v ∧ Reg P N ops .seq rest ds ((d, v) :: L) w' A B X Z) :
    Reg P N ops .seq (⟨some d, .call ⟨.invoke r name, xs.toArray, ts⟩, ty, pos, af, none⟩ :: rest) ds L w A B X Z := by
  obtain ⟨f, recv, hm, hc⟩ := h
  exact s_inv hr hvs hm hN hc
end
end Go.Sx
