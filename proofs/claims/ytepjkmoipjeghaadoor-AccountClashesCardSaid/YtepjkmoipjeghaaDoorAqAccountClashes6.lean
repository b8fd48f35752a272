/-
  Part AccountClashes 6 of the texts that the statement's proof stands on: what memory holds, how code is walked, what the functions reckon. In the order in which they build.
-/
import Derived.Test.YtepjkmoipjeghaaDoorProg
import Derived.Test.YtepjkmoipjeghaaDoorAqAccountClashes5
set_option linter.unusedVariables false
set_option linter.unusedSectionVars false
namespace Go.Proofs.YtepjkmoipjeghaaDoor
open Go Go.Sx Go.RowKit
open Classical in
noncomputable def P.account_kept (l : List Report) (account day known : Int) : Option Book := Option.bind (P.account_open l known) fun d => Option.bind (P.account_desk_facts d) fun it => Option.bind (P.account_facts it) fun fs =>
  if fs.length * 64 ≤ 140737488355328 ∧ ∀ r ∈ fs, InR r then some (Book.mk (fs.filter fun r => decide (r.account = account) && decide (r.about ≤ day))) else none
def AlK (M : List Nat) (b5 b6 b9 : Nat) (x : RepI) (L : Sx.Env) (W : World) : Prop := ∃ b10 u, Sub [(5, .pointer (some ⟨b5, 0, none⟩)), (6, .pointer (some ⟨b6, 0, none⟩)), (9, .pointer (some ⟨b9, 0, none⟩)), (10, .pointer (some ⟨b10, 0, none⟩))] L ∧ Row 61 W b10 (encR x.1) ∧ Row 105 W b9 [u] ∧ b10 ∉ ob u ∧ b10 ≠ b9 ∧ b10 ∉ M
theorem C_account_kept {M : List Nat} {w : World} (hM : MLt M w) (hG : RdC M w 0 0 (glob0.map (Value.int .i64))) {l : (List Report)} {v_l_0 : Value} (f_l_0 : RdS ReportE M w v_l_0 l) {account : Int} (f_account_0 : InK .i64 account) {day : Int} (f_day_0 : InK .i64 day) {known : Int} (f_known_0 : InK .i64 known) {r0 : Book} (h : P.account_kept l account day known = some r0) :
  Calls Tryd.prog 52 (List.toArray [v_l_0, vi account, vi day, vi known]) w fun e w' => ∃ v0_0 : Value, e = .returned (Value.agg (List.toArray [v0_0])) ∧ RdS ReportE M w' v0_0 r0.facts ∧ Ext w w' := by
 unfold P.account_kept at h
 obtain ⟨d, hd, h⟩ := bnd h
 obtain ⟨it, hit, h⟩ := bnd h
 obtain ⟨fs, hfs, h⟩ := bnd h
 split at h
 ·rename_i hc
  obtain rfl := Option.some.inj h
  obtain ⟨xs, hxs⟩ : ∃ xs : List RepI, xs.map Subtype.val = fs := ⟨fs.attach.map fun r => ⟨r.1, hc.2 r.1 r.2⟩, by rw [List.map_map]; exact List.attach_map_subtype_val fs⟩
  have hxl : xs.length = fs.length := by rw [← hxs, List.length_map]
  obtain ⟨p, hp⟩ : ∃ p : Report → Bool, p = fun r => decide (r.account = account) && decide (r.about ≤ day) := ⟨_, rfl⟩
  rw [← hp, ← hxs]
  rw [← hxs] at hfs
  refine calls_cwM Tryd.func52 rfl Tryd.ntmps52 rfl ?_
  have hI := Hp.start (Mu := []) hM
  refine cw_seq (cw_regF (y_box hI rfl rfl rfl ?_))
  intro b5 w2 hI2 x2
  have hC5 := hI2.freezeRow 0 rfl
  have hI3 := hI2.erase 0
  refine y_box hI3 rfl rfl rfl ?_
  intro b6 w4 hI4 x4
  have hC6 := hI4.freezeRow 0 rfl
  have hI5 := hI4.erase 0
  refine y_al hI5 Tryd.zeroValue105 rfl rfl ?_
  intro b8 w6 hI6 x6
  refine Reg.nil ?_
  have a06 : Adv M (mm [rowR 105 b8 [.slice none 0 0]] M) w w6 := hI6.adv
  have hC5' : RdC (mm [rowR 105 b8 [.slice none 0 0]] M) w6 b5 0 [.int .i64 account] := hC5.adv (x4.trans ((Hp.eraseA (σ := [rowR 3 b6 [.int .i64 day]]) 0).trans x6))
  have hC6' : RdC (mm [rowR 105 b8 [.slice none 0 0]] M) w6 b6 0 [.int .i64 day] := hC6.adv x6
  have hJ := Hp.start (Mu := []) hI6.mlt
  obtain ⟨M6, hM6⟩ : ∃ M6, M6 = mm [rowR 105 b8 [.slice none 0 0]] M := ⟨_, rfl⟩
  have hJ : Hp w6 [] M6 [] w6 := by rw [hM6]; exact hJ
  rw [← hM6] at a06 hC5' hC6'
  have hb8M : b8 ∈ M6 := by rw [hM6]; simp [mm, rowR]
  refine cw_seq (cw_regF (y_al hJ Tryd.zeroValue105 rfl rfl ?_))
  intro b9 w7 hJ7 x7
  refine Reg.nil ?_
  have a07 := a06.trans hJ7.adv
  refine cw_seq (cw_seq (cw_regF (s_mv rfl rfl (s_mv rfl rfl (s_call rfl Tryd.call37 rfl ((C_account_open hJ7.mlt (hG.adv a07) (f_l_0.adv a07) f_known_0 hd).mono ?_))))))
  rintro _ w8 ⟨q0, q1, q2, rfl, g0, g1, g2, e8⟩
  refine ⟨_, rfl, ?_⟩
  have hJ8 := hJ7.ext e8
  refine s_call rfl Tryd.call38 rfl ((C_account_desk_facts hJ8.mlt g0 g1 g2 hit).mono ?_)
  rintro _ w9 ⟨vi, rfl, hf, e9⟩
  refine ⟨_, rfl, ?_⟩
  have hJ9 := hJ8.ext e9
  refine Reg.nil ?_
  have hJ10 : Hp w6 [] M6 (grS ReportE 61 105 b9 (.slice none 0 0) []) w9 := hJ9.addNil ReportE 61
  have hb9 : b9 < w9.heap.size := hJ10.mlt b9 (by simp [mm, rowR])
  have hgn : gOf w9 b9 = none := by rw [hJ10.gof]; rfl
  obtain ⟨lb, hv, hseq⟩ := facts_stops 2 hJ9.mlt hf hfs hb9 (fun g hg => by rw [hgn] at hg; cases hg)
  subst hv
  refine cw_sub (L := [(14, _), (5, .pointer (some ⟨b5, 0, none⟩)), (6, .pointer (some ⟨b6, 0, none⟩)), (8, .pointer (some ⟨b8, 0, none⟩)), (9, .pointer (some ⟨b9, 0, none⟩))]) (sb5 rfl rfl rfl rfl rfl) (cw_block ?_)
  refine cw_rangeV (val := fun r : RepI => .agg (encR r.1).toArray) (K := KB b9) (xs := xs) rfl Tryd.call73 rfl hseq (fun h k => h.trans k) (fun W lp o o' hlp ho hc _ => KB.putObj ho hc (by omega))
   (fun pre W => ∃ v', Hp w6 [] M6 (grS ReportE 61 105 b9 v' ((pre.map Subtype.val).filter p)) W ∧ w9.heap.size ≤ W.heap.size ∧ pre.length ≤ xs.length) (fun _ _ => False) ?_ (fun _ _ _ _ h _ _ => h.elim) ⟨_, hJ10, Nat.le_refl _, Nat.zero_le _⟩ (AlK M6 b5 b6 b9) ?_ ?_ ?_ ?_ (fun _ _ _ _ _ h _ => h.elim)
  ·rintro pre W W' row ⟨v', h1, h2, h3⟩ hg hr
   exact ⟨v', h1.turnG flatR (fun h => h) hg (fun r e => ⟨Nat.le_trans hJ10.kp.size (hr r e).1, (hr r e).2⟩), Nat.le_trans h2 hg.size, h3⟩
  ·rintro x L' _ W W' row ⟨b10, u, h1, h2, h3, h4, h5, h6⟩ hg hr
   have hcl : ∀ (b : Nat) (o : Obj), W.heap[b]? = some o → o.isCells = true → W'.heap[b]? = W.heap[b]? := fun b o hb hc => hg.block b (heap_lt hb) fun e => by
    obtain ⟨_, o', g1, g2⟩ := hr b e.symm
    rw [hb] at g1; cases g1
    rw [hc] at g2; cases g2
   exact ⟨b10, u, h1, (hcl b10 _ h2 rfl).trans h2, (hcl b9 _ h3 rfl).trans h3, h4, h5, h6⟩
  ·rintro l' pre x W ⟨v', h1, h2, h3⟩
   refine ci_reg rfl ?_
   refine y_al h1 Tryd.zeroValue61 rfl rfl ?_
   intro b10 w5 hI5 x5
   refine y_st 0 hI5 rfl rfl rfl rfl Tryd.sizeOf61 rfl rfl (on8 rfl rfl rfl rfl rfl rfl rfl rfl) ?_
   intro w6' hI6 x6
   have hI6' : Hp w6 [] M6 (rowR 61 b10 (encR x.1) :: grS ReportE 61 105 b9 v' ((pre.map Subtype.val).filter p)) w6' := hI6
   have hI7 : Hp w6 [] M6 (grS ReportE 61 105 b9 v' ((pre.map Subtype.val).filter p)) w6' := hI6'.erase 0
   have hA : Adv (mm (grS ReportE 61 105 b9 v' ((pre.map Subtype.val).filter p)) M6) (mm (grS ReportE 61 105 b9 v' ((pre.map Subtype.val).filter p)) M6) W w6' := x5.trans (x6.trans (Hp.eraseA (σ := rowR 61 b10 (encR x.1) :: grS ReportE 61 105 b9 v' ((pre.map Subtype.val).filter p)) 0))
   obtain ⟨hk1, hk2⟩ := h1.kb hI7 hA
   refine Reg.nil ⟨rfl, ⟨hk2.size, fun k o hB => hk2.same k o (Nat.le_trans hJ10.kp.size hB)⟩, hk1, ⟨v', hI7, Nat.le_trans h2 hA.kp.size, h3⟩, b10, v', sb4 rfl rfl rfl rfl, hI6'.row 0 rfl, hI6'.row 2 rfl, ?_, ?_, ?_⟩
   ·intro hb
    exact hI6'.dis 0 1 _ _ rfl rfl (by omega) b10 (by simp [rowR]) hb
   ·intro hb
    exact hI6'.dis 0 2 _ _ rfl rfl (by omega) b10 (by simp [rowR]) (by simp [rowR, hb])
   exact hI6'.sepM _ (List.mem_cons_self ..) b10 (by simp [rowR])
  ·rintro l' pre x L' W ⟨v', h1, h2, h3⟩ ⟨b10, u, hs, hr10, hru, h10u, h109, h10M⟩ hlt
   have huv : u = v' := by
    have e1 : W.heap[b9]? = _ := hru
    have e2 : W.heap[b9]? = _ := h1.row 1 rfl
    rw [e1] at e2
    have := Option.some.inj e2
    injection this with h9
    simpa using h9
   subst huv
   refine ci_sub hs ?_
   refine ci_block ?_
   have hC10 : RdC (mm (grS ReportE 61 105 b9 u ((pre.map Subtype.val).filter p)) M6) W b10 0 (encR x.1) := RdC.of_row (fun hb => by
    simp only [mm, ownR, rowR, List.mem_append, List.mem_cons, List.not_mem_nil, or_false] at hb
    rcases hb with h9 | h9 | h9
    ·exact h10u h9
    ·exact h109 h9
    ·exact h10M h9) hr10
   have hC5W := hC5'.adv h1.adv
   have hC6W := hC6'.adv h1.adv
   obtain ⟨q0, q1, q2, q3, q4, q5, q6, q7⟩ := x.2
   have hpx : p x.1 = (decide (x.1.account = account) && decide (x.1.about ≤ day)) := by rw [hp]
   have hlen : ((pre.map Subtype.val).filter p).length ≤ pre.length := by
    have := List.length_filter_le p (pre.map Subtype.val)
    rwa [List.length_map] at this
   have keep : p x.1 = false → KeepsFrom w9.heap.size W W ∧ KB b9 W W ∧ ∃ v', Hp w6 [] M6 (grS ReportE 61 105 b9 v' (((pre ++ [x]).map Subtype.val).filter p)) W ∧ w9.heap.size ≤ W.heap.size ∧ (pre ++ [x]).length ≤ xs.length := fun hf => by
    refine ⟨⟨Nat.le_refl _, fun _ _ _ h _ => h⟩, KB.refl _ _, u, ?_, h2, by simp; omega⟩
    have h9 : ((pre ++ [x]).map Subtype.val).filter p = (pre.map Subtype.val).filter p := by simp [hf]
    rw [h9]; exact h1
   refine ci_seq ?_
   refine ci_reg rfl ?_
   refine s_fa rfl Tryd.underlying61 rfl Tryd.sizeOf3 rfl (s_ld rfl (hC10.cells.at 2 rfl) Tryd.isAgg3 rfl (s_ld rfl (hC5W.cells.at 0 rfl) Tryd.isAgg3 rfl (s_eql rfl rfl rfl (s_mv rfl rfl (Reg.gsplit (t := 20) rfl (fun hg => ?_) (fun hg => ?_))))))
   ·refine Reg.take rfl rfl (s_fa rfl Tryd.underlying61 rfl Tryd.sizeOf3 rfl (Reg.take rfl rfl (s_ld rfl (hC10.cells.at 4 rfl) Tryd.isAgg3 rfl (Reg.take rfl rfl (s_ld rfl (hC6W.cells.at 0 rfl) Tryd.isAgg3 rfl (Reg.take rfl rfl (s_leq rfl rfl rfl (s_pkT rfl rfl rfl (Reg.nil (ci_cond rfl (fun hg2 => ?_) (fun hg2 => ?_)))))))))))
    ·refine ci_reg rfl ?_
     refine s_fa rfl Tryd.underlying105 rfl Tryd.sizeOf22 rfl (s_ld rfl ((h1.row 1 rfl).rd.cells.at 0 rfl) Tryd.isAgg22 rfl (s_lda rfl hC10.cells Tryd.isAgg61 rfl Tryd.sizeOf61 rfl (y_bs (E := ReportE) (xs := [x.1]) sl22 h1 rfl rfl (Cls.cons rfl Cls.nil) (Chs.cons (ReportE_R.2 ⟨rfl, q0, q1, q2, q3, q4, q5, q6, q7⟩) Chs.nil) rfl rfl ?_)))
     intro v8 w8' hI8 x8
     have hf9 := hI8.freeze 0 rfl
     have hI9 := hI8.erase 0
     refine y_app 0 sl22 hI9 rfl rfl rfl hf9 ⟨?_, ?_⟩ rfl ?_
     ·have : [x.1].length = 1 := rfl
      omega
     ·have : [x.1].length = 1 := rfl
      omega
     intro v10 w10 hI10 x10
     refine s_fa rfl Tryd.underlying105 rfl Tryd.sizeOf22 rfl (y_st 1 hI10 rfl rfl rfl (Own.cells1 (hI10.ownAt 0 rfl)) Tryd.sizeOf22 rfl rfl (one1 (Own.oneC (hI10.ownAt 0 rfl)) one0) ?_)
     intro w11 hI11 x11
     have h9 : ((pre ++ [x]).map Subtype.val).filter p = (pre.map Subtype.val).filter p ++ [x.1] := by
      have : p x.1 = true := by rw [hpx, hg, hg2]; rfl
      simp [this]
     have hI12 : Hp w6 [] M6 (grS ReportE 61 105 b9 v10 (((pre ++ [x]).map Subtype.val).filter p)) w11 := by rw [h9]; exact hI11
     have hA : Adv (mm (grS ReportE 61 105 b9 u ((pre.map Subtype.val).filter p)) M6) (mm (grS ReportE 61 105 b9 v10 (((pre ++ [x]).map Subtype.val).filter p)) M6) W w11 := by
      rw [h9]
      exact x8.trans ((Hp.eraseA (σ := ownR [] ReportE 61 v8 [x.1] :: grS ReportE 61 105 b9 u ((pre.map Subtype.val).filter p)) 0).trans (x10.trans x11))
     obtain ⟨hk1, hk2⟩ := h1.kb hI12 hA
     exact Reg.nil ⟨⟨hk2.size, fun k o hB => hk2.same k o (Nat.le_trans hJ10.kp.size hB)⟩, hk1, v10, hI12, Nat.le_trans h2 hA.kp.size, by simp; omega⟩
    refine ci_skip ?_
    exact keep (by rw [hpx, hg2]; simp)
   iterate 4 refine Reg.pass rfl rfl rfl rfl ?_
   refine s_pkF rfl rfl rfl (Reg.nil ?_)
   refine ci_cond (b := false) rfl (fun hg2 => by cases hg2) (fun _ => ?_)
   refine ci_skip ?_
   exact keep (by rw [hpx, hg]; simp)
  rintro D W hD ⟨v', h1, h2, h3⟩ hdef
  refine cw_seq (cw_regF ?_)
  have hk6W : Ext w6 W := h1.kp
  have hr8 : Row 105 w6 b8 [.slice none 0 0] := hI6.row 0 rfl
  have hr8W : Row 105 W b8 [.slice none 0 0] := (hk6W.block b8 hr8.rd.lt (by simp)).trans hr8
  have hb8 : w.heap.size ≤ b8 := by
   have := (hI6.own _ (List.mem_cons_self ..)).2 b8 (by simp [rowR])
   rcases this with h9 | h9
   ·cases h9
   ·exact h9
  refine s_lda rfl (h1.row 1 rfl).rd.cells Tryd.isAgg105 rfl Tryd.sizeOf105 rfl (s_st rfl rfl rfl hr8W Tryd.sizeOf105 rfl rfl (one1 (Own.oneC (h1.ownAt 0 rfl)) one0) (fun w11 hr11 hk11 => ?_))
  refine Reg.nil (cw_ret ?_)
  have hr11 : Row 105 w11 b8 [v'] := hr11
  have hDW : D < W.heap.size := heap_lt hdef
  have hDb8 : D ≠ b8 := fun e => by
   rw [e] at hdef
   have : W.heap[b8]? = _ := hr8W
   rw [this] at hdef; cases hdef
  have hdef11 : w11.heap[D]? = some (.deferred (some [])) := (hk11.block D hDW (by simpa using hDb8)).trans hdef
  have hne : ∀ b, b ≠ D → (w11.putObj D (.deferred none)).heap[b]? = w11.heap[b]? := fun b hb => World.putObj_heap_other hb
  have hob : ∀ b ∈ ob v', (w11.putObj D (.deferred none)).heap[b]? = W.heap[b]? := fun b hb => by
   obtain ⟨o, ho, hoc⟩ := (h1.ownAt 0 rfl).isC b hb
   have hbD : b ≠ D := fun e => by
    rw [e, hdef] at ho; cases ho; cases hoc
   have hb8' : b ≠ b8 := fun e => by
    have := h1.sepM _ (List.mem_cons_self ..) b hb
    rw [e] at this; exact this hb8M
   rw [hne b hbD]
   exact hk11.block b (heap_lt ho) (by simpa using hb8')
  have hsz : w11.heap.size ≤ (w11.putObj D (.deferred none)).heap.size := by simp
  have hx1 : Ext w w11 := (hI6.kp.trans hk6W).tail hk11 fun x hx => by
   have : x = b8 := by simpa using hx
   omega
  have hx2 : Ext w (w11.putObj D (.deferred none)) := by
   have hg := grownBy_putObj' w11 D (.deferred none)
   have hk : Kp [D] w11 (w11.putObj D (.deferred none)) := Kp.of_grownBy hg (fun t => t.elim) (fun k e => by cases e; simp)
   refine hx1.tail hk fun x hx => ?_
   have : x = D := by simpa using hx
   subst this
   exact Nat.le_trans (Nat.le_trans hI6.kp.size hJ10.kp.size) hD
  refine .inr ⟨D, _, rfl, run_takeDeferred hdef11, .agg #[v'], fun a ha => ?_, v', rfl, ?_, hx2⟩
  ·have hrow : Row 105 (w11.putObj D (.deferred none)) b8 [v'] := (hne b8 (Ne.symm hDb8)).trans hr11
   have key : ∀ (L : Sx.Env), Sx.look L 8 = some (.pointer (some ⟨b8, 0, none⟩)) → ∀ a : Act, Knows Tryd.f52.ntmps [] L a → (results Tryd.f52 a.tmps).run Tryd.prog (w11.putObj D (.deferred none)) = .ok (.agg #[v']) (w11.putObj D (.deferred none)) := fun L hL a ha => by
    obtain ⟨_, v, hrun, hR⟩ : FinR Tryd.prog Tryd.f52 (fun e _ => e = .returned (.agg #[v'])) [] L (w11.putObj D (.deferred none)) := fin_any Tryd.results52 (AllRs.cons (RsOk.agg hL hrow.rd.cells Tryd.isAgg105 rfl Tryd.sizeOf105) AllRs.nil) rfl rfl
    have := hrun _ ha
    injection hR with hR
    rw [hR] at this
    exact this
   refine key _ ?_ { a with defers := [] } ⟨ha.size, rfl, ha.val⟩
   rfl
  have ho : Sx.Own ReportE 61 0 (ob v' ++ M) (w11.putObj D (.deferred none)) v' ((xs.map Subtype.val).filter p) := (h1.ownAt 0 rfl).flat flatR hob
  have hlast := (Own.flat (M' := M) flatR (h1.ownAt 0 rfl) hob).rd (fun b hb hbM => by
   have h9 := (h1.own _ (List.mem_cons_self ..)).2 b hb
   rcases h9 with h9 | h9
   ·cases h9
   ·have := hM b hbM
    have := hI6.kp.size
    omega)
  exact hlast
 cases h
end Go.Proofs.YtepjkmoipjeghaaDoor
set_option maxRecDepth 20000
set_option maxHeartbeats 4000000
namespace Go.Proofs.YtepjkmoipjeghaaDoor
open Go Go.Sx Go.RowKit
noncomputable def P.slices_Clone_90 (s : (List Report)) : Option (List Report) :=
  nilq s fun b1 => cond b1 (some []) (Option.bind (appo 64 ([] : List Report) s) fun l7 => some l7)
theorem C_slices_Clone_90 {M : List Nat} {w : World} (hM : MLt M w) {s : (List Report)} {v_s_0 : Value} (f_s_0 : RdS ReportE M w v_s_0 s) {r0 : (List Report)} (h : P.slices_Clone_90 s = some r0) :
  Calls Tryd.prog 90 (List.toArray [v_s_0]) w fun e w' => ∃ v0_0 : Value, e = .returned (v0_0) ∧ (Sx.Own ReportE 61 0 M w' v0_0 r0 ∧ ∀ b ∈ ob v0_0, w.heap.size ≤ b) ∧ Ext w w' := by
 have hI := Hp.start (Mu := []) hM
 refine calls_cw Tryd.func90 rfl Tryd.ntmps90 rfl ?_
 refine cw_seq (cw_regF (s_as rfl rfl (Reg.nil (cw_seq (cw_seq (cw_regF (s_mv rfl rfl (s_eqN f_s_0 rfl rfl Tryd.underlying22 rfl ?_))))))))
 intro b1 kb1
 replace h := nilq_out h kb1
 refine Reg.nil (cw_cond rfl (fun hc2 => ?_) (fun hc2 => ?_))
 ·replace h := cdT hc2 h
  refine cw_seq (cw_regF (s_as rfl rfl (Reg.nil (cw_ret ?_))))
  obtain rfl := Option.some.inj h
  refine fin1 Tryd.results90 rfl ?_
  exact ⟨_, rfl, ⟨Sx.Own.nil _ _ _ _ _, fun _ hb => by cases hb⟩, hI.kp⟩
 replace h := cdF hc2 h
 refine cw_skip (cw_seq (cw_regF (y_bs (E := ReportE) (xs := []) sl22 hI rfl rfl Cls.nil Chs.nil rfl rfl ?_)))
 intro v3 w4 hI5 x6
 refine s_mv rfl rfl ?_
 obtain ⟨l7, hl7, h⟩ := bnd h
 obtain ⟨hbl7, el7⟩ := appo_out hl7
 refine y_app 0 sl22 hI5 rfl rfl rfl (f_s_0.adv hI5.adv) hbl7 rfl ?_
 rw [← el7]
 intro v8 w9 hI10 x11
 refine s_as rfl rfl (Reg.nil (cw_ret ?_))
 obtain rfl := Option.some.inj h
 refine fin1 Tryd.results90 rfl ?_
 exact ⟨_, rfl, (hI10.ownOut 0 rfl), hI10.kp⟩
noncomputable def P.account_ids (l : (List Report)) : Option (List Int) :=
  Option.bind (P.slices_Clone_90 l) fun z1 => Option.bind (P.account_ordered_74 z1 ([76] : List Nat)) fun z14 => Option.bind (loopM (S := (List Int) × Int) (R := ((List Int))) (fun (x21, x22) => cond (decide (x22 < (z14.length : Int))) (Option.bind (ixo z14 x22) fun y24 => Option.bind (appo 8 x21 ([y24.id] : List Int)) fun l53 => Option.bind (chk .i64 (x22 + 1)) fun n58 => some (.inl (l53, n58))) (some (.inr x21))) ([], 0)) fun x59 => some x59
theorem C_account_ids {M : List Nat} {w : World} (hM : MLt M w) {l : (List Report)} {v_l_0 : Value} (f_l_0 : RdS ReportE M w v_l_0 l) {r0 : (List Int)} (h : P.account_ids l = some r0) :
  Calls Tryd.prog 61 (List.toArray [v_l_0]) w fun e w' => ∃ v0_0 : Value, e = .returned (v0_0) ∧ (Sx.Own (intE .i64) 3 0 M w' v0_0 r0 ∧ ∀ b ∈ ob v0_0, w.heap.size ≤ b) ∧ Ext w w' := by
 have hI := Hp.start (Mu := []) hM
 refine calls_cw Tryd.func61 rfl Tryd.ntmps61 rfl ?_
 refine cw_seq (cw_regF (s_as rfl rfl (Reg.nil (cw_seq (cw_regF (s_as rfl rfl (Reg.nil (cw_seq (cw_seq (cw_regF (s_mv rfl rfl ?_)))))))))))
 obtain ⟨z1, hz2, h⟩ := bnd h
 refine s_call rfl Tryd.call90 rfl ((C_slices_Clone_90 hI.mlt f_l_0 hz2).mono ?_)
 rintro _ w3 ⟨v5, rfl, hf6, e4⟩
 refine ⟨_, rfl, ?_⟩
 have hI7 := hI.addOwn e4 hf6
 refine y_bs (E := fnE) (xs := [76]) sl145 hI7 rfl rfl (Cls.cons rfl Cls.nil) (Chs.cons rfl Chs.nil) rfl rfl ?_
 intro v8 w9 hI10 x11
 have hf12 := hI10.freeze 0 rfl
 have hI13 := hI10.erase 0
 obtain ⟨z14, hz15, h⟩ := bnd h
 refine s_call rfl Tryd.call74 rfl ((C_account_ordered_74 (hI13.erase 0).mlt (hI13.apart 0 rfl) (hI13.lendOwn 0 rfl) (hf12.adv (hI13.lendH 0 rfl)) hz15).mono ?_)
 rintro _ w16 ⟨v18, rfl, hf19⟩
 refine ⟨_, rfl, ?_⟩
 have hI20 := hI13.took 0 rfl hf19
 refine s_lenO rfl (hI20.ownAt 0 rfl) Tryd.underlying22 rfl ?_
 refine s_mv rfl rfl (Reg.nil ?_)
 obtain ⟨j21, h22, h⟩ := bnd h
 refine cw_keep [3, 9, 10, 11] rfl (cw_unitD 4 (ι := (List Int) × Value) (fun ⟨x23, v24⟩ => [(3, v24)]) (fun ⟨x23, v24⟩ => fun w25 => Hp w [] M [ownR [] (intE .i64) 3 v24 x23, ownR [] ReportE 61 v18 z14] w25 ∧ Adv (mm [ownR [] ReportE 61 v18 z14] M) (mm [ownR [] (intE .i64) 3 v24 x23, ownR [] ReportE 61 v18 z14] M) w16 w25 ∧ x23 = j21) ?_ ?_)
 ·refine cw_block (cw_keep [3, 11, 9, 10] rfl ?_)
  have hI35 := hI20.addNil (intE .i64) 3
  refine cw_loopM 2 (ι := (List Int) × Int × Value) _ (fun ⟨x28, x30, v29⟩ => [(3, v29), (11, vi x30)]) (fun ⟨x28, x30, v29⟩ => (x28, x30)) (fun ⟨x28, x30, v29⟩ => fun w32 => Hp w [] M [ownR [] (intE .i64) 3 v29 x28, ownR [] ReportE 61 v18 z14] w32 ∧ Adv (mm [ownR [] ReportE 61 v18 z14] M) (mm [ownR [] (intE .i64) 3 v29 x28, ownR [] ReportE 61 v18 z14] M) w16 w32 ∧ InK .i64 x30) (([] : List Int), 0, (vn)) h22 ⟨hI35, (hI20.addNilH (intE .i64) 3), (by decide)⟩ (sb4 rfl rfl rfl rfl) ?_
  rintro ⟨x28, x30, v29⟩ w32 ⟨hI33, hA34, r31⟩ y36 h37 hR38
  refine cw_seq (cw_regF (s_lss rfl rfl rfl (Reg.nil (cw_seq (cw_cond rfl (fun hc39 => ?_) (fun hc39 => ?_))))))
  ·replace h37 := cdT hc39 h37
   refine cw_skip (cw_seq (cw_block (cw_seq (cw_regF ?_))))
   obtain ⟨y40, hy40, h37⟩ := bnd h37
   refine y_ia 1 hI33 rfl rfl rfl hy40 Tryd.underlying22 Tryd.sizeOf61 rfl ?_
   intro g41 cs42 hg43 hR44 hC45
   have khR44 := hR44
   obtain ⟨rfl, r46, r47, r48, r49, r50, r51, r52, r53⟩ := ReportE_R.1 hR44
   refine s_lda rfl hC45 Tryd.isAgg61 rfl Tryd.sizeOf61 rfl (y_al hI33 Tryd.zeroValue61 rfl rfl ?_)
   intro b54 w55 hI56 x57
   refine y_st 0 hI56 rfl rfl rfl rfl Tryd.sizeOf61 rfl rfl (on8 rfl rfl rfl rfl rfl rfl rfl rfl) ?_
   intro w58 hI59 x60
   have hC62 := hI59.freezeRow 0 rfl
   have hI61 := hI59.erase 0
   refine Reg.nil (cw_regF (s_mv rfl rfl (s_fa rfl Tryd.underlying61 rfl Tryd.sizeOf3 rfl (s_ld rfl (hC62.cells.at 0 rfl) Tryd.isAgg3 rfl (y_bs (E := (intE .i64)) (xs := [y40.id]) sl36 hI61 rfl rfl (Cls.cons rfl Cls.nil) (Chs.cons ⟨rfl, r46⟩ Chs.nil) rfl rfl ?_)))))
   intro v63 w64 hI65 x66
   have hf67 := hI65.freeze 0 rfl
   have hI68 := hI65.erase 0
   obtain ⟨l69, hl69, h37⟩ := bnd h37
   obtain ⟨hbl69, el69⟩ := appo_out hl69
   refine y_app 0 sl36 hI68 rfl rfl rfl hf67 hbl69 rfl ?_
   rw [← el69]
   intro v70 w71 hI72 x73
   refine s_as rfl rfl (Reg.nil (cw_regF ?_))
   obtain ⟨n74, hn74, h37⟩ := bnd h37
   replace hn74 := chk_out hn74
   refine p_add rfl rfl rfl hn74 (s_mv rfl rfl (Reg.nil ?_))
   obtain rfl := Option.some.inj h37
   refine ⟨rfl, (l69, n74, v70), ⟨⟨hI72, (hA34.trans (x57.trans (x60.trans ((hI59.eraseH 0).trans (x66.trans ((hI65.eraseH 0).trans x73)))))), hn74.2⟩, rfl⟩, sb4 rfl rfl rfl rfl⟩
  replace h37 := cdF hc39 h37
  refine cw_exit (exB_same ?_)
  obtain rfl := Option.some.inj h37
  obtain rfl := hR38 _ rfl
  refine ⟨rfl, (x28, v29), ⟨hI33, hA34, rfl⟩, sb1 rfl⟩
 rintro ⟨x23, v24⟩ w25 ⟨hI26, hA27, rfl⟩
 refine cw_seq (cw_regF (s_mv rfl rfl (s_as rfl rfl (Reg.nil (cw_ret ?_)))))
 obtain rfl := Option.some.inj h
 refine fin1 Tryd.results61 rfl ?_
 exact ⟨_, rfl, (hI26.ownOut 0 rfl), hI26.kp⟩
noncomputable def P.account_told_in1 (r : Report) (first_c : Report) (only_c : Bool) : Option Bool :=
  Option.bind (cond (decide (r.cents = first_c.cents)) (cond (!only_c) (some true) (some (decide (r.about = first_c.about)))) (some false)) fun x9 => some x9
theorem C_account_told_in1 {M : List Nat} {w : World} (hM : MLt M w) {r : Report} (f_r_0 : InK .i64 r.id) (f_r_1 : InK .i64 r.source) (f_r_2 : InK .i64 r.account) (f_r_3 : InK .i64 r.made) (f_r_4 : InK .i64 r.about) (f_r_5 : InK .u8 r.kind) (f_r_6 : InK .i64 r.cents) (f_r_7 : InK .i64 r.of_) {first_c : Report} (f_first_c_0 : InK .i64 first_c.id) (f_first_c_1 : InK .i64 first_c.source) (f_first_c_2 : InK .i64 first_c.account) (f_first_c_3 : InK .i64 first_c.made) (f_first_c_4 : InK .i64 first_c.about) (f_first_c_5 : InK .u8 first_c.kind) (f_first_c_6 : InK .i64 first_c.cents) (f_first_c_7 : InK .i64 first_c.of_) {b_first_c : Nat} (c_first_c : RdC M w b_first_c 0 (vR first_c)) {only_c : Bool} {b_only_c : Nat} (c_only_c : RdC M w b_only_c 0 [Value.bool only_c]) {r0 : Bool} (h : P.account_told_in1 r first_c only_c = some r0) :
  Calls Tryd.prog 89 (List.toArray [Value.agg (List.toArray (vR r)), vp b_first_c 0, vp b_only_c 0]) w fun e w' => e = .returned (Value.bool r0) ∧ Ext w w' := by
 have hI := Hp.start (Mu := []) hM
 refine calls_cw Tryd.func89 rfl Tryd.ntmps89 rfl ?_
 refine cw_seq (cw_regF (y_box hI rfl rfl rfl ?_))
 intro b1 w2 hI3 x4
 have hC6 := hI3.freezeRow 0 rfl
 have hI5 := hI3.erase 0
 refine s_as rfl rfl (Reg.nil ?_)
 obtain ⟨j7, h8, h⟩ := bnd h
 refine cw_keep [1, 2, 3] rfl (cw_seqD 3 (ι := Bool) (fun x9 => [(4, Value.bool x9)]) (fun x9 => fun w10 => w2 = w10 ∧ x9 = j7) ?_ ?_)
 ·refine cw_regF (s_fa rfl Tryd.underlying61 rfl Tryd.sizeOf3 rfl (s_ld rfl (hC6.cells.at 6 rfl) Tryd.isAgg3 rfl (s_fa rfl Tryd.underlying61 rfl Tryd.sizeOf3 rfl (s_ld rfl ((c_first_c.adv hI5.adv).cells.at 6 rfl) Tryd.isAgg3 rfl (s_eql rfl rfl rfl (s_mv rfl rfl (Reg.gsplit (t := 10) rfl (fun hg13 => ?_) (fun hg13 => ?_))))))))
  ·replace h8 := cdT hg13 h8
   refine Reg.take rfl rfl (s_ld rfl ((c_only_c.adv hI5.adv).cells.at 0 rfl) Tryd.isAgg4 rfl (Reg.take rfl rfl (s_not rfl rfl (Reg.take rfl rfl (s_mv rfl rfl (Reg.gsplit (t := 13) rfl (fun hg14 => ?_) (fun hg14 => ?_)))))))
   ·replace h8 := cdT hg14 h8
    iterate 5 refine Reg.pass rfl rfl rfl rfl ?_
    refine Reg.take rfl rfl (s_pkT rfl rfl rfl (s_pkT rfl rfl rfl (s_as rfl rfl (Reg.nil ?_))))
    obtain rfl := Option.some.inj h8
    refine ⟨rfl, true, ⟨rfl, rfl⟩, sb1 rfl⟩
   replace h8 := cdF hg14 h8
   refine Reg.take rfl rfl (s_fa rfl Tryd.underlying61 rfl Tryd.sizeOf3 rfl (Reg.take rfl rfl (s_ld rfl (hC6.cells.at 4 rfl) Tryd.isAgg3 rfl (Reg.take rfl rfl (s_fa rfl Tryd.underlying61 rfl Tryd.sizeOf3 rfl (Reg.take rfl rfl (s_ld rfl ((c_first_c.adv hI5.adv).cells.at 4 rfl) Tryd.isAgg3 rfl (Reg.take rfl rfl (s_eql rfl rfl rfl (Reg.take rfl rfl (s_pkF rfl rfl rfl ?_)))))))))))
   refine s_pkT rfl rfl rfl (s_as rfl rfl (Reg.nil ?_))
   obtain rfl := Option.some.inj h8
   refine ⟨rfl, decide (r.about = first_c.about), ⟨rfl, rfl⟩, sb1 rfl⟩
  replace h8 := cdF hg13 h8
  iterate 3 refine Reg.pass rfl rfl rfl rfl ?_
  iterate 5 refine Reg.passU rfl rfl rfl ?_
  refine Reg.pass rfl rfl rfl rfl (s_pkF rfl rfl rfl (s_as rfl rfl (Reg.nil ?_)))
  obtain rfl := Option.some.inj h8
  refine ⟨rfl, false, ⟨rfl, rfl⟩, sb1 rfl⟩
 rintro x9 _ ⟨rfl, rfl⟩
 refine cw_ret ?_
 obtain rfl := Option.some.inj h
 refine fin1 Tryd.results89 rfl ?_
 exact ⟨rfl, hI5.kp⟩
noncomputable def P.account_told (l : (List Report)) (only : Bool) : Option Told :=
  cond (decide ((l.length : Int) = 0)) (some (Told.mk 0 0 0 [])) (Option.bind (ixo l 0) fun y15 => Option.bind (P.account_ids l) fun z41 => Option.bind (loopM (S := Int × Int × Int) (R := (Int × Int)) (fun (x68, x69, x70) => cond (decide (x68 < (l.length : Int))) (Option.bind (Option.bind (ixo l x68) fun y72 => Option.bind (P.account_told_in1 (Report.mk y72.id y72.source y72.account y72.made y72.about y72.kind y72.cents y72.of_) (Report.mk y15.id y15.source y15.account y15.made y15.about y15.kind y15.cents y15.of_) only) fun z95 => Option.bind (cond (!z95) (some (1, 0)) (some (x69, x70))) fun (x107, x108) => some (x107, x108)) fun (x109, x110) => Option.bind (chk .i64 (x68 + 1)) fun n111 => some (.inl (n111, x109, x110))) (some (.inr (x69, x70)))) (0, 2, y15.cents)) fun (x112, x113) => some (Told.mk x112 x113 y15.about z41))
theorem C_account_told {M : List Nat} {w : World} (hM : MLt M w) {l : (List Report)} {v_l_0 : Value} (f_l_0 : RdS ReportE M w v_l_0 l) {only : Bool} {r0 : Told} (h : P.account_told l only = some r0) :
  Calls Tryd.prog 60 (List.toArray [v_l_0, Value.bool only]) w fun e w' => ∃ v0_3 : Value, e = .returned (Value.agg (List.toArray (tV r0 v0_3 []))) ∧ InK .u8 r0.known ∧ InK .i64 r0.cents ∧ InK .i64 r0.since ∧ RdS (intE .i64) M w' v0_3 r0.by_ ∧ Ext w w' := by
 have hI := Hp.start (Mu := []) hM
 refine calls_cw Tryd.func60 rfl Tryd.ntmps60 rfl ?_
 refine cw_seq (cw_regF (y_box hI rfl rfl rfl ?_))
 intro b1 w2 hI3 x4
 have hC6 := hI3.freezeRow 0 rfl
 have hI5 := hI3.erase 0
 refine y_al hI5 Tryd.zeroValue38 rfl rfl ?_
 intro b7 w8 hI9 x10
 refine Reg.nil (cw_seq (cw_seq (cw_regF (s_mv rfl rfl (s_len rfl (f_l_0.adv hI9.adv) Tryd.underlying22 rfl (s_eql rfl rfl rfl (Reg.nil (cw_cond rfl (fun hc11 => ?_) (fun hc11 => ?_)))))))))
 ·replace h := cdT hc11 h
  refine cw_seq (cw_regF ?_)
  refine s_bd [(0, 1), (1, 1), (2, 1), (3, 1)] Tryd.zeroValue38 rfl Tryd.underlying38 (fun _ => by simp [Tryd.sizeOf3, Tryd.sizeOf36, Tryd.sizeOf5]) rfl (Cls.nil) rfl rfl ?_
  refine y_st 0 hI9 rfl rfl rfl rfl Tryd.sizeOf38 rfl rfl (on4 rfl rfl rfl rfl) ?_
  intro w12 hI13 x14
  refine Reg.nil (cw_ret ?_)
  obtain rfl := Option.some.inj h
  refine fin_any Tryd.results60 (AllRs.cons (RsOk.agg rfl (hI13.row 0 rfl).rd.cells Tryd.isAgg38 rfl Tryd.sizeOf38) (AllRs.nil)) rfl ?_
  exact ⟨_, rfl, (show InK .u8 0 by decide), (show InK .i64 0 by decide), (show InK .i64 0 by decide), (RdS.nil _ _ _), hI13.kp⟩
 replace h := cdF hc11 h
 refine cw_skip (cw_seq (cw_regF (s_mv rfl rfl ?_)))
 obtain ⟨y15, hy15, h⟩ := bnd h
 refine p_ia rfl rfl (f_l_0.adv hI9.adv) hy15 Tryd.underlying22 Tryd.sizeOf61 rfl ?_
 intro b16 o17 cs18 hR19 hC20
 obtain ⟨rfl, r21, r22, r23, r24, r25, r26, r27, r28⟩ := ReportE_R.1 hR19
 refine s_lda rfl hC20.cells Tryd.isAgg61 rfl Tryd.sizeOf61 rfl (y_al hI9 Tryd.zeroValue61 rfl rfl ?_)
 intro b29 w30 hI31 x32
 refine y_st 0 hI31 rfl rfl rfl rfl Tryd.sizeOf61 rfl rfl (on8 rfl rfl rfl rfl rfl rfl rfl rfl) ?_
 intro w33 hI34 x35
 have hC37 := hI34.freezeRow 0 rfl
 have hI36 := hI34.erase 0
 refine Reg.nil (cw_seq (cw_regF (s_mf rfl rfl ?_)))
 refine s_as rfl rfl (Reg.nil (cw_seq ?_))
 refine cw_regSea [0, 1, 2, 3, 4] [5, 6, 7, 8] [] [8] [[8, 0], [8, 1], [8, 2], [8, 3]] [] fol (by kernel_rfl) rfl (by kernel_rfl) rfl rfl ?_
 refine s_fa rfl Tryd.underlying61 rfl Tryd.sizeOf3 rfl (s_ld rfl (hC37.cells.at 6 rfl) Tryd.isAgg3 rfl (s_fa rfl Tryd.underlying61 rfl Tryd.sizeOf3 rfl (s_ld rfl (hC37.cells.at 4 rfl) Tryd.isAgg3 rfl (s_mv rfl rfl (Reg.nilX ⟨rfl, rfl, rfl, ?_⟩)))))
 intro w38 e39
 have hI40 := (Hp.start (Mu := []) hI36.mlt).ext e39
 refine SeaWalk.step [5, 7] (by kernel_rfl) (AllL.cons ?_ (AllL.cons ?_ (AllL.nil)))
 ·refine ⟨_, [], rfl, RSub.nil, rfl, nodupB_spec rfl, ?_⟩
  simp only [relOut]
  obtain ⟨z68, hz69, h⟩ := bnd h
  refine s_call rfl Tryd.call61 rfl ((C_account_ids hI40.mlt (f_l_0.adv (hI36.adv.trans (Adv.of_ext e39))) hz69).mono ?_)
  rintro _ w70 ⟨v72, rfl, hf73, e71⟩
  refine ⟨_, rfl, ?_⟩
  have hI74 := hI40.addOwn e71 hf73
  refine Reg.nil ⟨rfl, .inr hI74.kp, rfl, ?_⟩
  intro w75 e76
  have hI77 := hI74.ext e76
  refine SeaWalk.step [6, 7] (by kernel_rfl) (AllL.cons ?_ (AllL.cons ?_ (AllL.nil)))
  ·refine ⟨_, [], rfl, RSub.nil, rfl, nodupB_spec rfl, ?_⟩
   simp only [relOut]
   refine s_bd [(0, 1), (1, 1), (2, 1), (3, 1)] Tryd.zeroValue38 rfl Tryd.underlying38 (fun _ => by simp [Tryd.sizeOf3, Tryd.sizeOf36, Tryd.sizeOf5]) rfl (Cls.cons rfl (Cls.cons rfl (Cls.cons rfl (Cls.cons (Sx.Own.cells1 (hI77.ownAt 0 rfl)) (Cls.nil))))) rfl rfl ?_
   refine Reg.nil ⟨rfl, .inr hI77.kp, rfl, ?_⟩
   intro w78 e79
   have hI80 := hI77.ext e79
   refine SeaWalk.step [7] (by kernel_rfl) (AllL.cons ?_ (AllL.nil))
   refine ⟨_, [], rfl, RSub.nil, rfl, nodupB_spec rfl, ?_⟩
   simp only [relOut]
   refine y_al hI80 Tryd.zeroValue38 rfl rfl ?_
   intro b81 w82 hI83 x84
   refine Reg.nil ⟨rfl, .inr hI83.kp, rfl, ?_⟩
   intro w85 e86
   have hI87 := hI83.ext e86
   refine SeaWalk.step [8] (by kernel_rfl) (AllL.cons ?_ (AllL.nil))
   refine ⟨_, [], rfl, RSub.nil, rfl, nodupB_spec rfl, ?_⟩
   simp only [relOut]
   have hI88 := hI36.join hI87
   refine y_st 0 hI88 rfl rfl rfl rfl Tryd.sizeOf38 rfl rfl (one1 rfl (one1 rfl (one1 rfl (one1 (Sx.Own.oneC (hI88.ownAt 1 rfl)) one0)))) ?_
   intro w89 hI90 x91
   refine Reg.nil ⟨rfl, .inl rfl, rfl, ?_⟩
   intro w92 e93
   have hI94 := hI90.ext e93
   refine SeaWalk.done ?_
   refine cw_seq (cw_seq (cw_regF (s_mv rfl rfl (s_len rfl (f_l_0.adv hI94.adv) Tryd.underlying22 rfl (s_mv rfl rfl (Reg.nil ?_))))))
   obtain ⟨j95, h96, h⟩ := bnd h
   refine cw_keep [6, 25, 26, 27, 4, 7] rfl (cw_unitD 4 (ι := Int × Int) (fun ⟨x97, x99⟩ => []) (fun ⟨x97, x99⟩ => fun w101 => Hp w [] M [rowR 38 b81 [vu x97, vi x99, vi y15.about, v72], ownR [] (intE .i64) 3 v72 z68, rowR 38 b7 (tZ [])] w101 ∧ Adv (mm [rowR 38 b81 [vu 2, vi y15.cents, vi y15.about, v72], ownR [] (intE .i64) 3 v72 z68, rowR 38 b7 (tZ [])] M) (mm [rowR 38 b81 [vu x97, vi x99, vi y15.about, v72], ownR [] (intE .i64) 3 v72 z68, rowR 38 b7 (tZ [])] M) w92 w101 ∧ InK .u8 x97 ∧ InK .i64 x99 ∧ (x97, x99) = j95) ?_ ?_)
   ·refine cw_block (cw_keep [27, 4, 6, 7, 25, 26] rfl ?_)
    refine cw_loopM 1 (ι := Int × Int × Int) _ (fun ⟨x104, x106, x108⟩ => [(27, vi x104)]) (fun ⟨x104, x106, x108⟩ => (x104, x106, x108)) (fun ⟨x104, x106, x108⟩ => fun w110 => Hp w [] M [rowR 38 b81 [vu x106, vi x108, vi y15.about, v72], ownR [] (intE .i64) 3 v72 z68, rowR 38 b7 (tZ [])] w110 ∧ Adv (mm [rowR 38 b81 [vu 2, vi y15.cents, vi y15.about, v72], ownR [] (intE .i64) 3 v72 z68, rowR 38 b7 (tZ [])] M) (mm [rowR 38 b81 [vu x106, vi x108, vi y15.about, v72], ownR [] (intE .i64) 3 v72 z68, rowR 38 b7 (tZ [])] M) w92 w110 ∧ InK .i64 x104 ∧ InK .u8 x106 ∧ InK .i64 x108) (0, 2, y15.cents) h96 ⟨hI94, (Adv.refl _ _), (by decide), (by decide), r27⟩ (sb6 rfl rfl rfl rfl rfl rfl) ?_
    rintro ⟨x104, x106, x108⟩ w110 ⟨hI111, hA112, r105, r107, r109⟩ y113 h114 hR115
    refine cw_seq (cw_regF (s_lss rfl rfl rfl (Reg.nil (cw_seq (cw_cond rfl (fun hc116 => ?_) (fun hc116 => ?_))))))
    ·replace h114 := cdT hc116 h114
     refine cw_skip ?_
     obtain ⟨j117, h118, h114⟩ := bnd h114
     refine cw_keep [4, 6, 7, 25, 26, 27] rfl (cw_seqD 0 (ι := Int × Int) (fun ⟨x119, x121⟩ => []) (fun ⟨x119, x121⟩ => fun w123 => Hp w [] M [rowR 38 b81 [vu x119, vi x121, vi y15.about, v72], ownR [] (intE .i64) 3 v72 z68, rowR 38 b7 (tZ [])] w123 ∧ Adv (mm [rowR 38 b81 [vu x106, vi x108, vi y15.about, v72], ownR [] (intE .i64) 3 v72 z68, rowR 38 b7 (tZ [])] M) (mm [rowR 38 b81 [vu x119, vi x121, vi y15.about, v72], ownR [] (intE .i64) 3 v72 z68, rowR 38 b7 (tZ [])] M) w110 w123 ∧ InK .u8 x119 ∧ InK .i64 x121 ∧ (x119, x121) = j117) ?_ ?_)
     ·refine cw_block (cw_seq (cw_regF ?_))
      obtain ⟨y126, hy126, h118⟩ := bnd h118
      refine p_ia rfl rfl (f_l_0.adv hI111.adv) hy126 Tryd.underlying22 Tryd.sizeOf61 rfl ?_
      intro b127 o128 cs129 hR130 hC131
      obtain ⟨rfl, r132, r133, r134, r135, r136, r137, r138, r139⟩ := ReportE_R.1 hR130
      refine s_lda rfl hC131.cells Tryd.isAgg61 rfl Tryd.sizeOf61 rfl (y_al hI111 Tryd.zeroValue61 rfl rfl ?_)
      intro b140 w141 hI142 x143
      refine y_st 0 hI142 rfl rfl rfl rfl Tryd.sizeOf61 rfl rfl (on8 rfl rfl rfl rfl rfl rfl rfl rfl) ?_
      intro w144 hI145 x146
      have hC148 := hI145.freezeRow 0 rfl
      have hI147 := hI145.erase 0
      refine Reg.nil (cw_seq (cw_regF (s_mv rfl rfl (s_lda rfl hC148.cells Tryd.isAgg61 rfl Tryd.sizeOf61 rfl ?_))))
      obtain ⟨z149, hz149, h118⟩ := bnd h118
      have kz149 : P.account_told_in1 (Report.mk y126.id y126.source y126.account y126.made y126.about y126.kind y126.cents y126.of_) (Report.mk y15.id y15.source y15.account y15.made y15.about y15.kind y15.cents y15.of_) only = some z149 := hz149
      refine s_callV rfl rfl rfl ?_
      refine CallsV.go Tryd.call89 rfl (C_account_told_in1 (r := (Report.mk y126.id y126.source y126.account y126.made y126.about y126.kind y126.cents y126.of_)) (first_c := (Report.mk y15.id y15.source y15.account y15.made y15.about y15.kind y15.cents y15.of_)) (only_c := only) hI147.mlt r132 r133 r134 r135 r136 r137 r138 r139 r21 r22 r23 r24 r25 r26 r27 r28 (hC37.adv ((Adv.of_ext e39).trans ((hI40.addOwnA e71 hf73).trans ((Adv.of_ext e76).trans ((Adv.of_ext e79).trans (x84.trans ((Adv.of_ext e86).trans (x91.trans ((Adv.of_ext e93).trans (hA112.trans (x143.trans (x146.trans (hI145.eraseH 0))))))))))))) (hC6.adv (x10.trans (x32.trans (x35.trans ((hI34.eraseH 0).trans ((Adv.of_ext e39).trans ((hI40.addOwnA e71 hf73).trans ((Adv.of_ext e76).trans ((Adv.of_ext e79).trans (x84.trans ((Adv.of_ext e86).trans (x91.trans ((Adv.of_ext e93).trans (hA112.trans (x143.trans (x146.trans (hI145.eraseH 0))))))))))))))))) kz149) ?_
      rintro _ w150 ⟨rfl, e151⟩
      refine ⟨_, rfl, ?_⟩
      have hI153 := hI147.ext e151
      refine s_not rfl rfl (Reg.nil ?_)
      obtain ⟨j154, h155, h118⟩ := bnd h118
      refine cw_keep [34, 4, 6, 7, 25, 26, 27] rfl (cw_unitD 1 (ι := Int × Int) (fun ⟨x156, x158⟩ => []) (fun ⟨x156, x158⟩ => fun w160 => Hp w [] M [rowR 38 b81 [vu x156, vi x158, vi y15.about, v72], ownR [] (intE .i64) 3 v72 z68, rowR 38 b7 (tZ [])] w160 ∧ Adv (mm [rowR 38 b81 [vu x106, vi x108, vi y15.about, v72], ownR [] (intE .i64) 3 v72 z68, rowR 38 b7 (tZ [])] M) (mm [rowR 38 b81 [vu x156, vi x158, vi y15.about, v72], ownR [] (intE .i64) 3 v72 z68, rowR 38 b7 (tZ [])] M) w150 w160 ∧ InK .u8 x156 ∧ InK .i64 x158 ∧ (x156, x158) = j154) ?_ ?_)
      ·refine cw_cond rfl (fun hc163 => ?_) (fun hc163 => ?_)
       ·replace h155 := cdT hc163 h155
        refine cw_regF (s_fa rfl Tryd.underlying38 rfl Tryd.sizeOf5 rfl (y_st 0 hI153 rfl rfl rfl rfl Tryd.sizeOf5 rfl rfl (one1 rfl one0) ?_))
        intro w164 hI165 x166
        refine s_fa rfl Tryd.underlying38 rfl Tryd.sizeOf3 rfl (y_st 0 hI165 rfl rfl rfl rfl Tryd.sizeOf3 rfl rfl (one1 rfl one0) ?_)
        intro w167 hI168 x169
        refine Reg.nil ?_
        obtain rfl := Option.some.inj h155
        refine ⟨rfl, (1, 0), ⟨hI168, (x166.trans x169), (by decide), (by decide), rfl⟩, sb6 rfl rfl rfl rfl rfl rfl⟩
       replace h155 := cdF hc163 h155
       refine cw_skip ?_
       obtain rfl := Option.some.inj h155
       refine ⟨rfl, (x106, x108), ⟨hI153, (Adv.refl _ _), r107, r109, rfl⟩, sb6 rfl rfl rfl rfl rfl rfl⟩
      rintro ⟨x156, x158⟩ w160 ⟨hI161, hA162, r157, r159, rfl⟩
      obtain rfl := Option.some.inj h118
      refine ⟨rfl, (x156, x158), ⟨hI161, (x143.trans (x146.trans ((hI145.eraseH 0).trans ((Adv.of_ext e151).trans hA162)))), r157, r159, rfl⟩, sb6 rfl rfl rfl rfl rfl rfl⟩
     rintro ⟨x119, x121⟩ w123 ⟨hI124, hA125, r120, r122, rfl⟩
     refine cw_regF ?_
     obtain ⟨n170, hn170, h114⟩ := bnd h114
     replace hn170 := chk_out hn170
     refine p_add rfl rfl rfl hn170 (s_mv rfl rfl (Reg.nil ?_))
     obtain rfl := Option.some.inj h114
     refine ⟨rfl, (n170, x119, x121), ⟨⟨hI124, (hA112.trans hA125), hn170.2, r120, r122⟩, rfl⟩, sb6 rfl rfl rfl rfl rfl rfl⟩
    replace h114 := cdF hc116 h114
    refine cw_exit (exB_same ?_)
    obtain rfl := Option.some.inj h114
    obtain rfl := hR115 _ rfl
    refine ⟨rfl, (x106, x108), ⟨hI111, hA112, r107, r109, rfl⟩, sb2 rfl rfl⟩
   rintro ⟨x97, x99⟩ w101 ⟨hI102, hA103, r98, r100, rfl⟩
   refine cw_seq (cw_regF (s_lda rfl (hI102.row 0 rfl).rd.cells Tryd.isAgg38 rfl Tryd.sizeOf38 rfl (y_st 2 hI102 rfl rfl rfl rfl Tryd.sizeOf38 rfl rfl (one1 rfl (one1 rfl (one1 rfl (one1 (Sx.Own.oneC (hI102.ownAt 1 rfl)) one0)))) ?_)))
   intro w171 hI172 x173
   refine Reg.nil (cw_ret ?_)
   obtain rfl := Option.some.inj h
   have hf174 := hI172.freeze 1 rfl
   have hI175 := hI172.erase 1
   refine fin_any Tryd.results60 (AllRs.cons (RsOk.agg rfl (hI175.row 1 rfl).rd.cells Tryd.isAgg38 rfl Tryd.sizeOf38) (AllRs.nil)) rfl ?_
   exact ⟨_, rfl, r98, r100, r25, (hf174.adv hI175.baseH), hI175.kp⟩
  refine ⟨_, [], rfl, RSub.nil, rfl, nodupB_spec rfl, ?_⟩
  simp only [relOut]
  refine y_al hI77 Tryd.zeroValue38 rfl rfl ?_
  intro b176 w177 hI178 x179
  refine Reg.nil ⟨rfl, .inr hI178.kp, rfl, ?_⟩
  intro w180 e181
  have hI182 := hI178.ext e181
  refine SeaWalk.step [6] (by kernel_rfl) (AllL.cons ?_ (AllL.nil))
  refine ⟨_, [], rfl, RSub.nil, rfl, nodupB_spec rfl, ?_⟩
  simp only [relOut]
  refine s_bd [(0, 1), (1, 1), (2, 1), (3, 1)] Tryd.zeroValue38 rfl Tryd.underlying38 (fun _ => by simp [Tryd.sizeOf3, Tryd.sizeOf36, Tryd.sizeOf5]) rfl (Cls.cons rfl (Cls.cons rfl (Cls.cons rfl (Cls.cons (Sx.Own.cells1 (hI182.ownAt 1 rfl)) (Cls.nil))))) rfl rfl ?_
  refine Reg.nil ⟨rfl, .inr hI182.kp, rfl, ?_⟩
  intro w183 e184
  have hI185 := hI182.ext e184
  refine SeaWalk.step [8] (by kernel_rfl) (AllL.cons ?_ (AllL.nil))
  refine ⟨_, [], rfl, RSub.nil, rfl, nodupB_spec rfl, ?_⟩
  simp only [relOut]
  have hI186 := hI36.join hI185
  refine y_st 0 hI186 rfl rfl rfl rfl Tryd.sizeOf38 rfl rfl (one1 rfl (one1 rfl (one1 rfl (one1 (Sx.Own.oneC (hI186.ownAt 1 rfl)) one0)))) ?_
  intro w187 hI188 x189
  refine Reg.nil ⟨rfl, .inl rfl, rfl, ?_⟩
  intro w190 e191
  have hI192 := hI188.ext e191
  refine SeaWalk.done ?_
  refine cw_seq (cw_seq (cw_regF (s_mv rfl rfl (s_len rfl (f_l_0.adv hI192.adv) Tryd.underlying22 rfl (s_mv rfl rfl (Reg.nil ?_))))))
  obtain ⟨j193, h194, h⟩ := bnd h
  refine cw_keep [6, 25, 26, 27, 4, 7] rfl (cw_unitD 4 (ι := Int × Int) (fun ⟨x195, x197⟩ => []) (fun ⟨x195, x197⟩ => fun w199 => Hp w [] M [rowR 38 b176 [vu x195, vi x197, vi y15.about, v72], ownR [] (intE .i64) 3 v72 z68, rowR 38 b7 (tZ [])] w199 ∧ Adv (mm [rowR 38 b176 [vu 2, vi y15.cents, vi y15.about, v72], ownR [] (intE .i64) 3 v72 z68, rowR 38 b7 (tZ [])] M) (mm [rowR 38 b176 [vu x195, vi x197, vi y15.about, v72], ownR [] (intE .i64) 3 v72 z68, rowR 38 b7 (tZ [])] M) w190 w199 ∧ InK .u8 x195 ∧ InK .i64 x197 ∧ (x195, x197) = j193) ?_ ?_)
  ·refine cw_block (cw_keep [27, 4, 6, 7, 25, 26] rfl ?_)
   refine cw_loopM 1 (ι := Int × Int × Int) _ (fun ⟨x202, x204, x206⟩ => [(27, vi x202)]) (fun ⟨x202, x204, x206⟩ => (x202, x204, x206)) (fun ⟨x202, x204, x206⟩ => fun w208 => Hp w [] M [rowR 38 b176 [vu x204, vi x206, vi y15.about, v72], ownR [] (intE .i64) 3 v72 z68, rowR 38 b7 (tZ [])] w208 ∧ Adv (mm [rowR 38 b176 [vu 2, vi y15.cents, vi y15.about, v72], ownR [] (intE .i64) 3 v72 z68, rowR 38 b7 (tZ [])] M) (mm [rowR 38 b176 [vu x204, vi x206, vi y15.about, v72], ownR [] (intE .i64) 3 v72 z68, rowR 38 b7 (tZ [])] M) w190 w208 ∧ InK .i64 x202 ∧ InK .u8 x204 ∧ InK .i64 x206) (0, 2, y15.cents) h194 ⟨hI192, (Adv.refl _ _), (by decide), (by decide), r27⟩ (sb6 rfl rfl rfl rfl rfl rfl) ?_
   rintro ⟨x202, x204, x206⟩ w208 ⟨hI209, hA210, r203, r205, r207⟩ y211 h212 hR213
   refine cw_seq (cw_regF (s_lss rfl rfl rfl (Reg.nil (cw_seq (cw_cond rfl (fun hc214 => ?_) (fun hc214 => ?_))))))
   ·replace h212 := cdT hc214 h212
    refine cw_skip ?_
    obtain ⟨j215, h216, h212⟩ := bnd h212
    refine cw_keep [4, 6, 7, 25, 26, 27] rfl (cw_seqD 0 (ι := Int × Int) (fun ⟨x217, x219⟩ => []) (fun ⟨x217, x219⟩ => fun w221 => Hp w [] M [rowR 38 b176 [vu x217, vi x219, vi y15.about, v72], ownR [] (intE .i64) 3 v72 z68, rowR 38 b7 (tZ [])] w221 ∧ Adv (mm [rowR 38 b176 [vu x204, vi x206, vi y15.about, v72], ownR [] (intE .i64) 3 v72 z68, rowR 38 b7 (tZ [])] M) (mm [rowR 38 b176 [vu x217, vi x219, vi y15.about, v72], ownR [] (intE .i64) 3 v72 z68, rowR 38 b7 (tZ [])] M) w208 w221 ∧ InK .u8 x217 ∧ InK .i64 x219 ∧ (x217, x219) = j215) ?_ ?_)
    ·refine cw_block (cw_seq (cw_regF ?_))
     obtain ⟨y224, hy224, h216⟩ := bnd h216
     refine p_ia rfl rfl (f_l_0.adv hI209.adv) hy224 Tryd.underlying22 Tryd.sizeOf61 rfl ?_
     intro b225 o226 cs227 hR228 hC229
     obtain ⟨rfl, r230, r231, r232, r233, r234, r235, r236, r237⟩ := ReportE_R.1 hR228
     refine s_lda rfl hC229.cells Tryd.isAgg61 rfl Tryd.sizeOf61 rfl (y_al hI209 Tryd.zeroValue61 rfl rfl ?_)
     intro b238 w239 hI240 x241
     refine y_st 0 hI240 rfl rfl rfl rfl Tryd.sizeOf61 rfl rfl (on8 rfl rfl rfl rfl rfl rfl rfl rfl) ?_
     intro w242 hI243 x244
     have hC246 := hI243.freezeRow 0 rfl
     have hI245 := hI243.erase 0
     refine Reg.nil (cw_seq (cw_regF (s_mv rfl rfl (s_lda rfl hC246.cells Tryd.isAgg61 rfl Tryd.sizeOf61 rfl ?_))))
     obtain ⟨z247, hz247, h216⟩ := bnd h216
     have kz247 : P.account_told_in1 (Report.mk y224.id y224.source y224.account y224.made y224.about y224.kind y224.cents y224.of_) (Report.mk y15.id y15.source y15.account y15.made y15.about y15.kind y15.cents y15.of_) only = some z247 := hz247
     refine s_callV rfl rfl rfl ?_
     refine CallsV.go Tryd.call89 rfl (C_account_told_in1 (r := (Report.mk y224.id y224.source y224.account y224.made y224.about y224.kind y224.cents y224.of_)) (first_c := (Report.mk y15.id y15.source y15.account y15.made y15.about y15.kind y15.cents y15.of_)) (only_c := only) hI245.mlt r230 r231 r232 r233 r234 r235 r236 r237 r21 r22 r23 r24 r25 r26 r27 r28 (hC37.adv ((Adv.of_ext e39).trans ((hI40.addOwnA e71 hf73).trans ((Adv.of_ext e76).trans (x179.trans ((Adv.of_ext e181).trans ((Adv.of_ext e184).trans (x189.trans ((Adv.of_ext e191).trans (hA210.trans (x241.trans (x244.trans (hI243.eraseH 0))))))))))))) (hC6.adv (x10.trans (x32.trans (x35.trans ((hI34.eraseH 0).trans ((Adv.of_ext e39).trans ((hI40.addOwnA e71 hf73).trans ((Adv.of_ext e76).trans (x179.trans ((Adv.of_ext e181).trans ((Adv.of_ext e184).trans (x189.trans ((Adv.of_ext e191).trans (hA210.trans (x241.trans (x244.trans (hI243.eraseH 0))))))))))))))))) kz247) ?_
     rintro _ w248 ⟨rfl, e249⟩
     refine ⟨_, rfl, ?_⟩
     have hI251 := hI245.ext e249
     refine s_not rfl rfl (Reg.nil ?_)
     obtain ⟨j252, h253, h216⟩ := bnd h216
     refine cw_keep [34, 4, 6, 7, 25, 26, 27] rfl (cw_unitD 1 (ι := Int × Int) (fun ⟨x254, x256⟩ => []) (fun ⟨x254, x256⟩ => fun w258 => Hp w [] M [rowR 38 b176 [vu x254, vi x256, vi y15.about, v72], ownR [] (intE .i64) 3 v72 z68, rowR 38 b7 (tZ [])] w258 ∧ Adv (mm [rowR 38 b176 [vu x204, vi x206, vi y15.about, v72], ownR [] (intE .i64) 3 v72 z68, rowR 38 b7 (tZ [])] M) (mm [rowR 38 b176 [vu x254, vi x256, vi y15.about, v72], ownR [] (intE .i64) 3 v72 z68, rowR 38 b7 (tZ [])] M) w248 w258 ∧ InK .u8 x254 ∧ InK .i64 x256 ∧ (x254, x256) = j252) ?_ ?_)
     ·refine cw_cond rfl (fun hc261 => ?_) (fun hc261 => ?_)
      ·replace h253 := cdT hc261 h253
       refine cw_regF (s_fa rfl Tryd.underlying38 rfl Tryd.sizeOf5 rfl (y_st 0 hI251 rfl rfl rfl rfl Tryd.sizeOf5 rfl rfl (one1 rfl one0) ?_))
       intro w262 hI263 x264
       refine s_fa rfl Tryd.underlying38 rfl Tryd.sizeOf3 rfl (y_st 0 hI263 rfl rfl rfl rfl Tryd.sizeOf3 rfl rfl (one1 rfl one0) ?_)
       intro w265 hI266 x267
       refine Reg.nil ?_
       obtain rfl := Option.some.inj h253
       refine ⟨rfl, (1, 0), ⟨hI266, (x264.trans x267), (by decide), (by decide), rfl⟩, sb6 rfl rfl rfl rfl rfl rfl⟩
      replace h253 := cdF hc261 h253
      refine cw_skip ?_
      obtain rfl := Option.some.inj h253
      refine ⟨rfl, (x204, x206), ⟨hI251, (Adv.refl _ _), r205, r207, rfl⟩, sb6 rfl rfl rfl rfl rfl rfl⟩
     rintro ⟨x254, x256⟩ w258 ⟨hI259, hA260, r255, r257, rfl⟩
     obtain rfl := Option.some.inj h216
     refine ⟨rfl, (x254, x256), ⟨hI259, (x241.trans (x244.trans ((hI243.eraseH 0).trans ((Adv.of_ext e249).trans hA260)))), r255, r257, rfl⟩, sb6 rfl rfl rfl rfl rfl rfl⟩
    rintro ⟨x217, x219⟩ w221 ⟨hI222, hA223, r218, r220, rfl⟩
    refine cw_regF ?_
    obtain ⟨n268, hn268, h212⟩ := bnd h212
    replace hn268 := chk_out hn268
    refine p_add rfl rfl rfl hn268 (s_mv rfl rfl (Reg.nil ?_))
    obtain rfl := Option.some.inj h212
    refine ⟨rfl, (n268, x217, x219), ⟨⟨hI222, (hA210.trans hA223), hn268.2, r218, r220⟩, rfl⟩, sb6 rfl rfl rfl rfl rfl rfl⟩
   replace h212 := cdF hc214 h212
   refine cw_exit (exB_same ?_)
   obtain rfl := Option.some.inj h212
   obtain rfl := hR213 _ rfl
   refine ⟨rfl, (x204, x206), ⟨hI209, hA210, r205, r207, rfl⟩, sb2 rfl rfl⟩
  rintro ⟨x195, x197⟩ w199 ⟨hI200, hA201, r196, r198, rfl⟩
  refine cw_seq (cw_regF (s_lda rfl (hI200.row 0 rfl).rd.cells Tryd.isAgg38 rfl Tryd.sizeOf38 rfl (y_st 2 hI200 rfl rfl rfl rfl Tryd.sizeOf38 rfl rfl (one1 rfl (one1 rfl (one1 rfl (one1 (Sx.Own.oneC (hI200.ownAt 1 rfl)) one0)))) ?_)))
  intro w269 hI270 x271
  refine Reg.nil (cw_ret ?_)
  obtain rfl := Option.some.inj h
  have hf272 := hI270.freeze 1 rfl
  have hI273 := hI270.erase 1
  refine fin_any Tryd.results60 (AllRs.cons (RsOk.agg rfl (hI273.row 1 rfl).rd.cells Tryd.isAgg38 rfl Tryd.sizeOf38) (AllRs.nil)) rfl ?_
  exact ⟨_, rfl, r196, r198, r25, (hf272.adv hI273.baseH), hI273.kp⟩
 refine ⟨_, [], rfl, RSub.nil, rfl, nodupB_spec rfl, ?_⟩
 simp only [relOut]
 refine y_al hI40 Tryd.zeroValue38 rfl rfl ?_
 intro b274 w275 hI276 x277
 refine Reg.nil ⟨rfl, .inr hI276.kp, rfl, ?_⟩
 intro w278 e279
 have hI280 := hI276.ext e279
 refine SeaWalk.step [5] (by kernel_rfl) (AllL.cons ?_ (AllL.nil))
 refine ⟨_, [], rfl, RSub.nil, rfl, nodupB_spec rfl, ?_⟩
 simp only [relOut]
 obtain ⟨z281, hz282, h⟩ := bnd h
 refine s_call rfl Tryd.call61 rfl ((C_account_ids hI280.mlt (f_l_0.adv (hI36.adv.trans ((Adv.of_ext e39).trans (x277.trans (Adv.of_ext e279))))) hz282).mono ?_)
 rintro _ w283 ⟨v285, rfl, hf286, e284⟩
 refine ⟨_, rfl, ?_⟩
 have hI287 := hI280.addOwn e284 hf286
 refine Reg.nil ⟨rfl, .inr hI287.kp, rfl, ?_⟩
 intro w288 e289
 have hI290 := hI287.ext e289
 refine SeaWalk.step [6] (by kernel_rfl) (AllL.cons ?_ (AllL.nil))
 refine ⟨_, [], rfl, RSub.nil, rfl, nodupB_spec rfl, ?_⟩
 simp only [relOut]
 refine s_bd [(0, 1), (1, 1), (2, 1), (3, 1)] Tryd.zeroValue38 rfl Tryd.underlying38 (fun _ => by simp [Tryd.sizeOf3, Tryd.sizeOf36, Tryd.sizeOf5]) rfl (Cls.cons rfl (Cls.cons rfl (Cls.cons rfl (Cls.cons (Sx.Own.cells1 (hI290.ownAt 0 rfl)) (Cls.nil))))) rfl rfl ?_
 refine Reg.nil ⟨rfl, .inr hI290.kp, rfl, ?_⟩
 intro w291 e292
 have hI293 := hI290.ext e292
 refine SeaWalk.step [8] (by kernel_rfl) (AllL.cons ?_ (AllL.nil))
 refine ⟨_, [], rfl, RSub.nil, rfl, nodupB_spec rfl, ?_⟩
 simp only [relOut]
 have hI294 := hI36.join hI293
 refine y_st 1 hI294 rfl rfl rfl rfl Tryd.sizeOf38 rfl rfl (one1 rfl (one1 rfl (one1 rfl (one1 (Sx.Own.oneC (hI294.ownAt 0 rfl)) one0)))) ?_
 intro w295 hI296 x297
 refine Reg.nil ⟨rfl, .inl rfl, rfl, ?_⟩
 intro w298 e299
 have hI300 := hI296.ext e299
 refine SeaWalk.done ?_
 have hI301 := hI300.sel [1, 0, 2] rfl
 refine cw_seq (cw_seq (cw_regF (s_mv rfl rfl (s_len rfl (f_l_0.adv hI301.adv) Tryd.underlying22 rfl (s_mv rfl rfl (Reg.nil ?_))))))
 obtain ⟨j302, h303, h⟩ := bnd h
 refine cw_keep [6, 25, 26, 27, 4, 7] rfl (cw_unitD 4 (ι := Int × Int) (fun ⟨x304, x306⟩ => []) (fun ⟨x304, x306⟩ => fun w308 => Hp w [] M [rowR 38 b274 [vu x304, vi x306, vi y15.about, v285], ownR [] (intE .i64) 3 v285 z281, rowR 38 b7 (tZ [])] w308 ∧ Adv (mm [rowR 38 b274 [vu 2, vi y15.cents, vi y15.about, v285], ownR [] (intE .i64) 3 v285 z281, rowR 38 b7 (tZ [])] M) (mm [rowR 38 b274 [vu x304, vi x306, vi y15.about, v285], ownR [] (intE .i64) 3 v285 z281, rowR 38 b7 (tZ [])] M) w298 w308 ∧ InK .u8 x304 ∧ InK .i64 x306 ∧ (x304, x306) = j302) ?_ ?_)
 ·refine cw_block (cw_keep [27, 4, 6, 7, 25, 26] rfl ?_)
  refine cw_loopM 1 (ι := Int × Int × Int) _ (fun ⟨x311, x313, x315⟩ => [(27, vi x311)]) (fun ⟨x311, x313, x315⟩ => (x311, x313, x315)) (fun ⟨x311, x313, x315⟩ => fun w317 => Hp w [] M [rowR 38 b274 [vu x313, vi x315, vi y15.about, v285], ownR [] (intE .i64) 3 v285 z281, rowR 38 b7 (tZ [])] w317 ∧ Adv (mm [rowR 38 b274 [vu 2, vi y15.cents, vi y15.about, v285], ownR [] (intE .i64) 3 v285 z281, rowR 38 b7 (tZ [])] M) (mm [rowR 38 b274 [vu x313, vi x315, vi y15.about, v285], ownR [] (intE .i64) 3 v285 z281, rowR 38 b7 (tZ [])] M) w298 w317 ∧ InK .i64 x311 ∧ InK .u8 x313 ∧ InK .i64 x315) (0, 2, y15.cents) h303 ⟨hI301, (Adv.refl _ _), (by decide), (by decide), r27⟩ (sb6 rfl rfl rfl rfl rfl rfl) ?_
  rintro ⟨x311, x313, x315⟩ w317 ⟨hI318, hA319, r312, r314, r316⟩ y320 h321 hR322
  refine cw_seq (cw_regF (s_lss rfl rfl rfl (Reg.nil (cw_seq (cw_cond rfl (fun hc323 => ?_) (fun hc323 => ?_))))))
  ·replace h321 := cdT hc323 h321
   refine cw_skip ?_
   obtain ⟨j324, h325, h321⟩ := bnd h321
   refine cw_keep [4, 6, 7, 25, 26, 27] rfl (cw_seqD 0 (ι := Int × Int) (fun ⟨x326, x328⟩ => []) (fun ⟨x326, x328⟩ => fun w330 => Hp w [] M [rowR 38 b274 [vu x326, vi x328, vi y15.about, v285], ownR [] (intE .i64) 3 v285 z281, rowR 38 b7 (tZ [])] w330 ∧ Adv (mm [rowR 38 b274 [vu x313, vi x315, vi y15.about, v285], ownR [] (intE .i64) 3 v285 z281, rowR 38 b7 (tZ [])] M) (mm [rowR 38 b274 [vu x326, vi x328, vi y15.about, v285], ownR [] (intE .i64) 3 v285 z281, rowR 38 b7 (tZ [])] M) w317 w330 ∧ InK .u8 x326 ∧ InK .i64 x328 ∧ (x326, x328) = j324) ?_ ?_)
   ·refine cw_block (cw_seq (cw_regF ?_))
    obtain ⟨y333, hy333, h325⟩ := bnd h325
    refine p_ia rfl rfl (f_l_0.adv hI318.adv) hy333 Tryd.underlying22 Tryd.sizeOf61 rfl ?_
    intro b334 o335 cs336 hR337 hC338
    obtain ⟨rfl, r339, r340, r341, r342, r343, r344, r345, r346⟩ := ReportE_R.1 hR337
    refine s_lda rfl hC338.cells Tryd.isAgg61 rfl Tryd.sizeOf61 rfl (y_al hI318 Tryd.zeroValue61 rfl rfl ?_)
    intro b347 w348 hI349 x350
    refine y_st 0 hI349 rfl rfl rfl rfl Tryd.sizeOf61 rfl rfl (on8 rfl rfl rfl rfl rfl rfl rfl rfl) ?_
    intro w351 hI352 x353
    have hC355 := hI352.freezeRow 0 rfl
    have hI354 := hI352.erase 0
    refine Reg.nil (cw_seq (cw_regF (s_mv rfl rfl (s_lda rfl hC355.cells Tryd.isAgg61 rfl Tryd.sizeOf61 rfl ?_))))
    obtain ⟨z356, hz356, h325⟩ := bnd h325
    have kz356 : P.account_told_in1 (Report.mk y333.id y333.source y333.account y333.made y333.about y333.kind y333.cents y333.of_) (Report.mk y15.id y15.source y15.account y15.made y15.about y15.kind y15.cents y15.of_) only = some z356 := hz356
    refine s_callV rfl rfl rfl ?_
    refine CallsV.go Tryd.call89 rfl (C_account_told_in1 (r := (Report.mk y333.id y333.source y333.account y333.made y333.about y333.kind y333.cents y333.of_)) (first_c := (Report.mk y15.id y15.source y15.account y15.made y15.about y15.kind y15.cents y15.of_)) (only_c := only) hI354.mlt r339 r340 r341 r342 r343 r344 r345 r346 r21 r22 r23 r24 r25 r26 r27 r28 (hC37.adv ((Adv.of_ext e39).trans (x277.trans ((Adv.of_ext e279).trans ((hI280.addOwnA e284 hf286).trans ((Adv.of_ext e289).trans ((Adv.of_ext e292).trans (x297.trans ((Adv.of_ext e299).trans ((Hp.selA (σ := [ownR [] (intE .i64) 3 v285 z281, rowR 38 b274 [vu 2, vi y15.cents, vi y15.about, v285], rowR 38 b7 (tZ [])]) (M := M) [1, 0, 2]).trans (hA319.trans (x350.trans (x353.trans (hI352.eraseH 0)))))))))))))) (hC6.adv (x10.trans (x32.trans (x35.trans ((hI34.eraseH 0).trans ((Adv.of_ext e39).trans (x277.trans ((Adv.of_ext e279).trans ((hI280.addOwnA e284 hf286).trans ((Adv.of_ext e289).trans ((Adv.of_ext e292).trans (x297.trans ((Adv.of_ext e299).trans ((Hp.selA (σ := [ownR [] (intE .i64) 3 v285 z281, rowR 38 b274 [vu 2, vi y15.cents, vi y15.about, v285], rowR 38 b7 (tZ [])]) (M := M) [1, 0, 2]).trans (hA319.trans (x350.trans (x353.trans (hI352.eraseH 0)))))))))))))))))) kz356) ?_
    rintro _ w357 ⟨rfl, e358⟩
    refine ⟨_, rfl, ?_⟩
    have hI360 := hI354.ext e358
    refine s_not rfl rfl (Reg.nil ?_)
    obtain ⟨j361, h362, h325⟩ := bnd h325
    refine cw_keep [34, 4, 6, 7, 25, 26, 27] rfl (cw_unitD 1 (ι := Int × Int) (fun ⟨x363, x365⟩ => []) (fun ⟨x363, x365⟩ => fun w367 => Hp w [] M [rowR 38 b274 [vu x363, vi x365, vi y15.about, v285], ownR [] (intE .i64) 3 v285 z281, rowR 38 b7 (tZ [])] w367 ∧ Adv (mm [rowR 38 b274 [vu x313, vi x315, vi y15.about, v285], ownR [] (intE .i64) 3 v285 z281, rowR 38 b7 (tZ [])] M) (mm [rowR 38 b274 [vu x363, vi x365, vi y15.about, v285], ownR [] (intE .i64) 3 v285 z281, rowR 38 b7 (tZ [])] M) w357 w367 ∧ InK .u8 x363 ∧ InK .i64 x365 ∧ (x363, x365) = j361) ?_ ?_)
    ·refine cw_cond rfl (fun hc370 => ?_) (fun hc370 => ?_)
     ·replace h362 := cdT hc370 h362
      refine cw_regF (s_fa rfl Tryd.underlying38 rfl Tryd.sizeOf5 rfl (y_st 0 hI360 rfl rfl rfl rfl Tryd.sizeOf5 rfl rfl (one1 rfl one0) ?_))
      intro w371 hI372 x373
      refine s_fa rfl Tryd.underlying38 rfl Tryd.sizeOf3 rfl (y_st 0 hI372 rfl rfl rfl rfl Tryd.sizeOf3 rfl rfl (one1 rfl one0) ?_)
      intro w374 hI375 x376
      refine Reg.nil ?_
      obtain rfl := Option.some.inj h362
      refine ⟨rfl, (1, 0), ⟨hI375, (x373.trans x376), (by decide), (by decide), rfl⟩, sb6 rfl rfl rfl rfl rfl rfl⟩
     replace h362 := cdF hc370 h362
     refine cw_skip ?_
     obtain rfl := Option.some.inj h362
     refine ⟨rfl, (x313, x315), ⟨hI360, (Adv.refl _ _), r314, r316, rfl⟩, sb6 rfl rfl rfl rfl rfl rfl⟩
    rintro ⟨x363, x365⟩ w367 ⟨hI368, hA369, r364, r366, rfl⟩
    obtain rfl := Option.some.inj h325
    refine ⟨rfl, (x363, x365), ⟨hI368, (x350.trans (x353.trans ((hI352.eraseH 0).trans ((Adv.of_ext e358).trans hA369)))), r364, r366, rfl⟩, sb6 rfl rfl rfl rfl rfl rfl⟩
   rintro ⟨x326, x328⟩ w330 ⟨hI331, hA332, r327, r329, rfl⟩
   refine cw_regF ?_
   obtain ⟨n377, hn377, h321⟩ := bnd h321
   replace hn377 := chk_out hn377
   refine p_add rfl rfl rfl hn377 (s_mv rfl rfl (Reg.nil ?_))
   obtain rfl := Option.some.inj h321
   refine ⟨rfl, (n377, x326, x328), ⟨⟨hI331, (hA319.trans hA332), hn377.2, r327, r329⟩, rfl⟩, sb6 rfl rfl rfl rfl rfl rfl⟩
  replace h321 := cdF hc323 h321
  refine cw_exit (exB_same ?_)
  obtain rfl := Option.some.inj h321
  obtain rfl := hR322 _ rfl
  refine ⟨rfl, (x313, x315), ⟨hI318, hA319, r314, r316, rfl⟩, sb2 rfl rfl⟩
 rintro ⟨x304, x306⟩ w308 ⟨hI309, hA310, r305, r307, rfl⟩
 refine cw_seq (cw_regF (s_lda rfl (hI309.row 0 rfl).rd.cells Tryd.isAgg38 rfl Tryd.sizeOf38 rfl (y_st 2 hI309 rfl rfl rfl rfl Tryd.sizeOf38 rfl rfl (one1 rfl (one1 rfl (one1 rfl (one1 (Sx.Own.oneC (hI309.ownAt 1 rfl)) one0)))) ?_)))
 intro w378 hI379 x380
 refine Reg.nil (cw_ret ?_)
 obtain rfl := Option.some.inj h
 have hf381 := hI379.freeze 1 rfl
 have hI382 := hI379.erase 1
 refine fin_any Tryd.results60 (AllRs.cons (RsOk.agg rfl (hI382.row 1 rfl).rd.cells Tryd.isAgg38 rfl Tryd.sizeOf38) (AllRs.nil)) rfl ?_
 exact ⟨_, rfl, r305, r307, r25, (hf381.adv hI382.baseH), hI382.kp⟩
noncomputable def P.account_book_of (b : Book) (kind : Int) : Option (List Report) :=
  Option.bind (loopM (S := (List Report) × Int) (R := ((List Report))) (fun (x7, x8) => cond (decide (x8 < (b.facts.length : Int))) (Option.bind (Option.bind (ixo b.facts x8) fun y10 => Option.bind (cond (decide (y10.kind = kind)) (Option.bind (appo 64 x7 ([(Report.mk y10.id y10.source y10.account y10.made y10.about y10.kind y10.cents y10.of_)] : List Report)) fun l40 => some l40) (some x7)) fun x45 => some x45) fun x46 => Option.bind (chk .i64 (x8 + 1)) fun n47 => some (.inl (x46, n47))) (some (.inr x7))) ([], 0)) fun x48 => some x48
theorem C_account_book_of {M : List Nat} {w : World} (hM : MLt M w) {b : Book} {v_b_0 : Value} (f_b_0 : RdS ReportE M w v_b_0 b.facts) {kind : Int} (f_kind_0 : InK .u8 kind) {r0 : (List Report)} (h : P.account_book_of b kind = some r0) :
  Calls Tryd.prog 57 (List.toArray [Value.agg (List.toArray [v_b_0]), vu kind]) w fun e w' => ∃ v0_0 : Value, e = .returned (v0_0) ∧ (Sx.Own ReportE 61 0 M w' v0_0 r0 ∧ ∀ b ∈ ob v0_0, w.heap.size ≤ b) ∧ Ext w w' := by
 have hI := Hp.start (Mu := []) hM
 refine calls_cw Tryd.func57 rfl Tryd.ntmps57 rfl ?_
 refine cw_seq (cw_regF (y_box hI rfl rfl rfl ?_))
 intro b1 w2 hI3 x4
 have hC6 := hI3.freezeRow 0 rfl
 have hI5 := hI3.erase 0
 refine s_as rfl rfl (Reg.nil (cw_seq (cw_regF (s_as rfl rfl (Reg.nil (cw_seq (cw_seq (cw_regF (s_fa rfl Tryd.underlying105 rfl Tryd.sizeOf22 rfl (s_ld rfl (hC6.cells.at 0 rfl) Tryd.isAgg22 rfl (s_len rfl (f_b_0.adv hI5.adv) Tryd.underlying22 rfl ?_)))))))))))
 refine s_mv rfl rfl (Reg.nil ?_)
 obtain ⟨j7, h8, h⟩ := bnd h
 refine cw_keep [1, 5, 9, 10, 11] rfl (cw_unitD 5 (ι := (List Report) × Value) (fun ⟨x9, v10⟩ => [(5, v10)]) (fun ⟨x9, v10⟩ => fun w11 => Hp w [] M [ownR [] ReportE 61 v10 x9] w11 ∧ Adv (mm [] M) (mm [ownR [] ReportE 61 v10 x9] M) w2 w11 ∧ x9 = j7) ?_ ?_)
 ·refine cw_block (cw_keep [5, 11, 1, 9, 10] rfl ?_)
  have hI21 := hI5.addNil ReportE 61
  refine cw_loopM 2 (ι := (List Report) × Int × Value) _ (fun ⟨x14, x16, v15⟩ => [(5, v15), (11, vi x16)]) (fun ⟨x14, x16, v15⟩ => (x14, x16)) (fun ⟨x14, x16, v15⟩ => fun w18 => Hp w [] M [ownR [] ReportE 61 v15 x14] w18 ∧ Adv (mm [] M) (mm [ownR [] ReportE 61 v15 x14] M) w2 w18 ∧ InK .i64 x16) (([] : List Report), 0, (vn)) h8 ⟨hI21, (hI5.addNilH ReportE 61), (by decide)⟩ (sb5 rfl rfl rfl rfl rfl) ?_
  rintro ⟨x14, x16, v15⟩ w18 ⟨hI19, hA20, r17⟩ y22 h23 hR24
  refine cw_seq (cw_regF (s_lss rfl rfl rfl (Reg.nil (cw_seq (cw_cond rfl (fun hc25 => ?_) (fun hc25 => ?_))))))
  ·replace h23 := cdT hc25 h23
   refine cw_skip ?_
   obtain ⟨j26, h27, h23⟩ := bnd h23
   refine cw_keep [5, 1, 9, 10, 11] rfl (cw_seqD 1 (ι := (List Report) × Value) (fun ⟨x28, v29⟩ => [(5, v29)]) (fun ⟨x28, v29⟩ => fun w30 => Hp w [] M [ownR [] ReportE 61 v29 x28] w30 ∧ Adv (mm [ownR [] ReportE 61 v15 x14] M) (mm [ownR [] ReportE 61 v29 x28] M) w18 w30 ∧ x28 = j26) ?_ ?_)
   ·refine cw_block (cw_seq (cw_regF ?_))
    obtain ⟨y33, hy33, h27⟩ := bnd h27
    refine p_ia rfl rfl (f_b_0.adv hI19.adv) hy33 Tryd.underlying22 Tryd.sizeOf61 rfl ?_
    intro b34 o35 cs36 hR37 hC38
    obtain ⟨rfl, r39, r40, r41, r42, r43, r44, r45, r46⟩ := ReportE_R.1 hR37
    refine s_lda rfl hC38.cells Tryd.isAgg61 rfl Tryd.sizeOf61 rfl (y_al hI19 Tryd.zeroValue61 rfl rfl ?_)
    intro b47 w48 hI49 x50
    refine y_st 0 hI49 rfl rfl rfl rfl Tryd.sizeOf61 rfl rfl (on8 rfl rfl rfl rfl rfl rfl rfl rfl) ?_
    intro w51 hI52 x53
    have hC55 := hI52.freezeRow 0 rfl
    have hI54 := hI52.erase 0
    refine Reg.nil (cw_seq (cw_regF (s_fa rfl Tryd.underlying61 rfl Tryd.sizeOf5 rfl (s_ld rfl (hC55.cells.at 5 rfl) Tryd.isAgg5 rfl (s_mv rfl rfl (s_eql rfl rfl rfl (Reg.nil ?_)))))))
    obtain ⟨j56, h57, h27⟩ := bnd h27
    refine cw_keep [5, 7, 18, 1, 9, 10, 11] rfl (cw_unitD 3 (ι := (List Report) × Value) (fun ⟨x58, v59⟩ => [(5, v59)]) (fun ⟨x58, v59⟩ => fun w60 => Hp w [] M [ownR [] ReportE 61 v59 x58] w60 ∧ Adv (mm [ownR [] ReportE 61 v15 x14] M) (mm [ownR [] ReportE 61 v59 x58] M) w51 w60 ∧ x58 = j56) ?_ ?_)
    ·refine cw_cond rfl (fun hc63 => ?_) (fun hc63 => ?_)
     ·replace h57 := cdT hc63 h57
      refine cw_regF (s_mv rfl rfl (s_lda rfl hC55.cells Tryd.isAgg61 rfl Tryd.sizeOf61 rfl (y_bs (E := ReportE) (xs := [(Report.mk y33.id y33.source y33.account y33.made y33.about y33.kind y33.cents y33.of_)]) sl22 hI54 rfl rfl (Cls.cons rfl Cls.nil) (Chs.cons ((ReportE_R (x := (Report.mk y33.id y33.source y33.account y33.made y33.about y33.kind y33.cents y33.of_))).2 ⟨rfl, r39, r40, r41, r42, r43, r44, r45, r46⟩) Chs.nil) rfl rfl ?_)))
      intro v64 w65 hI66 x67
      have hf68 := hI66.freeze 0 rfl
      have hI69 := hI66.erase 0
      obtain ⟨l70, hl70, h57⟩ := bnd h57
      obtain ⟨hbl70, el70⟩ := appo_out hl70
      refine y_app 0 sl22 hI69 rfl rfl rfl hf68 hbl70 rfl ?_
      rw [← el70]
      intro v71 w72 hI73 x74
      refine s_as rfl rfl (Reg.nil ?_)
      obtain rfl := Option.some.inj h57
      refine ⟨rfl, (l70, v71), ⟨hI73, (x67.trans ((hI66.eraseH 0).trans x74)), rfl⟩, sb5 rfl rfl rfl rfl rfl⟩
     replace h57 := cdF hc63 h57
     refine cw_skip ?_
     obtain rfl := Option.some.inj h57
     refine ⟨rfl, (x14, v15), ⟨hI54, (Adv.refl _ _), rfl⟩, sb5 rfl rfl rfl rfl rfl⟩
    rintro ⟨x58, v59⟩ w60 ⟨hI61, hA62, rfl⟩
    obtain rfl := Option.some.inj h27
    refine ⟨rfl, (x58, v59), ⟨hI61, (x50.trans (x53.trans ((hI52.eraseH 0).trans hA62))), rfl⟩, sb5 rfl rfl rfl rfl rfl⟩
   rintro ⟨x28, v29⟩ w30 ⟨hI31, hA32, rfl⟩
   refine cw_regF ?_
   obtain ⟨n75, hn75, h23⟩ := bnd h23
   replace hn75 := chk_out hn75
   refine p_add rfl rfl rfl hn75 (s_mv rfl rfl (Reg.nil ?_))
   obtain rfl := Option.some.inj h23
   refine ⟨rfl, (x28, n75, v29), ⟨⟨hI31, (hA20.trans hA32), hn75.2⟩, rfl⟩, sb5 rfl rfl rfl rfl rfl⟩
  replace h23 := cdF hc25 h23
  refine cw_exit (exB_same ?_)
  obtain rfl := Option.some.inj h23
  obtain rfl := hR24 _ rfl
  refine ⟨rfl, (x14, v15), ⟨hI19, hA20, rfl⟩, sb1 rfl⟩
 rintro ⟨x9, v10⟩ w11 ⟨hI12, hA13, rfl⟩
 refine cw_seq (cw_regF (s_mv rfl rfl (s_as rfl rfl (Reg.nil (cw_ret ?_)))))
 obtain rfl := Option.some.inj h
 refine fin1 Tryd.results57 rfl ?_
 exact ⟨_, rfl, (hI12.ownOut 0 rfl), hI12.kp⟩
noncomputable def P.account_book_once (b : Book) (kind : Int) : Option Told :=
  Option.bind (P.account_book_of (Book.mk b.facts) kind) fun z11 => Option.bind (P.account_told z11 true) fun z20 => some (Told.mk z20.known z20.cents z20.since z20.by_)
theorem C_account_book_once {M : List Nat} {w : World} (hM : MLt M w) {b : Book} {v_b_0 : Value} (f_b_0 : RdS ReportE M w v_b_0 b.facts) {kind : Int} (f_kind_0 : InK .u8 kind) {r0 : Told} (h : P.account_book_once b kind = some r0) :
  Calls Tryd.prog 80 (List.toArray [Value.agg (List.toArray [v_b_0]), vu kind]) w fun e w' => ∃ v0_3 : Value, e = .returned (Value.agg (List.toArray (tV r0 v0_3 []))) ∧ InK .u8 r0.known ∧ InK .i64 r0.cents ∧ InK .i64 r0.since ∧ RdS (intE .i64) M w' v0_3 r0.by_ ∧ Ext w w' := by
 have hI := Hp.start (Mu := []) hM
 refine calls_cw Tryd.func80 rfl Tryd.ntmps80 rfl ?_
 refine cw_seq (cw_regF (y_box hI rfl rfl rfl ?_))
 intro b1 w2 hI3 x4
 have hC6 := hI3.freezeRow 0 rfl
 have hI5 := hI3.erase 0
 refine y_al hI5 Tryd.zeroValue38 rfl rfl ?_
 intro b7 w8 hI9 x10
 refine Reg.nil (cw_seq (cw_regF (s_lda rfl (hC6.adv x10).cells Tryd.isAgg105 rfl Tryd.sizeOf105 rfl (s_mv rfl rfl ?_))))
 obtain ⟨z11, hz12, h⟩ := bnd h
 refine s_call rfl Tryd.call57 rfl ((C_account_book_of (b := (Book.mk b.facts)) hI9.mlt (f_b_0.adv hI9.adv) f_kind_0 hz12).mono ?_)
 rintro _ w13 ⟨v15, rfl, hf16, e14⟩
 refine ⟨_, rfl, ?_⟩
 have hI17 := hI9.addOwn e14 hf16
 have hf18 := hI17.freeze 0 rfl
 have hI19 := hI17.erase 0
 obtain ⟨z20, hz21, h⟩ := bnd h
 refine s_call rfl Tryd.call60 rfl ((C_account_told hI19.mlt hf18 hz21).mono ?_)
 rintro _ w22 ⟨v27, rfl, r24, r25, r26, hf28, e23⟩
 refine ⟨_, rfl, ?_⟩
 have hI29 := hI19.ext e23
 refine y_st 0 hI29 rfl rfl rfl rfl Tryd.sizeOf38 rfl rfl (one1 rfl (one1 rfl (one1 rfl (one1 (RdS.oneC hf28) one0)))) ?_
 intro w30 hI31 x32
 refine Reg.nil (cw_ret ?_)
 obtain rfl := Option.some.inj h
 refine fin_any Tryd.results80 (AllRs.cons (RsOk.agg rfl (hI31.row 0 rfl).rd.cells Tryd.isAgg38 rfl Tryd.sizeOf38) (AllRs.nil)) rfl ?_
 exact ⟨_, rfl, r24, r25, r26, ((hf28.adv x32).adv hI31.baseH), hI31.kp⟩
noncomputable def P.slices_DeleteFunc_95 (s : (List Report)) (del : Report → Option Bool) : Option (List Report) :=
  Option.bind (P.slices_IndexFunc_58 s del) fun z1 => cond (decide (z1 = (-1))) (some s) (Option.bind (chk .i64 (z1 + 1)) fun n8 => Option.bind (loopM (S := Int × Int × (List Report)) (R := (Int × (List Report))) (fun (x9, x10, x11) => cond (decide (x10 < (x11.length : Int))) (Option.bind (Option.bind (ixo x11 x10) fun y13 => Option.bind (del (Report.mk y13.id y13.source y13.account y13.made y13.about y13.kind y13.cents y13.of_)) fun z36 => Option.bind (cond (!z36) (Option.bind (ixo x11 x9) fun y42 => Option.bind (seto x11 x9 (Report.mk y13.id y13.source y13.account y13.made y13.about y13.kind y13.cents y13.of_)) fun l56 => Option.bind (chk .i64 (x9 + 1)) fun n60 => some (n60, l56)) (some (x9, x11))) fun (x61, x62) => some (x61, x62)) fun (x63, x64) => Option.bind (chk .i64 (x10 + 1)) fun n65 => some (.inl (x63, n65, x64))) (some (.inr (x9, x11)))) (z1, n8, s)) fun (x66, x67) => Option.bind (cutLo x67 x66) fun l68 => Option.bind (cutHi (x67.take x66.toNat ++ List.replicate l68.length (Report.mk 0 0 0 0 0 0 0 0)) x66) fun l74 => some l74)
theorem C_slices_DeleteFunc_95 {M : List Nat} {w : World} {v_s : Value} (hM : MLt M w) (hd : ∀ b ∈ ob v_s, b ∉ M) {s : (List Report)} (p_s : Sx.Own ReportE 61 0 M w v_s s) {v_del : Value} {del : Report → Option Bool} (f_del : ∀ (x0 : Report) (r : Bool) (w1 : World), Kp (ob v_s) w w1 → InK .i64 x0.id → InK .i64 x0.source → InK .i64 x0.account → InK .i64 x0.made → InK .i64 x0.about → InK .u8 x0.kind → InK .i64 x0.cents → InK .i64 x0.of_ → del x0 = some r → CallsV Tryd.prog v_del [Value.agg (List.toArray (vR x0))] w1 fun e w2 => e = .returned (Value.bool r) ∧ Ext w1 w2) {r0 : (List Report)} (h : P.slices_DeleteFunc_95 s del = some r0) :
  Calls Tryd.prog 95 (List.toArray [v_s, v_del]) w fun e w' => ∃ v0_0 : Value, e = .returned (v0_0) ∧ (Sx.Own ReportE 61 0 M w' v0_0 r0 ∧ (∀ b ∈ ob v0_0, b ∈ ob v_s ∨ w.heap.size ≤ b) ∧ Kp (ob v_s) w w') := by
 have hI := Hp.startOwn hM hd p_s
 refine calls_cw Tryd.func95 rfl Tryd.ntmps95 rfl ?_
 refine cw_seq (cw_regF (s_as rfl rfl (Reg.nil (cw_seq (cw_regF (s_mv rfl rfl (s_mv rfl rfl ?_)))))))
 obtain ⟨z1, hz2, h⟩ := bnd h
 refine s_call rfl Tryd.call58 rfl ((C_slices_IndexFunc_58 (hI.sel [] rfl).mlt (hI.lendRd [] 0 rfl rfl) (fun a0 r w9 e9 f0 f1 f2 f3 f4 f5 f6 f7 hr => f_del a0 r w9 (hI.kp.trans (Ext.kp e9)) f0 f1 f2 f3 f4 f5 f6 f7 hr) hz2).mono ?_)
 rintro _ w3 ⟨rfl, r5, e4⟩
 refine ⟨_, rfl, ?_⟩
 have hI6 := hI.ext e4
 refine s_as rfl rfl (Reg.nil (cw_seq (cw_seq (cw_regF (s_mv rfl rfl (s_eql rfl rfl rfl (Reg.nil (cw_cond rfl (fun hc7 => ?_) (fun hc7 => ?_)))))))))
 ·replace h := cdT hc7 h
  refine cw_seq (cw_regF (s_mv rfl rfl (s_as rfl rfl (Reg.nil (cw_ret ?_)))))
  obtain rfl := Option.some.inj h
  refine fin1 Tryd.results95 rfl ?_
  exact ⟨_, rfl, (hI6.ownBack 0 rfl)⟩
 replace h := cdF hc7 h
 refine cw_skip (cw_seq (cw_seq (cw_regF (s_mv rfl rfl ?_))))
 obtain ⟨n8, hn8, h⟩ := bnd h
 replace hn8 := chk_out hn8
 refine p_add rfl rfl rfl hn8 (s_as rfl rfl (Reg.nil ?_))
 obtain ⟨j9, h10, h⟩ := bnd h
 refine cw_keep [1, 5, 6, 0] rfl (cw_unitD 3 (ι := Int × (List Report)) (fun ⟨x11, x13⟩ => [(5, vi x11)]) (fun ⟨x11, x13⟩ => fun w14 => Hp w (ob v_s) M [ownR (ob v_s) ReportE 61 v_s x13] w14 ∧ Adv (mm [ownR (ob v_s) ReportE 61 v_s s] M) (mm [ownR (ob v_s) ReportE 61 v_s x13] M) w3 w14 ∧ InK .i64 x11 ∧ (x11, x13) = j9) ?_ ?_)
 ·refine cw_block (cw_keep [5, 6, 0, 1] rfl (cw_loopM 2 (ι := Int × Int × (List Report)) _ (fun ⟨x17, x19, x21⟩ => [(5, vi x17), (6, vi x19)]) (fun ⟨x17, x19, x21⟩ => (x17, x19, x21)) (fun ⟨x17, x19, x21⟩ => fun w22 => Hp w (ob v_s) M [ownR (ob v_s) ReportE 61 v_s x21] w22 ∧ Adv (mm [ownR (ob v_s) ReportE 61 v_s s] M) (mm [ownR (ob v_s) ReportE 61 v_s x21] M) w3 w22 ∧ InK .i64 x17 ∧ InK .i64 x19) (z1, n8, s) h10 ⟨hI6, (Adv.refl _ _), r5, hn8.2⟩ (sb4 rfl rfl rfl rfl) ?_))
  rintro ⟨x17, x19, x21⟩ w22 ⟨hI23, hA24, r18, r20⟩ y25 h26 hR27
  refine cw_seq (cw_seq (cw_regF (s_mv rfl rfl (s_mv rfl rfl (s_lenO rfl (hI23.ownAt 0 rfl) Tryd.underlying22 rfl ?_)))))
  refine s_lss rfl rfl rfl (Reg.nil (cw_cond rfl (fun hc28 => ?_) (fun hc28 => ?_)))
  ·replace h26 := cdT hc28 h26
   refine cw_skip ?_
   obtain ⟨j29, h30, h26⟩ := bnd h26
   refine cw_keep [5, 0, 1, 6] rfl (cw_seqD 1 (ι := Int × (List Report)) (fun ⟨x31, x33⟩ => [(5, vi x31)]) (fun ⟨x31, x33⟩ => fun w34 => Hp w (ob v_s) M [ownR (ob v_s) ReportE 61 v_s x33] w34 ∧ Adv (mm [ownR (ob v_s) ReportE 61 v_s x21] M) (mm [ownR (ob v_s) ReportE 61 v_s x33] M) w22 w34 ∧ InK .i64 x31 ∧ (x31, x33) = j29) ?_ ?_)
   ·refine cw_block (cw_seq (cw_regF (s_mv rfl rfl (s_mv rfl rfl ?_))))
    obtain ⟨y37, hy37, h30⟩ := bnd h30
    refine y_ia 0 hI23 rfl rfl rfl hy37 Tryd.underlying22 Tryd.sizeOf61 rfl ?_
    intro g38 cs39 hg40 hR41 hC42
    have khR41 := hR41
    obtain ⟨rfl, r43, r44, r45, r46, r47, r48, r49, r50⟩ := ReportE_R.1 hR41
    refine s_lda rfl hC42 Tryd.isAgg61 rfl Tryd.sizeOf61 rfl (y_al hI23 Tryd.zeroValue61 rfl rfl ?_)
    intro b51 w52 hI53 x54
    refine y_st 0 hI53 rfl rfl rfl rfl Tryd.sizeOf61 rfl rfl (on8 rfl rfl rfl rfl rfl rfl rfl rfl) ?_
    intro w55 hI56 x57
    have hC59 := hI56.freezeRow 0 rfl
    have hI58 := hI56.erase 0
    refine Reg.nil (cw_seq (cw_regF (s_mv rfl rfl (s_lda rfl hC59.cells Tryd.isAgg61 rfl Tryd.sizeOf61 rfl ?_))))
    obtain ⟨z60, hz60, h30⟩ := bnd h30
    refine s_callV rfl rfl rfl ?_
    refine (f_del _ _ _ hI58.kp r43 r44 r45 r46 r47 r48 r49 r50 hz60).mono ?_
    rintro _ w61 ⟨rfl, e62⟩
    refine ⟨_, rfl, ?_⟩
    have hI64 := hI58.ext e62
    refine s_not rfl rfl (Reg.nil ?_)
    obtain ⟨j65, h66, h30⟩ := bnd h30
    refine cw_keep [5, 7, 29, 0, 1, 6] rfl (cw_unitD 3 (ι := Int × (List Report)) (fun ⟨x67, x69⟩ => [(5, vi x67)]) (fun ⟨x67, x69⟩ => fun w70 => Hp w (ob v_s) M [ownR (ob v_s) ReportE 61 v_s x69] w70 ∧ Adv (mm [ownR (ob v_s) ReportE 61 v_s x21] M) (mm [ownR (ob v_s) ReportE 61 v_s x69] M) w61 w70 ∧ InK .i64 x67 ∧ (x67, x69) = j65) ?_ ?_)
    ·refine cw_cond rfl (fun hc73 => ?_) (fun hc73 => ?_)
     ·replace h66 := cdT hc73 h66
      refine cw_seq (cw_regF (s_mv rfl rfl (s_mv rfl rfl (s_lda rfl (hC59.adv (Adv.of_ext e62)).cells Tryd.isAgg61 rfl Tryd.sizeOf61 rfl ?_))))
      obtain ⟨y74, hy74, h66⟩ := bnd h66
      refine y_ia 0 hI64 rfl rfl rfl hy74 Tryd.underlying22 Tryd.sizeOf61 rfl ?_
      intro g75 cs76 hg77 hR78 hC79
      have khR78 := hR78
      obtain ⟨rfl, r80, r81, r82, r83, r84, r85, r86, r87⟩ := ReportE_R.1 hR78
      obtain ⟨l88, hl88, h66⟩ := bnd h66
      refine y_sto 0 (E := ReportE) (o := 0) hI64 rfl rfl rfl rfl hg77 hl88 ((ReportE_R (x := y74)).2 ⟨rfl, r80, r81, r82, r83, r84, r85, r86, r87⟩) hC79 ((ReportE_R (x := (Report.mk y37.id y37.source y37.account y37.made y37.about y37.kind y37.cents y37.of_))).2 ⟨rfl, r43, r44, r45, r46, r47, r48, r49, r50⟩) rfl Tryd.sizeOf61 rfl (on8 rfl rfl rfl rfl rfl rfl rfl rfl) ?_
      intro w89 hI90 x91
      refine Reg.nil (cw_regF (s_mv rfl rfl ?_))
      obtain ⟨n92, hn92, h66⟩ := bnd h66
      replace hn92 := chk_out hn92
      refine p_add rfl rfl rfl hn92 (s_as rfl rfl (Reg.nil ?_))
      obtain rfl := Option.some.inj h66
      refine ⟨rfl, (n92, l88), ⟨hI90, x91, hn92.2, rfl⟩, sb4 rfl rfl rfl rfl⟩
     replace h66 := cdF hc73 h66
     refine cw_skip ?_
     obtain rfl := Option.some.inj h66
     refine ⟨rfl, (x17, x21), ⟨hI64, (Adv.refl _ _), r18, rfl⟩, sb4 rfl rfl rfl rfl⟩
    rintro ⟨x67, x69⟩ w70 ⟨hI71, hA72, r68, rfl⟩
    obtain rfl := Option.some.inj h30
    refine ⟨rfl, (x67, x69), ⟨hI71, (x54.trans (x57.trans ((hI56.eraseH 0).trans ((Adv.of_ext e62).trans hA72)))), r68, rfl⟩, sb4 rfl rfl rfl rfl⟩
   rintro ⟨x31, x33⟩ w34 ⟨hI35, hA36, r32, rfl⟩
   refine cw_regF (s_mv rfl rfl ?_)
   obtain ⟨n93, hn93, h26⟩ := bnd h26
   replace hn93 := chk_out hn93
   refine p_add rfl rfl rfl hn93 (s_as rfl rfl (Reg.nil ?_))
   obtain rfl := Option.some.inj h26
   refine ⟨rfl, (x31, n93, x33), ⟨⟨hI35, (hA24.trans hA36), r32, hn93.2⟩, rfl⟩, sb4 rfl rfl rfl rfl⟩
  replace h26 := cdF hc28 h26
  refine cw_exit (exB_same ?_)
  obtain rfl := Option.some.inj h26
  obtain rfl := hR27 _ rfl
  refine ⟨rfl, (x17, x21), ⟨hI23, hA24, r18, rfl⟩, sb2 rfl rfl⟩
 rintro ⟨x11, x13⟩ w14 ⟨hI15, hA16, r12, rfl⟩
 refine cw_seq (cw_regF (s_mv rfl rfl (s_mv rfl rfl ?_)))
 obtain ⟨l94, hl94, h⟩ := bnd h
 refine y_vw 0 hI15 rfl rfl rfl hl94 Tryd.underlying22 Tryd.sizeOf61 rfl ?_
 intro v95 hv96
 refine y_clear 0 (z0 := (Report.mk 0 0 0 0 0 0 0 0)) hI15 rfl hv96 hl94 rfl Tryd.underlying22 Tryd.zeroValue61 rfl (fun _ _ => ((ReportE_R (x := (Report.mk 0 0 0 0 0 0 0 0))).2 ⟨rfl, (show InK .i64 0 by decide), (show InK .i64 0 by decide), (show InK .i64 0 by decide), (show InK .i64 0 by decide), (show InK .i64 0 by decide), (show InK .u8 0 by decide), (show InK .i64 0 by decide), (show InK .i64 0 by decide)⟩)) ?_
 intro w97 hI98 x99
 refine Reg.nil (cw_seq (cw_regF (s_mv rfl rfl (s_mv rfl rfl ?_))))
 obtain ⟨l100, hl100, h⟩ := bnd h
 refine y_tk 0 hI98 rfl rfl rfl hl100 Tryd.underlying22 Tryd.sizeOf61 rfl ?_
 intro v101 hI102 x103
 refine s_as rfl rfl (Reg.nil (cw_ret ?_))
 obtain rfl := Option.some.inj h
 refine fin1 Tryd.results95 rfl ?_
 exact ⟨_, rfl, (hI102.ownBack 0 rfl)⟩
noncomputable def P.account_book_last_in1 (r : Report) (day_c : Int) : Option Bool :=
  some (decide (r.about < day_c))
theorem C_account_book_last_in1 {M : List Nat} {w : World} (hM : MLt M w) {r : Report} (f_r_0 : InK .i64 r.id) (f_r_1 : InK .i64 r.source) (f_r_2 : InK .i64 r.account) (f_r_3 : InK .i64 r.made) (f_r_4 : InK .i64 r.about) (f_r_5 : InK .u8 r.kind) (f_r_6 : InK .i64 r.cents) (f_r_7 : InK .i64 r.of_) {day_c : Int} (f_day_c_0 : InK .i64 day_c) {b_day_c : Nat} (c_day_c : RdC M w b_day_c 0 [vi day_c]) {r0 : Bool} (h : P.account_book_last_in1 r day_c = some r0) :
  Calls Tryd.prog 96 (List.toArray [Value.agg (List.toArray (vR r)), vp b_day_c 0]) w fun e w' => e = .returned (Value.bool r0) ∧ Ext w w' := by
 have hI := Hp.start (Mu := []) hM
 refine calls_cw Tryd.func96 rfl Tryd.ntmps96 rfl ?_
 refine cw_seq (cw_regF (y_box hI rfl rfl rfl ?_))
 intro b1 w2 hI3 x4
 have hC6 := hI3.freezeRow 0 rfl
 have hI5 := hI3.erase 0
 refine s_as rfl rfl (Reg.nil (cw_seq (cw_regF (s_fa rfl Tryd.underlying61 rfl Tryd.sizeOf3 rfl (s_ld rfl (hC6.cells.at 4 rfl) Tryd.isAgg3 rfl (s_ld rfl ((c_day_c.adv hI5.adv).cells.at 0 rfl) Tryd.isAgg3 rfl (s_lss rfl rfl rfl (s_as rfl rfl (Reg.nil (cw_ret ?_))))))))))
 obtain rfl := Option.some.inj h
 refine fin1 Tryd.results96 rfl ?_
 exact ⟨rfl, hI5.kp⟩
noncomputable def P.account_book_last (b : Book) (kind : Int) : Option Told :=
  Option.bind (P.account_book_of (Book.mk b.facts) kind) fun z11 => cond (decide ((z11.length : Int) = 0)) (some (Told.mk 0 0 0 [])) (Option.bind (chk .i64 ((z11.length : Int) - 1)) fun n22 => Option.bind (ixo z11 n22) fun y23 => Option.bind (P.slices_DeleteFunc_95 z11 (fun x0_ => P.account_book_last_in1 x0_ y23.about)) fun z46 => Option.bind (P.account_told z46 false) fun z55 => some (Told.mk z55.known z55.cents z55.since z55.by_))
theorem C_account_book_last {M : List Nat} {w : World} (hM : MLt M w) {b : Book} {v_b_0 : Value} (f_b_0 : RdS ReportE M w v_b_0 b.facts) {kind : Int} (f_kind_0 : InK .u8 kind) {r0 : Told} (h : P.account_book_last b kind = some r0) :
  Calls Tryd.prog 82 (List.toArray [Value.agg (List.toArray [v_b_0]), vu kind]) w fun e w' => ∃ v0_3 : Value, e = .returned (Value.agg (List.toArray (tV r0 v0_3 []))) ∧ InK .u8 r0.known ∧ InK .i64 r0.cents ∧ InK .i64 r0.since ∧ RdS (intE .i64) M w' v0_3 r0.by_ ∧ Ext w w' := by
 have hI := Hp.start (Mu := []) hM
 refine calls_cw Tryd.func82 rfl Tryd.ntmps82 rfl ?_
 refine cw_seq (cw_regF (y_box hI rfl rfl rfl ?_))
 intro b1 w2 hI3 x4
 have hC6 := hI3.freezeRow 0 rfl
 have hI5 := hI3.erase 0
 refine y_al hI5 Tryd.zeroValue38 rfl rfl ?_
 intro b7 w8 hI9 x10
 refine Reg.nil (cw_seq (cw_regF (s_lda rfl (hC6.adv x10).cells Tryd.isAgg105 rfl Tryd.sizeOf105 rfl (s_mv rfl rfl ?_))))
 obtain ⟨z11, hz12, h⟩ := bnd h
 refine s_call rfl Tryd.call57 rfl ((C_account_book_of (b := (Book.mk b.facts)) hI9.mlt (f_b_0.adv hI9.adv) f_kind_0 hz12).mono ?_)
 rintro _ w13 ⟨v15, rfl, hf16, e14⟩
 refine ⟨_, rfl, ?_⟩
 have hI17 := hI9.addOwn e14 hf16
 refine s_as rfl rfl (Reg.nil (cw_seq (cw_seq (cw_regF (s_mv rfl rfl (s_lenO rfl (hI17.ownAt 0 rfl) Tryd.underlying22 rfl ?_))))))
 refine s_eql rfl rfl rfl (Reg.nil (cw_cond rfl (fun hc18 => ?_) (fun hc18 => ?_)))
 ·replace h := cdT hc18 h
  refine cw_seq (cw_regF ?_)
  refine s_bd [(0, 1), (1, 1), (2, 1), (3, 1)] Tryd.zeroValue38 rfl Tryd.underlying38 (fun _ => by simp [Tryd.sizeOf3, Tryd.sizeOf36, Tryd.sizeOf5]) rfl (Cls.nil) rfl rfl ?_
  refine y_st 1 hI17 rfl rfl rfl rfl Tryd.sizeOf38 rfl rfl (on4 rfl rfl rfl rfl) ?_
  intro w19 hI20 x21
  refine Reg.nil (cw_ret ?_)
  obtain rfl := Option.some.inj h
  refine fin_any Tryd.results82 (AllRs.cons (RsOk.agg rfl (hI20.row 1 rfl).rd.cells Tryd.isAgg38 rfl Tryd.sizeOf38) (AllRs.nil)) rfl ?_
  exact ⟨_, rfl, (show InK .u8 0 by decide), (show InK .i64 0 by decide), (show InK .i64 0 by decide), (RdS.nil _ _ _), hI20.kp⟩
 replace h := cdF hc18 h
 refine cw_skip (cw_seq (cw_regF (s_mv rfl rfl (s_mv rfl rfl (s_lenO rfl (hI17.ownAt 0 rfl) Tryd.underlying22 rfl ?_)))))
 obtain ⟨n22, hn22, h⟩ := bnd h
 replace hn22 := chk_out hn22
 refine p_sub rfl rfl rfl hn22 ?_
 obtain ⟨y23, hy23, h⟩ := bnd h
 refine y_ia 0 hI17 rfl rfl rfl hy23 Tryd.underlying22 Tryd.sizeOf61 rfl ?_
 intro g24 cs25 hg26 hR27 hC28
 have khR27 := hR27
 obtain ⟨rfl, r29, r30, r31, r32, r33, r34, r35, r36⟩ := ReportE_R.1 hR27
 refine s_fa rfl Tryd.underlying61 rfl Tryd.sizeOf3 rfl (s_ld rfl (hC28.at 4 rfl) Tryd.isAgg3 rfl (y_al hI17 Tryd.zeroValue3 rfl rfl ?_))
 intro b37 w38 hI39 x40
 refine y_st 0 hI39 rfl rfl rfl rfl Tryd.sizeOf3 rfl rfl (one1 rfl one0) ?_
 intro w41 hI42 x43
 have hC45 := hI42.freezeRow 0 rfl
 have hI44 := hI42.erase 0
 refine Reg.nil (cw_seq (cw_regF (s_mv rfl rfl (s_mf rfl rfl ?_))))
 obtain ⟨z46, hz47, h⟩ := bnd h
 refine s_call rfl Tryd.call95 rfl ((C_slices_DeleteFunc_95 (hI44.erase 0).mlt (hI44.apart 0 rfl) (hI44.lendOwn 0 rfl) (fun a0 r w9 e9 f0 f1 f2 f3 f4 f5 f6 f7 hr => CallsV.ofL Tryd.call96 rfl (C_account_book_last_in1 ((hI44.lendM 0 rfl).ext e9) f0 f1 f2 f3 f4 f5 f6 f7 r33 (hC45.adv ((hI44.lendH 0 rfl).trans (Adv.lent e9))) hr)) hz47).mono ?_)
 rintro _ w48 ⟨v50, rfl, hf51⟩
 refine ⟨_, rfl, ?_⟩
 have hI52 := hI44.took 0 rfl hf51
 have hf53 := hI52.freeze 0 rfl
 have hI54 := hI52.erase 0
 obtain ⟨z55, hz56, h⟩ := bnd h
 refine s_call rfl Tryd.call60 rfl ((C_account_told hI54.mlt hf53 hz56).mono ?_)
 rintro _ w57 ⟨v62, rfl, r59, r60, r61, hf63, e58⟩
 refine ⟨_, rfl, ?_⟩
 have hI64 := hI54.ext e58
 refine y_st 0 hI64 rfl rfl rfl rfl Tryd.sizeOf38 rfl rfl (one1 rfl (one1 rfl (one1 rfl (one1 (RdS.oneC hf63) one0)))) ?_
 intro w65 hI66 x67
 refine Reg.nil (cw_ret ?_)
 obtain rfl := Option.some.inj h
 refine fin_any Tryd.results82 (AllRs.cons (RsOk.agg rfl (hI66.row 0 rfl).rd.cells Tryd.isAgg38 rfl Tryd.sizeOf38) (AllRs.nil)) rfl ?_
 exact ⟨_, rfl, r59, r60, r61, ((hf63.adv x67).adv hI66.baseH), hI66.kp⟩
noncomputable def P.account_book_paid (b : Book) : Option (FMap Int Span) :=
  Option.bind (P.account_book_of (Book.mk b.facts) 4) fun z11 => Option.bind (loopM (S := Int × (FMap Payer Int)) (R := ((FMap Payer Int))) (fun (x18, x19) => cond (decide (x18 < (z11.length : Int))) (Option.bind (ixo z11 x18) fun y21 => Option.bind (Option.bind (some ((x19 (Payer.mk y21.about y21.source)).getD 0)) fun y48 => Option.bind (chk .i64 (y48 + y21.cents)) fun n56 => some (fput x19 (Payer.mk y21.about y21.source) n56)) fun x77 => Option.bind (chk .i64 (x18 + 1)) fun n78 => some (.inl (n78, x77))) (some (.inr x19))) (0, fnone)) fun x79 => Option.bind (anyM (S := (FMap Int Span)) (fun x96 (y97 : Payer × Int) => Option.bind (some ((x96 y97.1.day).getD (Span.mk 0 0))) fun y114 => Option.bind (Option.bind (cond (!((x96 y97.1.day).isSome)) (some (y97.2, y97.2)) (some (y114.lo, y114.hi))) fun (x132, x133) => some (x132, x133)) fun (x134, x135) => some (fput x96 y97.1.day (Span.mk (min x134 y97.2) (max x135 y97.2)))) x79 fnone) fun x139 => some x139
theorem C_account_book_paid {M : List Nat} {w : World} (hM : MLt M w) {b : Book} {v_b_0 : Value} (f_b_0 : RdS ReportE M w v_b_0 b.facts) {r0 : (FMap Int Span)} (h : P.account_book_paid b = some r0) :
  Calls Tryd.prog 54 (List.toArray [Value.agg (List.toArray [v_b_0])]) w fun e w' => ∃ v0_0 : Value, e = .returned (v0_0) ∧ RdF Ky3 SpanE true M w' v0_0 r0 ∧ Ext w w' := by
 have hI := Hp.start (Mu := []) hM
 refine calls_cw Tryd.func54 rfl Tryd.ntmps54 rfl ?_
 refine cw_seq (cw_regF (y_box hI rfl rfl rfl ?_))
 intro b1 w2 hI3 x4
 have hC6 := hI3.freezeRow 0 rfl
 have hI5 := hI3.erase 0
 refine s_as rfl rfl (Reg.nil (cw_seq (cw_regF (y_mkF Ky141 (intE .i64) false hI5 rfl ?_))))
 intro b7 w8 hI9 x10
 refine s_as rfl rfl (Reg.nil (cw_seq (cw_seq (cw_regF (s_lda rfl (hC6.adv x10).cells Tryd.isAgg105 rfl Tryd.sizeOf105 rfl ?_)))))
 obtain ⟨z11, hz12, h⟩ := bnd h
 refine s_call rfl Tryd.call57 rfl ?_
 refine (C_account_book_of (b := (Book.mk b.facts)) hI9.mlt (f_b_0.adv hI9.adv) (by decide) hz12).mono ?_
 rintro _ w13 ⟨v15, rfl, hf16, e14⟩
 refine ⟨_, rfl, ?_⟩
 have hI17 := hI9.addOwn e14 hf16
 refine s_lenO rfl (hI17.ownAt 0 rfl) Tryd.underlying22 rfl ?_
 refine s_mv rfl rfl (Reg.nil ?_)
 obtain ⟨j18, h19, h⟩ := bnd h
 refine cw_keep [13, 14, 15, 3] rfl (cw_unitD 3 (ι := (FMap Payer Int)) (fun x20 => []) (fun x20 => fun w21 => Hp w [] M [ownR [] ReportE 61 v15 z11, mapO Ky141 (intE .i64) false b7 x20] w21 ∧ Adv (mm [ownR [] ReportE 61 v15 z11, mapO Ky141 (intE .i64) false b7 fnone] M) (mm [ownR [] ReportE 61 v15 z11, mapO Ky141 (intE .i64) false b7 x20] M) w13 w21 ∧ x20 = j18) ?_ ?_)
 ·refine cw_block (cw_keep [15, 3, 13, 14] rfl ?_)
  refine cw_loopM 1 (ι := Int × (FMap Payer Int)) _ (fun ⟨x24, x26⟩ => [(15, vi x24)]) (fun ⟨x24, x26⟩ => (x24, x26)) (fun ⟨x24, x26⟩ => fun w27 => Hp w [] M [ownR [] ReportE 61 v15 z11, mapO Ky141 (intE .i64) false b7 x26] w27 ∧ Adv (mm [ownR [] ReportE 61 v15 z11, mapO Ky141 (intE .i64) false b7 fnone] M) (mm [ownR [] ReportE 61 v15 z11, mapO Ky141 (intE .i64) false b7 x26] M) w13 w27 ∧ InK .i64 x24) (0, fnone) h19 ⟨hI17, (Adv.refl _ _), (by decide)⟩ (sb4 rfl rfl rfl rfl) ?_
  rintro ⟨x24, x26⟩ w27 ⟨hI28, hA29, r25⟩ y30 h31 hR32
  refine cw_seq (cw_regF (s_lss rfl rfl rfl (Reg.nil (cw_seq (cw_cond rfl (fun hc33 => ?_) (fun hc33 => ?_))))))
  ·replace h31 := cdT hc33 h31
   refine cw_skip (cw_seq (cw_block (cw_seq (cw_regF ?_))))
   obtain ⟨y34, hy34, h31⟩ := bnd h31
   refine y_ia 0 hI28 rfl rfl rfl hy34 Tryd.underlying22 Tryd.sizeOf61 rfl ?_
   intro g35 cs36 hg37 hR38 hC39
   have khR38 := hR38
   obtain ⟨rfl, r40, r41, r42, r43, r44, r45, r46, r47⟩ := ReportE_R.1 hR38
   refine s_lda rfl hC39 Tryd.isAgg61 rfl Tryd.sizeOf61 rfl (y_al hI28 Tryd.zeroValue61 rfl rfl ?_)
   intro b48 w49 hI50 x51
   refine y_st 0 hI50 rfl rfl rfl rfl Tryd.sizeOf61 rfl rfl (on8 rfl rfl rfl rfl rfl rfl rfl rfl) ?_
   intro w52 hI53 x54
   have hC56 := hI53.freezeRow 0 rfl
   have hI55 := hI53.erase 0
   refine Reg.nil ?_
   obtain ⟨j57, h58, h31⟩ := bnd h31
   refine cw_keep [5, 3, 13, 14, 15] rfl (cw_unitD 1 (ι := (FMap Payer Int)) (fun x59 => []) (fun x59 => fun w60 => Hp w [] M [ownR [] ReportE 61 v15 z11, mapO Ky141 (intE .i64) false b7 x59] w60 ∧ Adv (mm [ownR [] ReportE 61 v15 z11, mapO Ky141 (intE .i64) false b7 x26] M) (mm [ownR [] ReportE 61 v15 z11, mapO Ky141 (intE .i64) false b7 x59] M) w52 w60 ∧ x59 = j57) ?_ ?_)
   ·refine cw_regSea [0, 1, 2, 3, 4, 5, 7, 8] [6, 9, 10, 11, 12] [] [10, 12] [[10, 1], [10, 2], [10, 3], [10, 4], [10, 5], [10, 7], [10, 8], [12, 1], [12, 2], [12, 3], [12, 4], [12, 5], [12, 7], [12, 8]] [] fol (by kernel_rfl) rfl (by kernel_rfl) rfl rfl ?_
    refine s_mv rfl rfl (s_fa rfl Tryd.underlying61 rfl Tryd.sizeOf3 rfl (s_ld rfl (hC56.cells.at 4 rfl) Tryd.isAgg3 rfl (s_fa rfl Tryd.underlying61 rfl Tryd.sizeOf3 rfl (s_ld rfl (hC56.cells.at 1 rfl) Tryd.isAgg3 rfl ?_))))
    refine s_bd [(0, 1), (1, 1)] Tryd.zeroValue141 rfl Tryd.underlying141 (fun _ => by simp [Tryd.sizeOf3]) rfl (Cls.cons rfl (Cls.cons rfl (Cls.nil))) rfl rfl ?_
    refine s_fa rfl Tryd.underlying61 rfl Tryd.sizeOf3 rfl (s_ld rfl (hC56.cells.at 6 rfl) Tryd.isAgg3 rfl (Reg.nilX ⟨rfl, rfl, rfl, ?_⟩))
    intro w63 e64
    have hI65 := (Hp.start (Mu := []) hI55.mlt).ext e64
    obtain ⟨y67, hy67, h58⟩ := bnd h58
    obtain ⟨n75, hn75, h58⟩ := bnd h58
    refine SeaWalk.step [6, 10] (by kernel_rfl) (AllL.cons ?_ (AllL.cons ?_ (AllL.nil)))
    ·refine ⟨_, [], rfl, RSub.nil, rfl, nodupB_spec rfl, ?_⟩
     simp only [relOut]
     have hI96 := hI55.join hI65
     refine y_lkF1 1 (a := (Payer.mk y34.about y34.source)) (z0 := 0) hI96 rfl rfl rfl (show InK .i64 y34.about ∧ InK .i64 y34.source from ⟨r44, r41⟩) Tryd.underlying139 Tryd.zeroValue3 ⟨_, ⟨rfl, (by decide)⟩, .inr ⟨rfl, rfl⟩⟩ rfl ?_
     intro v97 hv98
     rw [Option.some.inj hy67] at hv98
     have hR99 := Vl.one1 hv98
     obtain ⟨r100', r100⟩ := hR99
     obtain rfl := one_inj r100'
     refine Reg.nil ⟨rfl, .inr hI65.kp, rfl, ?_⟩
     intro w101 e102
     have hI103 := hI96.ext e102
     refine SeaWalk.step [9, 10] (by kernel_rfl) (AllL.cons ?_ (AllL.cons ?_ (AllL.nil)))
     ·refine ⟨_, [], rfl, RSub.nil, rfl, nodupB_spec rfl, ?_⟩
      simp only [relOut]
      replace hn75 := chk_out hn75
      refine p_add rfl rfl rfl hn75 (Reg.nil ⟨rfl, .inr ((hI65.kp).trans e102), rfl, ?_⟩)
      intro w104 e105
      have hI106 := hI103.ext e105
      refine SeaWalk.step [10] (by kernel_rfl) (AllL.cons ?_ (AllL.nil))
      refine ⟨_, [], rfl, RSub.nil, rfl, nodupB_spec rfl, ?_⟩
      simp only [relOut]
      refine y_men 1 (a := (Payer.mk y34.about y34.source)) (z0 := 0) hI106 rfl rfl rfl (show InK .i64 y34.about ∧ InK .i64 y34.source from ⟨r44, r41⟩) Tryd.underlying139 Tryd.zeroValue3 ⟨_, ⟨rfl, (by decide)⟩, .inr ⟨rfl, rfl⟩⟩ rfl ?_
      intro v107 st108 w109 hI110 x111
      refine Reg.nil ⟨rfl, .inl rfl, rfl, ?_⟩
      intro w112 e113
      have hI114 := hI110.ext e113
      refine SeaWalk.step [11] (by kernel_rfl) (AllL.cons ?_ (AllL.nil))
      refine ⟨_, [], rfl, RSub.nil, rfl, nodupB_spec rfl, ?_⟩
      simp only [relOut]
      refine s_xt rfl rfl rfl (Reg.nil ⟨rfl, .inl rfl, rfl, ?_⟩)
      intro w115 e116
      have hI117 := hI114.ext e116
      refine SeaWalk.step [12] (by kernel_rfl) (AllL.cons ?_ (AllL.nil))
      refine ⟨_, [], rfl, RSub.nil, rfl, nodupB_spec rfl, ?_⟩
      simp only [relOut]
      refine y_est (K := Ky141) (E := (intE .i64)) (ag := false) 1 (a := (Payer.mk y34.about y34.source)) (z := n75) hI117 rfl rfl rfl (show InK .i64 y34.about ∧ InK .i64 y34.source from ⟨r44, r41⟩) rfl ⟨_, ⟨rfl, hn75.2⟩, .inr ⟨rfl, rfl⟩⟩ ?_
      intro w118 hI119 x120
      refine Reg.nil ⟨rfl, .inl rfl, rfl, ?_⟩
      intro w121 e122
      have hI123 := hI119.ext e122
      refine SeaWalk.done ?_
      obtain rfl := Option.some.inj h58
      refine ⟨rfl, (fput x26 (Payer.mk y34.about y34.source) n75), ⟨hI123, ((Adv.of_ext e64).trans ((Adv.of_ext e102).trans ((Adv.of_ext e105).trans (x111.trans ((Adv.of_ext e113).trans ((Adv.of_ext e116).trans (x120.trans (Adv.of_ext e122)))))))), rfl⟩, sb4 rfl rfl rfl rfl⟩
     refine ⟨_, [], rfl, RSub.nil, rfl, nodupB_spec rfl, ?_⟩
     simp only [relOut]
     refine y_men 1 (a := (Payer.mk y34.about y34.source)) (z0 := 0) hI103 rfl rfl rfl (show InK .i64 y34.about ∧ InK .i64 y34.source from ⟨r44, r41⟩) Tryd.underlying139 Tryd.zeroValue3 ⟨_, ⟨rfl, (by decide)⟩, .inr ⟨rfl, rfl⟩⟩ rfl ?_
     intro v124 st125 w126 hI127 x128
     refine Reg.nil ⟨rfl, .inl rfl, rfl, ?_⟩
     intro w129 e130
     have hI131 := hI127.ext e130
     refine SeaWalk.step [9, 11] (by kernel_rfl) (AllL.cons ?_ (AllL.cons ?_ (AllL.nil)))
     ·refine ⟨_, [], rfl, RSub.nil, rfl, nodupB_spec rfl, ?_⟩
      simp only [relOut]
      replace hn75 := chk_out hn75
      refine p_add rfl rfl rfl hn75 (Reg.nil ⟨rfl, .inl rfl, rfl, ?_⟩)
      intro w132 e133
      have hI134 := hI131.ext e133
      refine SeaWalk.step [11] (by kernel_rfl) (AllL.cons ?_ (AllL.nil))
      refine ⟨_, [], rfl, RSub.nil, rfl, nodupB_spec rfl, ?_⟩
      simp only [relOut]
      refine s_xt rfl rfl rfl (Reg.nil ⟨rfl, .inl rfl, rfl, ?_⟩)
      intro w135 e136
      have hI137 := hI134.ext e136
      refine SeaWalk.step [12] (by kernel_rfl) (AllL.cons ?_ (AllL.nil))
      refine ⟨_, [], rfl, RSub.nil, rfl, nodupB_spec rfl, ?_⟩
      simp only [relOut]
      refine y_est (K := Ky141) (E := (intE .i64)) (ag := false) 1 (a := (Payer.mk y34.about y34.source)) (z := n75) hI137 rfl rfl rfl (show InK .i64 y34.about ∧ InK .i64 y34.source from ⟨r44, r41⟩) rfl ⟨_, ⟨rfl, hn75.2⟩, .inr ⟨rfl, rfl⟩⟩ ?_
      intro w138 hI139 x140
      refine Reg.nil ⟨rfl, .inl rfl, rfl, ?_⟩
      intro w141 e142
      have hI143 := hI139.ext e142
      refine SeaWalk.done ?_
      obtain rfl := Option.some.inj h58
      refine ⟨rfl, (fput x26 (Payer.mk y34.about y34.source) n75), ⟨hI143, ((Adv.of_ext e64).trans ((Adv.of_ext e102).trans (x128.trans ((Adv.of_ext e130).trans ((Adv.of_ext e133).trans ((Adv.of_ext e136).trans (x140.trans (Adv.of_ext e142)))))))), rfl⟩, sb4 rfl rfl rfl rfl⟩
     refine ⟨_, [], rfl, RSub.nil, rfl, nodupB_spec rfl, ?_⟩
     simp only [relOut]
     refine s_xt rfl rfl rfl (Reg.nil ⟨rfl, .inl rfl, rfl, ?_⟩)
     intro w144 e145
     have hI146 := hI131.ext e145
     refine SeaWalk.step [9] (by kernel_rfl) (AllL.cons ?_ (AllL.nil))
     refine ⟨_, [], rfl, RSub.nil, rfl, nodupB_spec rfl, ?_⟩
     simp only [relOut]
     replace hn75 := chk_out hn75
     refine p_add rfl rfl rfl hn75 (Reg.nil ⟨rfl, .inl rfl, rfl, ?_⟩)
     intro w147 e148
     have hI149 := hI146.ext e148
     refine SeaWalk.step [12] (by kernel_rfl) (AllL.cons ?_ (AllL.nil))
     refine ⟨_, [], rfl, RSub.nil, rfl, nodupB_spec rfl, ?_⟩
     simp only [relOut]
     refine y_est (K := Ky141) (E := (intE .i64)) (ag := false) 1 (a := (Payer.mk y34.about y34.source)) (z := n75) hI149 rfl rfl rfl (show InK .i64 y34.about ∧ InK .i64 y34.source from ⟨r44, r41⟩) rfl ⟨_, ⟨rfl, hn75.2⟩, .inr ⟨rfl, rfl⟩⟩ ?_
     intro w150 hI151 x152
     refine Reg.nil ⟨rfl, .inl rfl, rfl, ?_⟩
     intro w153 e154
     have hI155 := hI151.ext e154
     refine SeaWalk.done ?_
     obtain rfl := Option.some.inj h58
     refine ⟨rfl, (fput x26 (Payer.mk y34.about y34.source) n75), ⟨hI155, ((Adv.of_ext e64).trans ((Adv.of_ext e102).trans (x128.trans ((Adv.of_ext e130).trans ((Adv.of_ext e145).trans ((Adv.of_ext e148).trans (x152.trans (Adv.of_ext e154)))))))), rfl⟩, sb4 rfl rfl rfl rfl⟩
    refine ⟨_, [], rfl, RSub.nil, rfl, nodupB_spec rfl, ?_⟩
    simp only [relOut]
    have hI156 := hI55.join hI65
    refine y_men 1 (a := (Payer.mk y34.about y34.source)) (z0 := 0) hI156 rfl rfl rfl (show InK .i64 y34.about ∧ InK .i64 y34.source from ⟨r44, r41⟩) Tryd.underlying139 Tryd.zeroValue3 ⟨_, ⟨rfl, (by decide)⟩, .inr ⟨rfl, rfl⟩⟩ rfl ?_
    intro v157 st158 w159 hI160 x161
    refine Reg.nil ⟨rfl, .inl rfl, rfl, ?_⟩
    intro w162 e163
    have hI164 := hI160.ext e163
    refine SeaWalk.step [6, 11] (by kernel_rfl) (AllL.cons ?_ (AllL.cons ?_ (AllL.nil)))
    ·refine ⟨_, [], rfl, RSub.nil, rfl, nodupB_spec rfl, ?_⟩
     simp only [relOut]
     refine y_lkS (K := Ky141) (E := (intE .i64)) (ag := false) 1 (a := (Payer.mk y34.about y34.source)) (z0 := 0) hI164 rfl rfl rfl (show InK .i64 y34.about ∧ InK .i64 y34.source from ⟨r44, r41⟩) Tryd.underlying139 Tryd.zeroValue3 ⟨_, ⟨rfl, (by decide)⟩, .inr ⟨rfl, rfl⟩⟩ rfl ?_
     intro v165 hv166
     rw [Option.some.inj hy67] at hv166
     have hR167 := Vl.one1 hv166
     obtain ⟨r168', r168⟩ := hR167
     obtain rfl := one_inj r168'
     refine Reg.nil ⟨rfl, .inl rfl, rfl, ?_⟩
     intro w169 e170
     have hI171 := hI164.ext e170
     refine SeaWalk.step [9, 11] (by kernel_rfl) (AllL.cons ?_ (AllL.cons ?_ (AllL.nil)))
     ·refine ⟨_, [], rfl, RSub.nil, rfl, nodupB_spec rfl, ?_⟩
      simp only [relOut]
      replace hn75 := chk_out hn75
      refine p_add rfl rfl rfl hn75 (Reg.nil ⟨rfl, .inl rfl, rfl, ?_⟩)
      intro w172 e173
      have hI174 := hI171.ext e173
      refine SeaWalk.step [11] (by kernel_rfl) (AllL.cons ?_ (AllL.nil))
      refine ⟨_, [], rfl, RSub.nil, rfl, nodupB_spec rfl, ?_⟩
      simp only [relOut]
      refine s_xt rfl rfl rfl (Reg.nil ⟨rfl, .inl rfl, rfl, ?_⟩)
      intro w175 e176
      have hI177 := hI174.ext e176
      refine SeaWalk.step [12] (by kernel_rfl) (AllL.cons ?_ (AllL.nil))
      refine ⟨_, [], rfl, RSub.nil, rfl, nodupB_spec rfl, ?_⟩
      simp only [relOut]
      refine y_est (K := Ky141) (E := (intE .i64)) (ag := false) 1 (a := (Payer.mk y34.about y34.source)) (z := n75) hI177 rfl rfl rfl (show InK .i64 y34.about ∧ InK .i64 y34.source from ⟨r44, r41⟩) rfl ⟨_, ⟨rfl, hn75.2⟩, .inr ⟨rfl, rfl⟩⟩ ?_
      intro w178 hI179 x180
      refine Reg.nil ⟨rfl, .inl rfl, rfl, ?_⟩
      intro w181 e182
      have hI183 := hI179.ext e182
      refine SeaWalk.done ?_
      obtain rfl := Option.some.inj h58
      refine ⟨rfl, (fput x26 (Payer.mk y34.about y34.source) n75), ⟨hI183, ((Adv.of_ext e64).trans (x161.trans ((Adv.of_ext e163).trans ((Adv.of_ext e170).trans ((Adv.of_ext e173).trans ((Adv.of_ext e176).trans (x180.trans (Adv.of_ext e182)))))))), rfl⟩, sb4 rfl rfl rfl rfl⟩
     refine ⟨_, [], rfl, RSub.nil, rfl, nodupB_spec rfl, ?_⟩
     simp only [relOut]
     refine s_xt rfl rfl rfl (Reg.nil ⟨rfl, .inl rfl, rfl, ?_⟩)
     intro w184 e185
     have hI186 := hI171.ext e185
     refine SeaWalk.step [9] (by kernel_rfl) (AllL.cons ?_ (AllL.nil))
     refine ⟨_, [], rfl, RSub.nil, rfl, nodupB_spec rfl, ?_⟩
     simp only [relOut]
     replace hn75 := chk_out hn75
     refine p_add rfl rfl rfl hn75 (Reg.nil ⟨rfl, .inl rfl, rfl, ?_⟩)
     intro w187 e188
     have hI189 := hI186.ext e188
     refine SeaWalk.step [12] (by kernel_rfl) (AllL.cons ?_ (AllL.nil))
     refine ⟨_, [], rfl, RSub.nil, rfl, nodupB_spec rfl, ?_⟩
     simp only [relOut]
     refine y_est (K := Ky141) (E := (intE .i64)) (ag := false) 1 (a := (Payer.mk y34.about y34.source)) (z := n75) hI189 rfl rfl rfl (show InK .i64 y34.about ∧ InK .i64 y34.source from ⟨r44, r41⟩) rfl ⟨_, ⟨rfl, hn75.2⟩, .inr ⟨rfl, rfl⟩⟩ ?_
     intro w190 hI191 x192
     refine Reg.nil ⟨rfl, .inl rfl, rfl, ?_⟩
     intro w193 e194
     have hI195 := hI191.ext e194
     refine SeaWalk.done ?_
     obtain rfl := Option.some.inj h58
     refine ⟨rfl, (fput x26 (Payer.mk y34.about y34.source) n75), ⟨hI195, ((Adv.of_ext e64).trans (x161.trans ((Adv.of_ext e163).trans ((Adv.of_ext e170).trans ((Adv.of_ext e185).trans ((Adv.of_ext e188).trans (x192.trans (Adv.of_ext e194)))))))), rfl⟩, sb4 rfl rfl rfl rfl⟩
    refine ⟨_, [], rfl, RSub.nil, rfl, nodupB_spec rfl, ?_⟩
    simp only [relOut]
    refine s_xt rfl rfl rfl (Reg.nil ⟨rfl, .inl rfl, rfl, ?_⟩)
    intro w196 e197
    have hI198 := hI164.ext e197
    refine SeaWalk.step [6] (by kernel_rfl) (AllL.cons ?_ (AllL.nil))
    refine ⟨_, [], rfl, RSub.nil, rfl, nodupB_spec rfl, ?_⟩
    simp only [relOut]
    refine y_lkS (K := Ky141) (E := (intE .i64)) (ag := false) 1 (a := (Payer.mk y34.about y34.source)) (z0 := 0) hI198 rfl rfl rfl (show InK .i64 y34.about ∧ InK .i64 y34.source from ⟨r44, r41⟩) Tryd.underlying139 Tryd.zeroValue3 ⟨_, ⟨rfl, (by decide)⟩, .inr ⟨rfl, rfl⟩⟩ rfl ?_
    intro v199 hv200
    rw [Option.some.inj hy67] at hv200
    have hR201 := Vl.one1 hv200
    obtain ⟨r202', r202⟩ := hR201
    obtain rfl := one_inj r202'
    refine Reg.nil ⟨rfl, .inl rfl, rfl, ?_⟩
    intro w203 e204
    have hI205 := hI198.ext e204
    refine SeaWalk.step [9] (by kernel_rfl) (AllL.cons ?_ (AllL.nil))
    refine ⟨_, [], rfl, RSub.nil, rfl, nodupB_spec rfl, ?_⟩
    simp only [relOut]
    replace hn75 := chk_out hn75
    refine p_add rfl rfl rfl hn75 (Reg.nil ⟨rfl, .inl rfl, rfl, ?_⟩)
    intro w206 e207
    have hI208 := hI205.ext e207
    refine SeaWalk.step [12] (by kernel_rfl) (AllL.cons ?_ (AllL.nil))
    refine ⟨_, [], rfl, RSub.nil, rfl, nodupB_spec rfl, ?_⟩
    simp only [relOut]
    refine y_est (K := Ky141) (E := (intE .i64)) (ag := false) 1 (a := (Payer.mk y34.about y34.source)) (z := n75) hI208 rfl rfl rfl (show InK .i64 y34.about ∧ InK .i64 y34.source from ⟨r44, r41⟩) rfl ⟨_, ⟨rfl, hn75.2⟩, .inr ⟨rfl, rfl⟩⟩ ?_
    intro w209 hI210 x211
    refine Reg.nil ⟨rfl, .inl rfl, rfl, ?_⟩
    intro w212 e213
    have hI214 := hI210.ext e213
    refine SeaWalk.done ?_
    obtain rfl := Option.some.inj h58
    refine ⟨rfl, (fput x26 (Payer.mk y34.about y34.source) n75), ⟨hI214, ((Adv.of_ext e64).trans (x161.trans ((Adv.of_ext e163).trans ((Adv.of_ext e197).trans ((Adv.of_ext e204).trans ((Adv.of_ext e207).trans (x211.trans (Adv.of_ext e213)))))))), rfl⟩, sb4 rfl rfl rfl rfl⟩
   rintro x59 w60 ⟨hI61, hA62, rfl⟩
   refine cw_regF ?_
   obtain ⟨n215, hn215, h31⟩ := bnd h31
   replace hn215 := chk_out hn215
   refine p_add rfl rfl rfl hn215 (s_mv rfl rfl (Reg.nil ?_))
   obtain rfl := Option.some.inj h31
   refine ⟨rfl, (n215, x59), ⟨⟨hI61, (hA29.trans (x51.trans (x54.trans ((hI53.eraseH 0).trans hA62)))), hn215.2⟩, rfl⟩, sb4 rfl rfl rfl rfl⟩
  replace h31 := cdF hc33 h31
  refine cw_exit (exB_same ?_)
  obtain rfl := Option.some.inj h31
  obtain rfl := hR32 _ rfl
  refine ⟨rfl, x26, ⟨hI28, hA29, rfl⟩, sb1 rfl⟩
 rintro x20 w21 ⟨hI22, hA23, rfl⟩
 refine cw_seq (cw_regF (y_mkF Ky3 SpanE true hI22 rfl ?_))
 intro b216 w217 hI218 x219
 refine s_as rfl rfl (Reg.nil (cw_seq (cw_seq (cw_regF (s_mv rfl rfl ?_)))))
 have hf220 := hI218.freezeM 2 rfl
 have hI221 := hI218.erase 2
 refine y_rg hI221 hf220 rfl Tryd.underlying139 rfl ?_
 intro r222 b223 c224 es225 xs226 w227 hX228 hL229 hI230 x231
 refine Reg.nil ?_
 obtain ⟨j232, h233, h⟩ := bnd h
 refine cw_keep [34, 6] rfl (cw_unitD 1 (ι := (FMap Int Span)) (fun x234 => []) (fun x234 => fun w235 => Hp w [] M [mapO Ky3 SpanE true b216 x234, ownR [] ReportE 61 v15 z11] w235 ∧ Adv (mm [itR r222 b223 c224 es225 xs226 none xs226, mapO Ky3 SpanE true b216 fnone, ownR [] ReportE 61 v15 z11] M) (mm [mapO Ky3 SpanE true b216 x234, ownR [] ReportE 61 v15 z11] M) w227 w235 ∧ x234 = j232) ?_ ?_)
 ·refine cw_block (cw_keep [6, 34] rfl (cw_loopA 0 (ι := (FMap Int Span)) _ (fun x239 => []) (fun x239 => x239) (fun x239 => fun l238 w240 => Hp w [] M [itR r222 b223 c224 es225 xs226 none l238, mapO Ky3 SpanE true b216 x239, ownR [] ReportE 61 v15 z11] w240 ∧ Adv (mm [itR r222 b223 c224 es225 xs226 none xs226, mapO Ky3 SpanE true b216 fnone, ownR [] ReportE 61 v15 z11] M) (mm [itR r222 b223 c224 es225 xs226 none l238, mapO Ky3 SpanE true b216 x239, ownR [] ReportE 61 v15 z11] M) w227 w240) fnone xs226 (anyM_out h233 hL229) ⟨hI230, (Adv.refl _ _)⟩ (sb2 rfl rfl) ?_))
  rintro x239 l238 w240 ⟨hI241, hA242⟩ h244 hR245
  refine cw_seq (cw_regF (y_nx 0 hI241 (hX228.adv (x231.trans hA242)) rfl rfl rfl (fun hn246 => ?_) ?_))
  ·obtain rfl := h244 hn246
   have hI256 := hI241.erase 0
   refine s_xt rfl rfl rfl (Reg.nil (cw_seq (cw_condF rfl ?_)))
   refine cw_exit (exB_same ?_)
   refine ⟨rfl, x239, ⟨hI256, (hA242.trans (hI241.eraseH 0)), rfl⟩, sb1 rfl⟩
  intro y247 l248 k249 v250 w251 hp252 hI253 x254
  obtain ⟨shB255, hB255⟩ := hR245 y247 l248 hp252
  have zhB255 := hB255
  refine s_xt rfl rfl rfl (Reg.nil (cw_seq (cw_condT rfl ?_)))
  refine cw_skip (cw_block (cw_seq (cw_regF (y_en 0 hI253 (hX228.adv (x231.trans (hA242.trans x254))) rfl rfl rfl ?_))))
  intro v257 hk258 hv259
  have hR260 := Vl.one1 hv259
  obtain ⟨r261', r261⟩ := hR260
  obtain rfl := one_inj r261'
  have hI262 := hI253.itOff 0 rfl
  refine s_xt rfl rfl rfl (s_xt rfl rfl rfl (y_al hI262 Tryd.zeroValue141 rfl rfl ?_))
  intro b263 w264 hI265 x266
  refine y_st 0 hI265 rfl rfl rfl rfl Tryd.sizeOf141 rfl rfl (on2 rfl rfl) ?_
  intro w267 hI268 x269
  have hC271 := hI268.freezeRow 0 rfl
  have hI270 := hI268.erase 0
  refine s_as rfl rfl (Reg.nil (cw_seq (cw_regF (s_mv rfl rfl (s_fa rfl Tryd.underlying141 rfl Tryd.sizeOf3 rfl (s_ld rfl (hC271.cells.at 0 rfl) Tryd.isAgg3 rfl ?_))))))
  obtain ⟨y272, hy272, hB255⟩ := bnd hB255
  refine y_lkF 1 (a := y247.1.day) (z0 := (Span.mk 0 0)) hI270 rfl rfl rfl (show InK .i64 y247.1.day from (show InK .i64 y247.1.day ∧ InK .i64 y247.1.source from hk258).1) Tryd.underlying115 Tryd.zeroValue40 ⟨_, ((SpanE_R (x := (Span.mk 0 0))).2 ⟨rfl, (show InK .i64 0 by decide), (show InK .i64 0 by decide)⟩), .inl ⟨rfl, rfl⟩⟩ rfl ?_
  intro v273 hv274
  rw [Option.some.inj hy272] at hv274
  obtain ⟨cs275, hR276, rfl⟩ := Vl.agg hv274
  obtain ⟨rfl, r277, r278⟩ := SpanE_R.1 hR276
  refine s_mv rfl rfl (s_xt rfl rfl rfl (s_xt rfl rfl rfl (y_al hI270 Tryd.zeroValue40 rfl rfl ?_)))
  intro b279 w280 hI281 x282
  refine y_st 0 hI281 rfl rfl rfl rfl Tryd.sizeOf40 rfl rfl (on2 rfl rfl) ?_
  intro w283 hI284 x285
  refine s_as rfl rfl (Reg.nil ?_)
  obtain ⟨j286, h287, hB255⟩ := bnd hB255
  refine cw_keep [10, 6, 7, 8, 9, 34] rfl (cw_seqD 1 (ι := Int × Int) (fun ⟨x288, x290⟩ => []) (fun ⟨x288, x290⟩ => fun w292 => Hp w [] M [rowR 40 b279 [vi x288, vi x290], itR r222 b223 c224 es225 xs226 none l248, mapO Ky3 SpanE true b216 x239, ownR [] ReportE 61 v15 z11] w292 ∧ Adv (mm [rowR 40 b279 [vi y272.lo, vi y272.hi], itR r222 b223 c224 es225 xs226 none l248, mapO Ky3 SpanE true b216 x239, ownR [] ReportE 61 v15 z11] M) (mm [rowR 40 b279 [vi x288, vi x290], itR r222 b223 c224 es225 xs226 none l248, mapO Ky3 SpanE true b216 x239, ownR [] ReportE 61 v15 z11] M) w283 w292 ∧ InK .i64 x288 ∧ InK .i64 x290 ∧ (x288, x290) = j286) ?_ ?_)
  ·refine cw_seq (cw_regF (s_mv rfl rfl (s_not rfl rfl (Reg.nil ?_))))
   obtain ⟨j295, h296, h287⟩ := bnd h287
   refine cw_keep [48, 6, 7, 8, 9, 34] rfl (cw_unitD 1 (ι := Int × Int) (fun ⟨x297, x299⟩ => []) (fun ⟨x297, x299⟩ => fun w301 => Hp w [] M [rowR 40 b279 [vi x297, vi x299], itR r222 b223 c224 es225 xs226 none l248, mapO Ky3 SpanE true b216 x239, ownR [] ReportE 61 v15 z11] w301 ∧ Adv (mm [rowR 40 b279 [vi y272.lo, vi y272.hi], itR r222 b223 c224 es225 xs226 none l248, mapO Ky3 SpanE true b216 x239, ownR [] ReportE 61 v15 z11] M) (mm [rowR 40 b279 [vi x297, vi x299], itR r222 b223 c224 es225 xs226 none l248, mapO Ky3 SpanE true b216 x239, ownR [] ReportE 61 v15 z11] M) w283 w301 ∧ InK .i64 x297 ∧ InK .i64 x299 ∧ (x297, x299) = j295) ?_ ?_)
   ·refine cw_cond rfl (fun hc304 => ?_) (fun hc304 => ?_)
    ·replace h296 := cdT hc304 h296
     refine cw_regF (s_mv rfl rfl (s_mv rfl rfl ?_))
     refine s_bd [(0, 1), (1, 1)] Tryd.zeroValue40 rfl Tryd.underlying40 (fun _ => by simp [Tryd.sizeOf3]) rfl (Cls.cons rfl (Cls.cons rfl (Cls.nil))) rfl rfl ?_
     refine y_st 0 hI284 rfl rfl rfl rfl Tryd.sizeOf40 rfl rfl (on2 rfl rfl) ?_
     intro w305 hI306 x307
     refine Reg.nil ?_
     obtain rfl := Option.some.inj h296
     refine ⟨rfl, (y247.2, y247.2), ⟨hI306, x307, r261, r261, rfl⟩, sb5 rfl rfl rfl rfl rfl⟩
    replace h296 := cdF hc304 h296
    refine cw_skip ?_
    obtain rfl := Option.some.inj h296
    refine ⟨rfl, (y272.lo, y272.hi), ⟨hI284, (Adv.refl _ _), r277, r278, rfl⟩, sb5 rfl rfl rfl rfl rfl⟩
   rintro ⟨x297, x299⟩ w301 ⟨hI302, hA303, r298, r300, rfl⟩
   obtain rfl := Option.some.inj h287
   refine ⟨rfl, (x297, x299), ⟨hI302, hA303, r298, r300, rfl⟩, sb5 rfl rfl rfl rfl rfl⟩
  rintro ⟨x288, x290⟩ w292 ⟨hI293, hA294, r289, r291, rfl⟩
  refine cw_regF (s_mv rfl rfl (s_fa rfl Tryd.underlying141 rfl Tryd.sizeOf3 rfl (s_ld rfl ((hC271.adv (x282.trans (x285.trans hA294))).cells.at 0 rfl) Tryd.isAgg3 rfl (s_fa rfl Tryd.underlying40 rfl Tryd.sizeOf3 rfl (s_ld rfl ((hI293.row 0 rfl).rd.cells.at 0 rfl) Tryd.isAgg3 rfl (s_mv rfl rfl (s_min rfl rfl rfl ?_)))))))
  refine s_fa rfl Tryd.underlying40 rfl Tryd.sizeOf3 rfl (s_ld rfl ((hI293.row 0 rfl).rd.cells.at 1 rfl) Tryd.isAgg3 rfl (s_mv rfl rfl (s_max rfl rfl rfl ?_)))
  refine s_bd [(0, 1), (1, 1)] Tryd.zeroValue40 rfl Tryd.underlying40 (fun _ => by simp [Tryd.sizeOf3]) rfl (Cls.cons rfl (Cls.cons rfl (Cls.nil))) rfl rfl ?_
  refine y_upF 2 (a := y247.1.day) (z := (Span.mk (min x288 y247.2) (max x290 y247.2))) hI293 rfl rfl rfl (show InK .i64 y247.1.day from (show InK .i64 y247.1.day ∧ InK .i64 y247.1.source from hk258).1) rfl ⟨_, ((SpanE_R (x := (Span.mk (min x288 y247.2) (max x290 y247.2)))).2 ⟨rfl, (InK.imin r289 r261), (InK.imax r291 r261)⟩), .inl ⟨rfl, rfl⟩⟩ Tryd.underlying115 ?_
  intro w308 hI309 x310
  refine Reg.nil ?_
  obtain rfl := Option.some.inj hB255
  refine ⟨rfl, (fput x239 y247.1.day (Span.mk (min x288 y247.2) (max x290 y247.2))), y247, l248, ⟨hp252, zhB255, ⟨(hI309.sel [1, 2, 3] rfl), ((hA242.trans (x254.trans ((Hp.itOffA (σ := [itR r222 b223 c224 es225 xs226 (some y247) l248, mapO Ky3 SpanE true b216 x239, ownR [] ReportE 61 v15 z11]) (M := M) 0 rfl).trans (x266.trans (x269.trans ((hI268.eraseH 0).trans (x282.trans (x285.trans (hA294.trans x310))))))))).trans (Hp.selA (σ := [rowR 40 b279 [vi x288, vi x290], itR r222 b223 c224 es225 xs226 none l248, mapO Ky3 SpanE true b216 (fput x239 y247.1.day (Span.mk (min x288 y247.2) (max x290 y247.2))), ownR [] ReportE 61 v15 z11]) [1, 2, 3]))⟩⟩, sb2 rfl rfl⟩
 rintro x234 w235 ⟨hI236, hA237, rfl⟩
 refine cw_seq (cw_regF (s_mv rfl rfl (s_as rfl rfl (Reg.nil (cw_ret ?_)))))
 obtain rfl := Option.some.inj h
 have hf311 := hI236.freezeM 0 rfl
 have hI312 := hI236.erase 0
 refine fin1 Tryd.results54 rfl ?_
 exact ⟨_, rfl, (hf311.adv hI312.baseH), hI312.kp⟩
end Go.Proofs.YtepjkmoipjeghaaDoor
set_option maxRecDepth 20000
set_option maxHeartbeats 4000000
namespace Go.Proofs.YtepjkmoipjeghaaDoor
open Go Go.Sx Go.RowKit
noncomputable def P.account_State (l : (List Report)) (account : Int) (day : Int) (known : Int) : Option (State × Int) :=
  Option.bind (P.account_Check l) fun z5 => cond (!decide (z5 = 0)) (some ((State.mk (Told.mk 0 0 0 []) (Told.mk 0 0 0 []) (Told.mk 0 0 0 []) (Told.mk 0 0 0 []) (Told.mk 0 0 0 []) (Told.mk 0 0 0 []) (Span.mk 0 0) 0), z5)) (Option.bind (Option.bind (P.account_in 0 999999 ([account] : List Int)) fun z19 => cond (!z19) (some true) (Option.bind (P.account_in 0 100000 ([day, known] : List Int)) fun z29 => some (!z29))) fun x34 => cond x34 (some ((State.mk (Told.mk 0 0 0 []) (Told.mk 0 0 0 []) (Told.mk 0 0 0 []) (Told.mk 0 0 0 []) (Told.mk 0 0 0 []) (Told.mk 0 0 0 []) (Span.mk 0 0) 0), 2)) (Option.bind (P.account_kept l account day known) fun z39 => Option.bind (P.account_book_once (Book.mk z39.facts) 1) fun z88 => Option.bind (P.account_book_last (Book.mk z39.facts) 2) fun z134 => Option.bind (P.account_book_last (Book.mk z39.facts) 3) fun z180 => Option.bind (P.account_book_last (Book.mk z39.facts) 5) fun z226 => Option.bind (P.account_book_once (Book.mk z39.facts) 6) fun z272 => Option.bind (P.account_book_once (Book.mk z39.facts) 7) fun z318 => Option.bind (P.account_book_paid (Book.mk z39.facts)) fun z340 => Option.bind (anyM (S := Int × Int) (fun (x357, x358) (y359 : Int × Span) => Option.bind (chk .i64 (x357 + y359.2.lo)) fun n378 => Option.bind (chk .i64 (x358 + y359.2.hi)) fun n382 => some (n378, n382)) z340 (0, 0)) fun (x386, x387) => Option.bind (Option.bind (cond (!decide (z318.known = 0)) (some 4) (Option.bind (cond (!decide (z272.known = 0)) (some 3) (Option.bind (cond (decide (z226.known = 1)) (some true) (some (decide (0 < z226.cents)))) fun x397 => Option.bind (cond x397 (some 2) (Option.bind (cond (decide (0 < (z39.facts.length : Int))) (some 1) (some 0)) fun x406 => some x406)) fun x407 => some x407)) fun x408 => some x408)) fun x409 => some x409) fun x410 => some ((State.mk (Told.mk z88.known z88.cents z88.since z88.by_) (Told.mk z134.known z134.cents z134.since z134.by_) (Told.mk z180.known z180.cents z180.since z180.by_) (Told.mk z226.known z226.cents z226.since z226.by_) (Told.mk z272.known z272.cents z272.since z272.by_) (Told.mk z318.known z318.cents z318.since z318.by_) (Span.mk x386 x387) x410), 0)))
theorem C_account_State {M : List Nat} {w : World} (hM : MLt M w) (hG : RdC M w 0 0 (glob0.map (Value.int .i64))) {l : (List Report)} {v_l_0 : Value} (f_l_0 : RdS ReportE M w v_l_0 l) {account : Int} (f_account_0 : InK .i64 account) {day : Int} (f_day_0 : InK .i64 day) {known : Int} (f_known_0 : InK .i64 known) {r0 : State} {r1 : Int} (h : P.account_State l account day known = some (r0, r1)) :
  Calls Tryd.prog 20 (List.toArray [v_l_0, vi account, vi day, vi known]) w fun e w' => ∃ v0_3 : Value, ∃ v0_7 : Value, ∃ v0_11 : Value, ∃ v0_15 : Value, ∃ v0_19 : Value, ∃ v0_23 : Value, e = .returned (Value.tuple (List.toArray [Value.agg (List.toArray [vu r0.opened.known, vi r0.opened.cents, vi r0.opened.since, v0_3, vu r0.limit.known, vi r0.limit.cents, vi r0.limit.since, v0_7, vu r0.owed.known, vi r0.owed.cents, vi r0.owed.since, v0_11, vu r0.late.known, vi r0.late.cents, vi r0.late.since, v0_15, vu r0.default.known, vi r0.default.cents, vi r0.default.since, v0_19, vu r0.closed.known, vi r0.closed.cents, vi r0.closed.since, v0_23, vi r0.paid.lo, vi r0.paid.hi, vu r0.is_]), vi r1])) ∧ InK .u8 r0.opened.known ∧ InK .i64 r0.opened.cents ∧ InK .i64 r0.opened.since ∧ RdS (intE .i64) M w' v0_3 r0.opened.by_ ∧ InK .u8 r0.limit.known ∧ InK .i64 r0.limit.cents ∧ InK .i64 r0.limit.since ∧ RdS (intE .i64) M w' v0_7 r0.limit.by_ ∧ InK .u8 r0.owed.known ∧ InK .i64 r0.owed.cents ∧ InK .i64 r0.owed.since ∧ RdS (intE .i64) M w' v0_11 r0.owed.by_ ∧ InK .u8 r0.late.known ∧ InK .i64 r0.late.cents ∧ InK .i64 r0.late.since ∧ RdS (intE .i64) M w' v0_15 r0.late.by_ ∧ InK .u8 r0.default.known ∧ InK .i64 r0.default.cents ∧ InK .i64 r0.default.since ∧ RdS (intE .i64) M w' v0_19 r0.default.by_ ∧ InK .u8 r0.closed.known ∧ InK .i64 r0.closed.cents ∧ InK .i64 r0.closed.since ∧ RdS (intE .i64) M w' v0_23 r0.closed.by_ ∧ InK .i64 r0.paid.lo ∧ InK .i64 r0.paid.hi ∧ InK .u8 r0.is_ ∧ InK .i64 r1 ∧ Ext w w' := by
 have hI := Hp.start (Mu := []) hM
 refine calls_cw Tryd.func20 rfl Tryd.ntmps20 rfl ?_
 refine cw_seq (cw_regF (y_al hI Tryd.zeroValue42 rfl rfl ?_))
 intro b1 w2 hI3 x4
 refine s_as rfl rfl (Reg.nil (cw_seq (cw_seq (cw_regF (s_mv rfl rfl ?_)))))
 obtain ⟨z5, hz6, h⟩ := bnd h
 refine s_call rfl Tryd.call17 rfl ((C_account_Check hI3.mlt (hG.adv hI3.adv) (f_l_0.adv hI3.adv) hz6).mono ?_)
 rintro _ w7 ⟨rfl, r9, e8⟩
 refine ⟨_, rfl, ?_⟩
 have hI10 := hI3.ext e8
 refine s_as rfl rfl (Reg.nil (cw_seq (cw_regF (s_mv rfl rfl (s_neq rfl rfl rfl (Reg.nil (cw_cond rfl (fun hc11 => ?_) (fun hc11 => ?_))))))))
 ·replace h := cdT hc11 h
  refine cw_seq (cw_regF ?_)
  refine s_bd [(0, 4), (4, 4), (8, 4), (12, 4), (16, 4), (20, 4), (24, 2), (26, 1)] Tryd.zeroValue42 rfl Tryd.underlying42 (fun _ => by simp [Tryd.sizeOf38, Tryd.sizeOf40, Tryd.sizeOf5]) rfl (Cls.nil) rfl rfl ?_
  refine s_mv rfl rfl (y_st 0 hI10 rfl rfl rfl rfl Tryd.sizeOf42 rfl rfl (on27 rfl rfl rfl rfl rfl rfl rfl rfl rfl rfl rfl rfl rfl rfl rfl rfl rfl rfl rfl rfl rfl rfl rfl rfl rfl rfl rfl) ?_)
  intro w12 hI13 x14
  refine s_as rfl rfl (Reg.nil (cw_ret ?_))
  obtain ⟨rfl, rfl⟩ := inj2 h
  refine fin_any Tryd.results20 (AllRs.cons (RsOk.agg rfl (hI13.row 0 rfl).rd.cells Tryd.isAgg42 rfl Tryd.sizeOf42) (AllRs.cons (RsOk.tmp rfl) (AllRs.nil))) rfl ?_
  exact ⟨_, _, _, _, _, _, rfl, (show InK .u8 0 by decide), (show InK .i64 0 by decide), (show InK .i64 0 by decide), (RdS.nil _ _ _), (show InK .u8 0 by decide), (show InK .i64 0 by decide), (show InK .i64 0 by decide), (RdS.nil _ _ _), (show InK .u8 0 by decide), (show InK .i64 0 by decide), (show InK .i64 0 by decide), (RdS.nil _ _ _), (show InK .u8 0 by decide), (show InK .i64 0 by decide), (show InK .i64 0 by decide), (RdS.nil _ _ _), (show InK .u8 0 by decide), (show InK .i64 0 by decide), (show InK .i64 0 by decide), (RdS.nil _ _ _), (show InK .u8 0 by decide), (show InK .i64 0 by decide), (show InK .i64 0 by decide), (RdS.nil _ _ _), (show InK .i64 0 by decide), (show InK .i64 0 by decide), (show InK .u8 0 by decide), r9, hI13.kp⟩
 replace h := cdF hc11 h
 refine cw_skip (cw_seq ?_)
 obtain ⟨j15, h16, h⟩ := bnd h
 refine cw_keep [0, 1, 2, 3, 8] rfl (cw_seqD 0 (ι := Bool) (fun x17 => [(33, Value.bool x17)]) (fun x17 => fun w18 => Hp w [] M [rowR 42 b1 zSt] w18 ∧ Adv (mm [rowR 42 b1 zSt] M) (mm [rowR 42 b1 zSt] M) w7 w18 ∧ x17 = j15) ?_ ?_)
 ·refine cw_regF (s_mv rfl rfl (y_bs (E := (intE .i64)) (xs := [account]) sl36 hI10 rfl rfl (Cls.cons rfl Cls.nil) (Chs.cons ⟨rfl, f_account_0⟩ Chs.nil) rfl rfl ?_))
  intro v21 w22 hI23 x24
  obtain ⟨z25, hz26, h16⟩ := bnd h16
  refine s_call rfl Tryd.call35 rfl ?_
  refine (C_account_in (hI23.sel [1] rfl).mlt (by decide) (by decide) (hI23.lendRd [1] 0 rfl rfl) hz26).mono ?_
  rintro _ w27 ⟨rfl, e28⟩
  refine ⟨_, rfl, ?_⟩
  have hI29 := hI23.ext e28
  refine s_not rfl rfl (s_mv rfl rfl (Reg.gsplit (t := 27) rfl (fun hg30 => ?_) (fun hg30 => ?_)))
  ·replace h16 := cdT hg30 h16
   iterate 5 refine Reg.pass rfl rfl rfl rfl ?_
   refine s_pkT rfl rfl rfl (Reg.nil ?_)
   obtain rfl := Option.some.inj h16
   refine ⟨rfl, true, ⟨(hI29.sel [1] rfl), ((x24.trans (Adv.of_ext e28)).trans (Hp.selA (σ := [ownR [] (intE .i64) 3 v21 ([account] : List Int), rowR 42 b1 zSt]) [1])), rfl⟩, sb6 rfl rfl rfl rfl rfl rfl⟩
  replace h16 := cdF hg30 h16
  refine Reg.take rfl rfl (s_mv rfl rfl (Reg.take rfl rfl (s_mv rfl rfl (Reg.take rfl rfl (y_bs (E := (intE .i64)) (xs := [day, known]) sl36 hI29 rfl rfl (Cls.cons rfl (Cls.cons rfl Cls.nil)) (Chs.cons ⟨rfl, f_day_0⟩ (Chs.cons ⟨rfl, f_known_0⟩ Chs.nil)) rfl rfl ?_)))))
  intro v31 w32 hI33 x34
  refine Reg.take rfl rfl ?_
  obtain ⟨z35, hz36, h16⟩ := bnd h16
  refine s_call rfl Tryd.call35 rfl ?_
  refine (C_account_in (hI33.sel [1, 2] rfl).mlt (by decide) (by decide) (hI33.lendRd [1, 2] 0 rfl rfl) hz36).mono ?_
  rintro _ w37 ⟨rfl, e38⟩
  refine ⟨_, rfl, ?_⟩
  have hI39 := hI33.ext e38
  refine Reg.take rfl rfl (s_not rfl rfl (s_pkF rfl rfl rfl (Reg.nil ?_)))
  obtain rfl := Option.some.inj h16
  refine ⟨rfl, !z35, ⟨(hI39.sel [2] rfl), ((x24.trans ((Adv.of_ext e28).trans (x34.trans (Adv.of_ext e38)))).trans (Hp.selA (σ := [ownR [] (intE .i64) 3 v31 ([day, known] : List Int), ownR [] (intE .i64) 3 v21 ([account] : List Int), rowR 42 b1 zSt]) [2])), rfl⟩, sb6 rfl rfl rfl rfl rfl rfl⟩
 rintro x17 w18 ⟨hI19, hA20, rfl⟩
 refine cw_cond rfl (fun hc40 => ?_) (fun hc40 => ?_)
 ·replace h := cdT hc40 h
  refine cw_seq (cw_regF ?_)
  refine s_bd [(0, 4), (4, 4), (8, 4), (12, 4), (16, 4), (20, 4), (24, 2), (26, 1)] Tryd.zeroValue42 rfl Tryd.underlying42 (fun _ => by simp [Tryd.sizeOf38, Tryd.sizeOf40, Tryd.sizeOf5]) rfl (Cls.nil) rfl rfl ?_
  refine y_st 0 hI19 rfl rfl rfl rfl Tryd.sizeOf42 rfl rfl (on27 rfl rfl rfl rfl rfl rfl rfl rfl rfl rfl rfl rfl rfl rfl rfl rfl rfl rfl rfl rfl rfl rfl rfl rfl rfl rfl rfl) ?_
  intro w41 hI42 x43
  refine s_as rfl rfl (Reg.nil (cw_ret ?_))
  obtain ⟨rfl, rfl⟩ := inj2 h
  refine fin_any Tryd.results20 (AllRs.cons (RsOk.agg rfl (hI42.row 0 rfl).rd.cells Tryd.isAgg42 rfl Tryd.sizeOf42) (AllRs.cons (RsOk.tmp rfl) (AllRs.nil))) rfl ?_
  exact ⟨_, _, _, _, _, _, rfl, (show InK .u8 0 by decide), (show InK .i64 0 by decide), (show InK .i64 0 by decide), (RdS.nil _ _ _), (show InK .u8 0 by decide), (show InK .i64 0 by decide), (show InK .i64 0 by decide), (RdS.nil _ _ _), (show InK .u8 0 by decide), (show InK .i64 0 by decide), (show InK .i64 0 by decide), (RdS.nil _ _ _), (show InK .u8 0 by decide), (show InK .i64 0 by decide), (show InK .i64 0 by decide), (RdS.nil _ _ _), (show InK .u8 0 by decide), (show InK .i64 0 by decide), (show InK .i64 0 by decide), (RdS.nil _ _ _), (show InK .u8 0 by decide), (show InK .i64 0 by decide), (show InK .i64 0 by decide), (RdS.nil _ _ _), (show InK .i64 0 by decide), (show InK .i64 0 by decide), (show InK .u8 0 by decide), (by decide), hI42.kp⟩
 replace h := cdF hc40 h
 refine cw_skip (cw_seq (cw_regF ?_))
 iterate 4 refine s_mv rfl rfl ?_
 obtain ⟨z44, hz45, h⟩ := bnd h
 refine s_call rfl Tryd.call52 rfl ((C_account_kept hI19.mlt (hG.adv hI19.adv) (f_l_0.adv hI19.adv) f_account_0 f_day_0 f_known_0 hz45).mono ?_)
 rintro _ w46 ⟨v48, rfl, hf49, e47⟩
 refine ⟨_, rfl, ?_⟩
 have hI50 := hI19.ext e47
 refine y_al hI50 Tryd.zeroValue105 rfl rfl ?_
 intro b51 w52 hI53 x54
 refine y_st 0 hI53 rfl rfl rfl rfl Tryd.sizeOf105 rfl rfl (one1 (RdS.oneC hf49) one0) ?_
 intro w55 hI56 x57
 have hC59 := hI56.freezeRow 0 rfl
 have hI58 := hI56.erase 0
 refine Reg.nil (cw_seq (cw_regF (y_al hI58 Tryd.zeroValue42 rfl rfl ?_)))
 intro b60 w61 hI62 x63
 refine Reg.nil (cw_seq (cw_seq (cw_regF (s_call rfl Tryd.call53 rfl ((C_account_fields hI62.mlt).mono ?_)))))
 rintro _ w64 ⟨v66, rfl, hf67, e65⟩
 refine ⟨_, rfl, ?_⟩
 have hI68 := hI62.ext e65
 refine s_len rfl hf67 Tryd.underlying107 rfl (s_mv rfl rfl (Reg.nil (cw_block (cw_loopU ?_))))
 refine cwl_step ?_
 refine cw_seq (cw_regF (s_lss rfl rfl rfl (Reg.nil (cw_seq (cw_condT rfl ?_)))))
 refine cw_skip (cw_seq (cw_block (cw_seq (cw_regF (p_ia (z := tab53.getD 0 []) rfl rfl hf67 rfl Tryd.underlying107 Tryd.sizeOf112 rfl ?_)))))
 intro b69 o70 cs71 hR72 hC73
 obtain ⟨rfl, _⟩ := hR72
 refine s_lda rfl hC73.cells Tryd.isAgg112 rfl Tryd.sizeOf112 rfl (y_al hI68 Tryd.zeroValue112 rfl rfl ?_)
 intro b74 w75 hI76 x77
 refine y_st 0 hI76 rfl rfl rfl rfl Tryd.sizeOf112 rfl rfl (on3 rfl rfl rfl) ?_
 intro w78 hI79 x80
 have hC82 := hI79.freezeRow 0 rfl
 have hI81 := hI79.erase 0
 refine Reg.nil ?_
 refine cw_regSea [0, 1, 3, 4, 5, 6, 7] [2, 8, 9, 10] [] [10] [[10, 0], [10, 1], [10, 3], [10, 4], [10, 5], [10, 6], [10, 7]] [] fol (by kernel_rfl) rfl (by kernel_rfl) rfl rfl ?_
 refine s_fa rfl Tryd.underlying112 rfl Tryd.sizeOf109 rfl (s_ld rfl (hC82.cells.at 1 rfl) Tryd.isAgg109 rfl (s_fa rfl Tryd.underlying112 rfl Tryd.sizeOf110 rfl (s_ld rfl (hC82.cells.at 2 rfl) Tryd.isAgg110 rfl (s_lda rfl (hC59.adv (x63.trans ((Adv.of_ext e65).trans (x77.trans (x80.trans (hI79.eraseH 0)))))).cells Tryd.isAgg105 rfl Tryd.sizeOf105 rfl (s_fa rfl Tryd.underlying112 rfl Tryd.sizeOf5 rfl (s_ld rfl (hC82.cells.at 0 rfl) Tryd.isAgg5 rfl (Reg.nilX ⟨rfl, rfl, rfl, ?_⟩)))))))
 intro w83 e84
 have hI85 := (Hp.start (Mu := []) hI81.mlt).ext e84
 refine SeaWalk.step [2] (by kernel_rfl) (AllL.cons ?_ (AllL.nil))
 refine ⟨_, [], rfl, RSub.nil, rfl, nodupB_spec rfl, ?_⟩
 simp only [relOut]
 have hI86 := hI81.join hI85
 refine s_callV rfl rfl rfl ?_
 refine CallsV.go Tryd.call79 rfl (C_pf79 (o := 0) hI86.mlt) ?_
 rintro _ w87 ⟨rfl, e88⟩
 refine ⟨_, rfl, ?_⟩
 have hI89 := hI86.ext e88
 refine Reg.nil ⟨rfl, .inr ((hI85.kp).trans e88), rfl, ?_⟩
 intro w90 e91
 have hI92 := hI89.ext e91
 refine SeaWalk.step [8] (by kernel_rfl) (AllL.cons ?_ (AllL.nil))
 refine ⟨_, [], rfl, RSub.nil, rfl, nodupB_spec rfl, ?_⟩
 simp only [relOut]
 obtain ⟨z93, hz94, h⟩ := bnd h
 refine s_callV rfl rfl rfl ?_
 refine CallsV.go Tryd.call80 rfl (C_account_book_once (b := (Book.mk z44.facts)) hI92.mlt (hf49.adv (x54.trans (x57.trans ((hI56.eraseH 0).trans (x63.trans ((Adv.of_ext e65).trans (x77.trans (x80.trans ((hI79.eraseH 0).trans ((Adv.of_ext e84).trans ((Adv.of_ext e88).trans (Adv.of_ext e91)))))))))))) (by decide) hz94) ?_
 rintro _ w95 ⟨v100, rfl, r97, r98, r99, hf101, e96⟩
 refine ⟨_, rfl, ?_⟩
 have hI102 := hI92.ext e96
 refine Reg.nil ⟨rfl, .inr ((((hI85.kp).trans e88).trans e91).trans e96), rfl, ?_⟩
 intro w103 e104
 have hI105 := hI102.ext e104
 refine SeaWalk.step [9] (by kernel_rfl) (AllL.cons ?_ (AllL.nil))
 refine ⟨_, [], rfl, RSub.nil, rfl, nodupB_spec rfl, ?_⟩
 simp only [relOut]
 refine s_nc rfl rfl (Reg.nil ⟨rfl, .inr (((((hI85.kp).trans e88).trans e91).trans e96).trans e104), rfl, ?_⟩)
 intro w106 e107
 have hI108 := hI105.ext e107
 refine SeaWalk.step [10] (by kernel_rfl) (AllL.cons ?_ (AllL.nil))
 refine ⟨_, [], rfl, RSub.nil, rfl, nodupB_spec rfl, ?_⟩
 simp only [relOut]
 refine y_st 0 hI108 rfl rfl rfl rfl Tryd.sizeOf38 rfl rfl (one1 rfl (one1 rfl (one1 rfl (one1 (RdS.oneC hf101) one0)))) ?_
 intro w109 hI110 x111
 refine Reg.nil ⟨rfl, .inl rfl, rfl, ?_⟩
 intro w112 e113
 have hI114 := hI110.ext e113
 refine SeaWalk.done ?_
 refine cw_regF ?_
 refine p_add (n := 1) rfl rfl rfl ⟨rfl, by decide⟩ ?_
 refine s_mv rfl rfl (Reg.nil (cwl_step ?_))
 refine cw_seq (cw_regF (s_lss rfl rfl rfl (Reg.nil (cw_seq (cw_condT rfl ?_)))))
 refine cw_skip (cw_seq (cw_block (cw_seq (cw_regF (p_ia (z := tab53.getD 1 []) rfl rfl (hf67.adv (x77.trans (x80.trans ((hI79.eraseH 0).trans ((Adv.of_ext e84).trans ((Adv.of_ext e88).trans ((Adv.of_ext e91).trans ((Adv.of_ext e96).trans ((Adv.of_ext e104).trans ((Adv.of_ext e107).trans (x111.trans (Adv.of_ext e113)))))))))))) rfl Tryd.underlying107 Tryd.sizeOf112 rfl ?_)))))
 intro b115 o116 cs117 hR118 hC119
 obtain ⟨rfl, _⟩ := hR118
 refine s_lda rfl hC119.cells Tryd.isAgg112 rfl Tryd.sizeOf112 rfl (y_al hI114 Tryd.zeroValue112 rfl rfl ?_)
 intro b120 w121 hI122 x123
 refine y_st 0 hI122 rfl rfl rfl rfl Tryd.sizeOf112 rfl rfl (on3 rfl rfl rfl) ?_
 intro w124 hI125 x126
 have hC128 := hI125.freezeRow 0 rfl
 have hI127 := hI125.erase 0
 refine Reg.nil ?_
 refine cw_regSea [0, 1, 3, 4, 5, 6, 7] [2, 8, 9, 10] [] [10] [[10, 0], [10, 1], [10, 3], [10, 4], [10, 5], [10, 6], [10, 7]] [] fol (by kernel_rfl) rfl (by kernel_rfl) rfl rfl ?_
 refine s_fa rfl Tryd.underlying112 rfl Tryd.sizeOf109 rfl (s_ld rfl (hC128.cells.at 1 rfl) Tryd.isAgg109 rfl (s_fa rfl Tryd.underlying112 rfl Tryd.sizeOf110 rfl (s_ld rfl (hC128.cells.at 2 rfl) Tryd.isAgg110 rfl (s_lda rfl (hC59.adv (x63.trans ((Adv.of_ext e65).trans (x77.trans (x80.trans ((hI79.eraseH 0).trans ((Adv.of_ext e84).trans ((Adv.of_ext e88).trans ((Adv.of_ext e91).trans ((Adv.of_ext e96).trans ((Adv.of_ext e104).trans ((Adv.of_ext e107).trans (x111.trans ((Adv.of_ext e113).trans (x123.trans (x126.trans (hI125.eraseH 0))))))))))))))))).cells Tryd.isAgg105 rfl Tryd.sizeOf105 rfl (s_fa rfl Tryd.underlying112 rfl Tryd.sizeOf5 rfl (s_ld rfl (hC128.cells.at 0 rfl) Tryd.isAgg5 rfl (Reg.nilX ⟨rfl, rfl, rfl, ?_⟩)))))))
 intro w129 e130
 have hI131 := (Hp.start (Mu := []) hI127.mlt).ext e130
 refine SeaWalk.step [2] (by kernel_rfl) (AllL.cons ?_ (AllL.nil))
 refine ⟨_, [], rfl, RSub.nil, rfl, nodupB_spec rfl, ?_⟩
 simp only [relOut]
 have hI132 := hI127.join hI131
 refine s_callV rfl rfl rfl ?_
 refine CallsV.go Tryd.call81 rfl (C_pf81 (o := 0) hI132.mlt) ?_
 rintro _ w133 ⟨rfl, e134⟩
 refine ⟨_, rfl, ?_⟩
 have hI135 := hI132.ext e134
 refine Reg.nil ⟨rfl, .inr ((hI131.kp).trans e134), rfl, ?_⟩
 intro w136 e137
 have hI138 := hI135.ext e137
 refine SeaWalk.step [8] (by kernel_rfl) (AllL.cons ?_ (AllL.nil))
 refine ⟨_, [], rfl, RSub.nil, rfl, nodupB_spec rfl, ?_⟩
 simp only [relOut]
 obtain ⟨z139, hz140, h⟩ := bnd h
 refine s_callV rfl rfl rfl ?_
 refine CallsV.go Tryd.call82 rfl (C_account_book_last (b := (Book.mk z44.facts)) hI138.mlt (hf49.adv (x54.trans (x57.trans ((hI56.eraseH 0).trans (x63.trans ((Adv.of_ext e65).trans (x77.trans (x80.trans ((hI79.eraseH 0).trans ((Adv.of_ext e84).trans ((Adv.of_ext e88).trans ((Adv.of_ext e91).trans ((Adv.of_ext e96).trans ((Adv.of_ext e104).trans ((Adv.of_ext e107).trans (x111.trans ((Adv.of_ext e113).trans (x123.trans (x126.trans ((hI125.eraseH 0).trans ((Adv.of_ext e130).trans ((Adv.of_ext e134).trans (Adv.of_ext e137))))))))))))))))))))))) (by decide) hz140) ?_
 rintro _ w141 ⟨v146, rfl, r143, r144, r145, hf147, e142⟩
 refine ⟨_, rfl, ?_⟩
 have hI148 := hI138.ext e142
 refine Reg.nil ⟨rfl, .inr ((((hI131.kp).trans e134).trans e137).trans e142), rfl, ?_⟩
 intro w149 e150
 have hI151 := hI148.ext e150
 refine SeaWalk.step [9] (by kernel_rfl) (AllL.cons ?_ (AllL.nil))
 refine ⟨_, [], rfl, RSub.nil, rfl, nodupB_spec rfl, ?_⟩
 simp only [relOut]
 refine s_nc rfl rfl (Reg.nil ⟨rfl, .inr (((((hI131.kp).trans e134).trans e137).trans e142).trans e150), rfl, ?_⟩)
 intro w152 e153
 have hI154 := hI151.ext e153
 refine SeaWalk.step [10] (by kernel_rfl) (AllL.cons ?_ (AllL.nil))
 refine ⟨_, [], rfl, RSub.nil, rfl, nodupB_spec rfl, ?_⟩
 simp only [relOut]
 refine y_st 0 hI154 rfl rfl rfl rfl Tryd.sizeOf38 rfl rfl (one1 rfl (one1 rfl (one1 rfl (one1 (RdS.oneC hf147) one0)))) ?_
 intro w155 hI156 x157
 refine Reg.nil ⟨rfl, .inl rfl, rfl, ?_⟩
 intro w158 e159
 have hI160 := hI156.ext e159
 refine SeaWalk.done ?_
 refine cw_regF ?_
 refine p_add (n := 2) rfl rfl rfl ⟨rfl, by decide⟩ ?_
 refine s_mv rfl rfl (Reg.nil (cwl_step ?_))
 refine cw_seq (cw_regF (s_lss rfl rfl rfl (Reg.nil (cw_seq (cw_condT rfl ?_)))))
 refine cw_skip (cw_seq (cw_block (cw_seq (cw_regF (p_ia (z := tab53.getD 2 []) rfl rfl (hf67.adv (x77.trans (x80.trans ((hI79.eraseH 0).trans ((Adv.of_ext e84).trans ((Adv.of_ext e88).trans ((Adv.of_ext e91).trans ((Adv.of_ext e96).trans ((Adv.of_ext e104).trans ((Adv.of_ext e107).trans (x111.trans ((Adv.of_ext e113).trans (x123.trans (x126.trans ((hI125.eraseH 0).trans ((Adv.of_ext e130).trans ((Adv.of_ext e134).trans ((Adv.of_ext e137).trans ((Adv.of_ext e142).trans ((Adv.of_ext e150).trans ((Adv.of_ext e153).trans (x157.trans (Adv.of_ext e159))))))))))))))))))))))) rfl Tryd.underlying107 Tryd.sizeOf112 rfl ?_)))))
 intro b161 o162 cs163 hR164 hC165
 obtain ⟨rfl, _⟩ := hR164
 refine s_lda rfl hC165.cells Tryd.isAgg112 rfl Tryd.sizeOf112 rfl (y_al hI160 Tryd.zeroValue112 rfl rfl ?_)
 intro b166 w167 hI168 x169
 refine y_st 0 hI168 rfl rfl rfl rfl Tryd.sizeOf112 rfl rfl (on3 rfl rfl rfl) ?_
 intro w170 hI171 x172
 have hC174 := hI171.freezeRow 0 rfl
 have hI173 := hI171.erase 0
 refine Reg.nil ?_
 refine cw_regSea [0, 1, 3, 4, 5, 6, 7] [2, 8, 9, 10] [] [10] [[10, 0], [10, 1], [10, 3], [10, 4], [10, 5], [10, 6], [10, 7]] [] fol (by kernel_rfl) rfl (by kernel_rfl) rfl rfl ?_
 refine s_fa rfl Tryd.underlying112 rfl Tryd.sizeOf109 rfl (s_ld rfl (hC174.cells.at 1 rfl) Tryd.isAgg109 rfl (s_fa rfl Tryd.underlying112 rfl Tryd.sizeOf110 rfl (s_ld rfl (hC174.cells.at 2 rfl) Tryd.isAgg110 rfl (s_lda rfl (hC59.adv (x63.trans ((Adv.of_ext e65).trans (x77.trans (x80.trans ((hI79.eraseH 0).trans ((Adv.of_ext e84).trans ((Adv.of_ext e88).trans ((Adv.of_ext e91).trans ((Adv.of_ext e96).trans ((Adv.of_ext e104).trans ((Adv.of_ext e107).trans (x111.trans ((Adv.of_ext e113).trans (x123.trans (x126.trans ((hI125.eraseH 0).trans ((Adv.of_ext e130).trans ((Adv.of_ext e134).trans ((Adv.of_ext e137).trans ((Adv.of_ext e142).trans ((Adv.of_ext e150).trans ((Adv.of_ext e153).trans (x157.trans ((Adv.of_ext e159).trans (x169.trans (x172.trans (hI171.eraseH 0)))))))))))))))))))))))))))).cells Tryd.isAgg105 rfl Tryd.sizeOf105 rfl (s_fa rfl Tryd.underlying112 rfl Tryd.sizeOf5 rfl (s_ld rfl (hC174.cells.at 0 rfl) Tryd.isAgg5 rfl (Reg.nilX ⟨rfl, rfl, rfl, ?_⟩)))))))
 intro w175 e176
 have hI177 := (Hp.start (Mu := []) hI173.mlt).ext e176
 refine SeaWalk.step [2] (by kernel_rfl) (AllL.cons ?_ (AllL.nil))
 refine ⟨_, [], rfl, RSub.nil, rfl, nodupB_spec rfl, ?_⟩
 simp only [relOut]
 have hI178 := hI173.join hI177
 refine s_callV rfl rfl rfl ?_
 refine CallsV.go Tryd.call83 rfl (C_pf83 (o := 0) hI178.mlt) ?_
 rintro _ w179 ⟨rfl, e180⟩
 refine ⟨_, rfl, ?_⟩
 have hI181 := hI178.ext e180
 refine Reg.nil ⟨rfl, .inr ((hI177.kp).trans e180), rfl, ?_⟩
 intro w182 e183
 have hI184 := hI181.ext e183
 refine SeaWalk.step [8] (by kernel_rfl) (AllL.cons ?_ (AllL.nil))
 refine ⟨_, [], rfl, RSub.nil, rfl, nodupB_spec rfl, ?_⟩
 simp only [relOut]
 obtain ⟨z185, hz186, h⟩ := bnd h
 refine s_callV rfl rfl rfl ?_
 refine CallsV.go Tryd.call82 rfl (C_account_book_last (b := (Book.mk z44.facts)) hI184.mlt (hf49.adv (x54.trans (x57.trans ((hI56.eraseH 0).trans (x63.trans ((Adv.of_ext e65).trans (x77.trans (x80.trans ((hI79.eraseH 0).trans ((Adv.of_ext e84).trans ((Adv.of_ext e88).trans ((Adv.of_ext e91).trans ((Adv.of_ext e96).trans ((Adv.of_ext e104).trans ((Adv.of_ext e107).trans (x111.trans ((Adv.of_ext e113).trans (x123.trans (x126.trans ((hI125.eraseH 0).trans ((Adv.of_ext e130).trans ((Adv.of_ext e134).trans ((Adv.of_ext e137).trans ((Adv.of_ext e142).trans ((Adv.of_ext e150).trans ((Adv.of_ext e153).trans (x157.trans ((Adv.of_ext e159).trans (x169.trans (x172.trans ((hI171.eraseH 0).trans ((Adv.of_ext e176).trans ((Adv.of_ext e180).trans (Adv.of_ext e183)))))))))))))))))))))))))))))))))) (by decide) hz186) ?_
 rintro _ w187 ⟨v192, rfl, r189, r190, r191, hf193, e188⟩
 refine ⟨_, rfl, ?_⟩
 have hI194 := hI184.ext e188
 refine Reg.nil ⟨rfl, .inr ((((hI177.kp).trans e180).trans e183).trans e188), rfl, ?_⟩
 intro w195 e196
 have hI197 := hI194.ext e196
 refine SeaWalk.step [9] (by kernel_rfl) (AllL.cons ?_ (AllL.nil))
 refine ⟨_, [], rfl, RSub.nil, rfl, nodupB_spec rfl, ?_⟩
 simp only [relOut]
 refine s_nc rfl rfl (Reg.nil ⟨rfl, .inr (((((hI177.kp).trans e180).trans e183).trans e188).trans e196), rfl, ?_⟩)
 intro w198 e199
 have hI200 := hI197.ext e199
 refine SeaWalk.step [10] (by kernel_rfl) (AllL.cons ?_ (AllL.nil))
 refine ⟨_, [], rfl, RSub.nil, rfl, nodupB_spec rfl, ?_⟩
 simp only [relOut]
 refine y_st 0 hI200 rfl rfl rfl rfl Tryd.sizeOf38 rfl rfl (one1 rfl (one1 rfl (one1 rfl (one1 (RdS.oneC hf193) one0)))) ?_
 intro w201 hI202 x203
 refine Reg.nil ⟨rfl, .inl rfl, rfl, ?_⟩
 intro w204 e205
 have hI206 := hI202.ext e205
 refine SeaWalk.done ?_
 refine cw_regF ?_
 refine p_add (n := 3) rfl rfl rfl ⟨rfl, by decide⟩ ?_
 refine s_mv rfl rfl (Reg.nil (cwl_step ?_))
 refine cw_seq (cw_regF (s_lss rfl rfl rfl (Reg.nil (cw_seq (cw_condT rfl ?_)))))
 refine cw_skip (cw_seq (cw_block (cw_seq (cw_regF (p_ia (z := tab53.getD 3 []) rfl rfl (hf67.adv (x77.trans (x80.trans ((hI79.eraseH 0).trans ((Adv.of_ext e84).trans ((Adv.of_ext e88).trans ((Adv.of_ext e91).trans ((Adv.of_ext e96).trans ((Adv.of_ext e104).trans ((Adv.of_ext e107).trans (x111.trans ((Adv.of_ext e113).trans (x123.trans (x126.trans ((hI125.eraseH 0).trans ((Adv.of_ext e130).trans ((Adv.of_ext e134).trans ((Adv.of_ext e137).trans ((Adv.of_ext e142).trans ((Adv.of_ext e150).trans ((Adv.of_ext e153).trans (x157.trans ((Adv.of_ext e159).trans (x169.trans (x172.trans ((hI171.eraseH 0).trans ((Adv.of_ext e176).trans ((Adv.of_ext e180).trans ((Adv.of_ext e183).trans ((Adv.of_ext e188).trans ((Adv.of_ext e196).trans ((Adv.of_ext e199).trans (x203.trans (Adv.of_ext e205)))))))))))))))))))))))))))))))))) rfl Tryd.underlying107 Tryd.sizeOf112 rfl ?_)))))
 intro b207 o208 cs209 hR210 hC211
 obtain ⟨rfl, _⟩ := hR210
 refine s_lda rfl hC211.cells Tryd.isAgg112 rfl Tryd.sizeOf112 rfl (y_al hI206 Tryd.zeroValue112 rfl rfl ?_)
 intro b212 w213 hI214 x215
 refine y_st 0 hI214 rfl rfl rfl rfl Tryd.sizeOf112 rfl rfl (on3 rfl rfl rfl) ?_
 intro w216 hI217 x218
 have hC220 := hI217.freezeRow 0 rfl
 have hI219 := hI217.erase 0
 refine Reg.nil ?_
 refine cw_regSea [0, 1, 3, 4, 5, 6, 7] [2, 8, 9, 10] [] [10] [[10, 0], [10, 1], [10, 3], [10, 4], [10, 5], [10, 6], [10, 7]] [] fol (by kernel_rfl) rfl (by kernel_rfl) rfl rfl ?_
 refine s_fa rfl Tryd.underlying112 rfl Tryd.sizeOf109 rfl (s_ld rfl (hC220.cells.at 1 rfl) Tryd.isAgg109 rfl (s_fa rfl Tryd.underlying112 rfl Tryd.sizeOf110 rfl (s_ld rfl (hC220.cells.at 2 rfl) Tryd.isAgg110 rfl (s_lda rfl (hC59.adv (x63.trans ((Adv.of_ext e65).trans (x77.trans (x80.trans ((hI79.eraseH 0).trans ((Adv.of_ext e84).trans ((Adv.of_ext e88).trans ((Adv.of_ext e91).trans ((Adv.of_ext e96).trans ((Adv.of_ext e104).trans ((Adv.of_ext e107).trans (x111.trans ((Adv.of_ext e113).trans (x123.trans (x126.trans ((hI125.eraseH 0).trans ((Adv.of_ext e130).trans ((Adv.of_ext e134).trans ((Adv.of_ext e137).trans ((Adv.of_ext e142).trans ((Adv.of_ext e150).trans ((Adv.of_ext e153).trans (x157.trans ((Adv.of_ext e159).trans (x169.trans (x172.trans ((hI171.eraseH 0).trans ((Adv.of_ext e176).trans ((Adv.of_ext e180).trans ((Adv.of_ext e183).trans ((Adv.of_ext e188).trans ((Adv.of_ext e196).trans ((Adv.of_ext e199).trans (x203.trans ((Adv.of_ext e205).trans (x215.trans (x218.trans (hI217.eraseH 0))))))))))))))))))))))))))))))))))))))).cells Tryd.isAgg105 rfl Tryd.sizeOf105 rfl (s_fa rfl Tryd.underlying112 rfl Tryd.sizeOf5 rfl (s_ld rfl (hC220.cells.at 0 rfl) Tryd.isAgg5 rfl (Reg.nilX ⟨rfl, rfl, rfl, ?_⟩)))))))
 intro w221 e222
 have hI223 := (Hp.start (Mu := []) hI219.mlt).ext e222
 refine SeaWalk.step [2] (by kernel_rfl) (AllL.cons ?_ (AllL.nil))
 refine ⟨_, [], rfl, RSub.nil, rfl, nodupB_spec rfl, ?_⟩
 simp only [relOut]
 have hI224 := hI219.join hI223
 refine s_callV rfl rfl rfl ?_
 refine CallsV.go Tryd.call84 rfl (C_pf84 (o := 0) hI224.mlt) ?_
 rintro _ w225 ⟨rfl, e226⟩
 refine ⟨_, rfl, ?_⟩
 have hI227 := hI224.ext e226
 refine Reg.nil ⟨rfl, .inr ((hI223.kp).trans e226), rfl, ?_⟩
 intro w228 e229
 have hI230 := hI227.ext e229
 refine SeaWalk.step [8] (by kernel_rfl) (AllL.cons ?_ (AllL.nil))
 refine ⟨_, [], rfl, RSub.nil, rfl, nodupB_spec rfl, ?_⟩
 simp only [relOut]
 obtain ⟨z231, hz232, h⟩ := bnd h
 refine s_callV rfl rfl rfl ?_
 refine CallsV.go Tryd.call82 rfl (C_account_book_last (b := (Book.mk z44.facts)) hI230.mlt (hf49.adv (x54.trans (x57.trans ((hI56.eraseH 0).trans (x63.trans ((Adv.of_ext e65).trans (x77.trans (x80.trans ((hI79.eraseH 0).trans ((Adv.of_ext e84).trans ((Adv.of_ext e88).trans ((Adv.of_ext e91).trans ((Adv.of_ext e96).trans ((Adv.of_ext e104).trans ((Adv.of_ext e107).trans (x111.trans ((Adv.of_ext e113).trans (x123.trans (x126.trans ((hI125.eraseH 0).trans ((Adv.of_ext e130).trans ((Adv.of_ext e134).trans ((Adv.of_ext e137).trans ((Adv.of_ext e142).trans ((Adv.of_ext e150).trans ((Adv.of_ext e153).trans (x157.trans ((Adv.of_ext e159).trans (x169.trans (x172.trans ((hI171.eraseH 0).trans ((Adv.of_ext e176).trans ((Adv.of_ext e180).trans ((Adv.of_ext e183).trans ((Adv.of_ext e188).trans ((Adv.of_ext e196).trans ((Adv.of_ext e199).trans (x203.trans ((Adv.of_ext e205).trans (x215.trans (x218.trans ((hI217.eraseH 0).trans ((Adv.of_ext e222).trans ((Adv.of_ext e226).trans (Adv.of_ext e229))))))))))))))))))))))))))))))))))))))))))))) (by decide) hz232) ?_
 rintro _ w233 ⟨v238, rfl, r235, r236, r237, hf239, e234⟩
 refine ⟨_, rfl, ?_⟩
 have hI240 := hI230.ext e234
 refine Reg.nil ⟨rfl, .inr ((((hI223.kp).trans e226).trans e229).trans e234), rfl, ?_⟩
 intro w241 e242
 have hI243 := hI240.ext e242
 refine SeaWalk.step [9] (by kernel_rfl) (AllL.cons ?_ (AllL.nil))
 refine ⟨_, [], rfl, RSub.nil, rfl, nodupB_spec rfl, ?_⟩
 simp only [relOut]
 refine s_nc rfl rfl (Reg.nil ⟨rfl, .inr (((((hI223.kp).trans e226).trans e229).trans e234).trans e242), rfl, ?_⟩)
 intro w244 e245
 have hI246 := hI243.ext e245
 refine SeaWalk.step [10] (by kernel_rfl) (AllL.cons ?_ (AllL.nil))
 refine ⟨_, [], rfl, RSub.nil, rfl, nodupB_spec rfl, ?_⟩
 simp only [relOut]
 refine y_st 0 hI246 rfl rfl rfl rfl Tryd.sizeOf38 rfl rfl (one1 rfl (one1 rfl (one1 rfl (one1 (RdS.oneC hf239) one0)))) ?_
 intro w247 hI248 x249
 refine Reg.nil ⟨rfl, .inl rfl, rfl, ?_⟩
 intro w250 e251
 have hI252 := hI248.ext e251
 refine SeaWalk.done ?_
 refine cw_regF ?_
 refine p_add (n := 4) rfl rfl rfl ⟨rfl, by decide⟩ ?_
 refine s_mv rfl rfl (Reg.nil (cwl_step ?_))
 refine cw_seq (cw_regF (s_lss rfl rfl rfl (Reg.nil (cw_seq (cw_condT rfl ?_)))))
 refine cw_skip (cw_seq (cw_block (cw_seq (cw_regF (p_ia (z := tab53.getD 4 []) rfl rfl (hf67.adv (x77.trans (x80.trans ((hI79.eraseH 0).trans ((Adv.of_ext e84).trans ((Adv.of_ext e88).trans ((Adv.of_ext e91).trans ((Adv.of_ext e96).trans ((Adv.of_ext e104).trans ((Adv.of_ext e107).trans (x111.trans ((Adv.of_ext e113).trans (x123.trans (x126.trans ((hI125.eraseH 0).trans ((Adv.of_ext e130).trans ((Adv.of_ext e134).trans ((Adv.of_ext e137).trans ((Adv.of_ext e142).trans ((Adv.of_ext e150).trans ((Adv.of_ext e153).trans (x157.trans ((Adv.of_ext e159).trans (x169.trans (x172.trans ((hI171.eraseH 0).trans ((Adv.of_ext e176).trans ((Adv.of_ext e180).trans ((Adv.of_ext e183).trans ((Adv.of_ext e188).trans ((Adv.of_ext e196).trans ((Adv.of_ext e199).trans (x203.trans ((Adv.of_ext e205).trans (x215.trans (x218.trans ((hI217.eraseH 0).trans ((Adv.of_ext e222).trans ((Adv.of_ext e226).trans ((Adv.of_ext e229).trans ((Adv.of_ext e234).trans ((Adv.of_ext e242).trans ((Adv.of_ext e245).trans (x249.trans (Adv.of_ext e251))))))))))))))))))))))))))))))))))))))))))))) rfl Tryd.underlying107 Tryd.sizeOf112 rfl ?_)))))
 intro b253 o254 cs255 hR256 hC257
 obtain ⟨rfl, _⟩ := hR256
 refine s_lda rfl hC257.cells Tryd.isAgg112 rfl Tryd.sizeOf112 rfl (y_al hI252 Tryd.zeroValue112 rfl rfl ?_)
 intro b258 w259 hI260 x261
 refine y_st 0 hI260 rfl rfl rfl rfl Tryd.sizeOf112 rfl rfl (on3 rfl rfl rfl) ?_
 intro w262 hI263 x264
 have hC266 := hI263.freezeRow 0 rfl
 have hI265 := hI263.erase 0
 refine Reg.nil ?_
 refine cw_regSea [0, 1, 3, 4, 5, 6, 7] [2, 8, 9, 10] [] [10] [[10, 0], [10, 1], [10, 3], [10, 4], [10, 5], [10, 6], [10, 7]] [] fol (by kernel_rfl) rfl (by kernel_rfl) rfl rfl ?_
 refine s_fa rfl Tryd.underlying112 rfl Tryd.sizeOf109 rfl (s_ld rfl (hC266.cells.at 1 rfl) Tryd.isAgg109 rfl (s_fa rfl Tryd.underlying112 rfl Tryd.sizeOf110 rfl (s_ld rfl (hC266.cells.at 2 rfl) Tryd.isAgg110 rfl (s_lda rfl (hC59.adv (x63.trans ((Adv.of_ext e65).trans (x77.trans (x80.trans ((hI79.eraseH 0).trans ((Adv.of_ext e84).trans ((Adv.of_ext e88).trans ((Adv.of_ext e91).trans ((Adv.of_ext e96).trans ((Adv.of_ext e104).trans ((Adv.of_ext e107).trans (x111.trans ((Adv.of_ext e113).trans (x123.trans (x126.trans ((hI125.eraseH 0).trans ((Adv.of_ext e130).trans ((Adv.of_ext e134).trans ((Adv.of_ext e137).trans ((Adv.of_ext e142).trans ((Adv.of_ext e150).trans ((Adv.of_ext e153).trans (x157.trans ((Adv.of_ext e159).trans (x169.trans (x172.trans ((hI171.eraseH 0).trans ((Adv.of_ext e176).trans ((Adv.of_ext e180).trans ((Adv.of_ext e183).trans ((Adv.of_ext e188).trans ((Adv.of_ext e196).trans ((Adv.of_ext e199).trans (x203.trans ((Adv.of_ext e205).trans (x215.trans (x218.trans ((hI217.eraseH 0).trans ((Adv.of_ext e222).trans ((Adv.of_ext e226).trans ((Adv.of_ext e229).trans ((Adv.of_ext e234).trans ((Adv.of_ext e242).trans ((Adv.of_ext e245).trans (x249.trans ((Adv.of_ext e251).trans (x261.trans (x264.trans (hI263.eraseH 0)))))))))))))))))))))))))))))))))))))))))))))))))).cells Tryd.isAgg105 rfl Tryd.sizeOf105 rfl (s_fa rfl Tryd.underlying112 rfl Tryd.sizeOf5 rfl (s_ld rfl (hC266.cells.at 0 rfl) Tryd.isAgg5 rfl (Reg.nilX ⟨rfl, rfl, rfl, ?_⟩)))))))
 intro w267 e268
 have hI269 := (Hp.start (Mu := []) hI265.mlt).ext e268
 refine SeaWalk.step [2] (by kernel_rfl) (AllL.cons ?_ (AllL.nil))
 refine ⟨_, [], rfl, RSub.nil, rfl, nodupB_spec rfl, ?_⟩
 simp only [relOut]
 have hI270 := hI265.join hI269
 refine s_callV rfl rfl rfl ?_
 refine CallsV.go Tryd.call85 rfl (C_pf85 (o := 0) hI270.mlt) ?_
 rintro _ w271 ⟨rfl, e272⟩
 refine ⟨_, rfl, ?_⟩
 have hI273 := hI270.ext e272
 refine Reg.nil ⟨rfl, .inr ((hI269.kp).trans e272), rfl, ?_⟩
 intro w274 e275
 have hI276 := hI273.ext e275
 refine SeaWalk.step [8] (by kernel_rfl) (AllL.cons ?_ (AllL.nil))
 refine ⟨_, [], rfl, RSub.nil, rfl, nodupB_spec rfl, ?_⟩
 simp only [relOut]
 obtain ⟨z277, hz278, h⟩ := bnd h
 refine s_callV rfl rfl rfl ?_
 refine CallsV.go Tryd.call80 rfl (C_account_book_once (b := (Book.mk z44.facts)) hI276.mlt (hf49.adv (x54.trans (x57.trans ((hI56.eraseH 0).trans (x63.trans ((Adv.of_ext e65).trans (x77.trans (x80.trans ((hI79.eraseH 0).trans ((Adv.of_ext e84).trans ((Adv.of_ext e88).trans ((Adv.of_ext e91).trans ((Adv.of_ext e96).trans ((Adv.of_ext e104).trans ((Adv.of_ext e107).trans (x111.trans ((Adv.of_ext e113).trans (x123.trans (x126.trans ((hI125.eraseH 0).trans ((Adv.of_ext e130).trans ((Adv.of_ext e134).trans ((Adv.of_ext e137).trans ((Adv.of_ext e142).trans ((Adv.of_ext e150).trans ((Adv.of_ext e153).trans (x157.trans ((Adv.of_ext e159).trans (x169.trans (x172.trans ((hI171.eraseH 0).trans ((Adv.of_ext e176).trans ((Adv.of_ext e180).trans ((Adv.of_ext e183).trans ((Adv.of_ext e188).trans ((Adv.of_ext e196).trans ((Adv.of_ext e199).trans (x203.trans ((Adv.of_ext e205).trans (x215.trans (x218.trans ((hI217.eraseH 0).trans ((Adv.of_ext e222).trans ((Adv.of_ext e226).trans ((Adv.of_ext e229).trans ((Adv.of_ext e234).trans ((Adv.of_ext e242).trans ((Adv.of_ext e245).trans (x249.trans ((Adv.of_ext e251).trans (x261.trans (x264.trans ((hI263.eraseH 0).trans ((Adv.of_ext e268).trans ((Adv.of_ext e272).trans (Adv.of_ext e275)))))))))))))))))))))))))))))))))))))))))))))))))))))))) (by decide) hz278) ?_
 rintro _ w279 ⟨v284, rfl, r281, r282, r283, hf285, e280⟩
 refine ⟨_, rfl, ?_⟩
 have hI286 := hI276.ext e280
 refine Reg.nil ⟨rfl, .inr ((((hI269.kp).trans e272).trans e275).trans e280), rfl, ?_⟩
 intro w287 e288
 have hI289 := hI286.ext e288
 refine SeaWalk.step [9] (by kernel_rfl) (AllL.cons ?_ (AllL.nil))
 refine ⟨_, [], rfl, RSub.nil, rfl, nodupB_spec rfl, ?_⟩
 simp only [relOut]
 refine s_nc rfl rfl (Reg.nil ⟨rfl, .inr (((((hI269.kp).trans e272).trans e275).trans e280).trans e288), rfl, ?_⟩)
 intro w290 e291
 have hI292 := hI289.ext e291
 refine SeaWalk.step [10] (by kernel_rfl) (AllL.cons ?_ (AllL.nil))
 refine ⟨_, [], rfl, RSub.nil, rfl, nodupB_spec rfl, ?_⟩
 simp only [relOut]
 refine y_st 0 hI292 rfl rfl rfl rfl Tryd.sizeOf38 rfl rfl (one1 rfl (one1 rfl (one1 rfl (one1 (RdS.oneC hf285) one0)))) ?_
 intro w293 hI294 x295
 refine Reg.nil ⟨rfl, .inl rfl, rfl, ?_⟩
 intro w296 e297
 have hI298 := hI294.ext e297
 refine SeaWalk.done ?_
 refine cw_regF ?_
 refine p_add (n := 5) rfl rfl rfl ⟨rfl, by decide⟩ ?_
 refine s_mv rfl rfl (Reg.nil (cwl_step ?_))
 refine cw_seq (cw_regF (s_lss rfl rfl rfl (Reg.nil (cw_seq (cw_condT rfl ?_)))))
 refine cw_skip (cw_seq (cw_block (cw_seq (cw_regF (p_ia (z := tab53.getD 5 []) rfl rfl (hf67.adv (x77.trans (x80.trans ((hI79.eraseH 0).trans ((Adv.of_ext e84).trans ((Adv.of_ext e88).trans ((Adv.of_ext e91).trans ((Adv.of_ext e96).trans ((Adv.of_ext e104).trans ((Adv.of_ext e107).trans (x111.trans ((Adv.of_ext e113).trans (x123.trans (x126.trans ((hI125.eraseH 0).trans ((Adv.of_ext e130).trans ((Adv.of_ext e134).trans ((Adv.of_ext e137).trans ((Adv.of_ext e142).trans ((Adv.of_ext e150).trans ((Adv.of_ext e153).trans (x157.trans ((Adv.of_ext e159).trans (x169.trans (x172.trans ((hI171.eraseH 0).trans ((Adv.of_ext e176).trans ((Adv.of_ext e180).trans ((Adv.of_ext e183).trans ((Adv.of_ext e188).trans ((Adv.of_ext e196).trans ((Adv.of_ext e199).trans (x203.trans ((Adv.of_ext e205).trans (x215.trans (x218.trans ((hI217.eraseH 0).trans ((Adv.of_ext e222).trans ((Adv.of_ext e226).trans ((Adv.of_ext e229).trans ((Adv.of_ext e234).trans ((Adv.of_ext e242).trans ((Adv.of_ext e245).trans (x249.trans ((Adv.of_ext e251).trans (x261.trans (x264.trans ((hI263.eraseH 0).trans ((Adv.of_ext e268).trans ((Adv.of_ext e272).trans ((Adv.of_ext e275).trans ((Adv.of_ext e280).trans ((Adv.of_ext e288).trans ((Adv.of_ext e291).trans (x295.trans (Adv.of_ext e297)))))))))))))))))))))))))))))))))))))))))))))))))))))))) rfl Tryd.underlying107 Tryd.sizeOf112 rfl ?_)))))
 intro b299 o300 cs301 hR302 hC303
 obtain ⟨rfl, _⟩ := hR302
 refine s_lda rfl hC303.cells Tryd.isAgg112 rfl Tryd.sizeOf112 rfl (y_al hI298 Tryd.zeroValue112 rfl rfl ?_)
 intro b304 w305 hI306 x307
 refine y_st 0 hI306 rfl rfl rfl rfl Tryd.sizeOf112 rfl rfl (on3 rfl rfl rfl) ?_
 intro w308 hI309 x310
 have hC312 := hI309.freezeRow 0 rfl
 have hI311 := hI309.erase 0
 refine Reg.nil ?_
 refine cw_regSea [0, 1, 3, 4, 5, 6, 7] [2, 8, 9, 10] [] [10] [[10, 0], [10, 1], [10, 3], [10, 4], [10, 5], [10, 6], [10, 7]] [] fol (by kernel_rfl) rfl (by kernel_rfl) rfl rfl ?_
 refine s_fa rfl Tryd.underlying112 rfl Tryd.sizeOf109 rfl (s_ld rfl (hC312.cells.at 1 rfl) Tryd.isAgg109 rfl (s_fa rfl Tryd.underlying112 rfl Tryd.sizeOf110 rfl (s_ld rfl (hC312.cells.at 2 rfl) Tryd.isAgg110 rfl (s_lda rfl (hC59.adv (x63.trans ((Adv.of_ext e65).trans (x77.trans (x80.trans ((hI79.eraseH 0).trans ((Adv.of_ext e84).trans ((Adv.of_ext e88).trans ((Adv.of_ext e91).trans ((Adv.of_ext e96).trans ((Adv.of_ext e104).trans ((Adv.of_ext e107).trans (x111.trans ((Adv.of_ext e113).trans (x123.trans (x126.trans ((hI125.eraseH 0).trans ((Adv.of_ext e130).trans ((Adv.of_ext e134).trans ((Adv.of_ext e137).trans ((Adv.of_ext e142).trans ((Adv.of_ext e150).trans ((Adv.of_ext e153).trans (x157.trans ((Adv.of_ext e159).trans (x169.trans (x172.trans ((hI171.eraseH 0).trans ((Adv.of_ext e176).trans ((Adv.of_ext e180).trans ((Adv.of_ext e183).trans ((Adv.of_ext e188).trans ((Adv.of_ext e196).trans ((Adv.of_ext e199).trans (x203.trans ((Adv.of_ext e205).trans (x215.trans (x218.trans ((hI217.eraseH 0).trans ((Adv.of_ext e222).trans ((Adv.of_ext e226).trans ((Adv.of_ext e229).trans ((Adv.of_ext e234).trans ((Adv.of_ext e242).trans ((Adv.of_ext e245).trans (x249.trans ((Adv.of_ext e251).trans (x261.trans (x264.trans ((hI263.eraseH 0).trans ((Adv.of_ext e268).trans ((Adv.of_ext e272).trans ((Adv.of_ext e275).trans ((Adv.of_ext e280).trans ((Adv.of_ext e288).trans ((Adv.of_ext e291).trans (x295.trans ((Adv.of_ext e297).trans (x307.trans (x310.trans (hI309.eraseH 0))))))))))))))))))))))))))))))))))))))))))))))))))))))))))))).cells Tryd.isAgg105 rfl Tryd.sizeOf105 rfl (s_fa rfl Tryd.underlying112 rfl Tryd.sizeOf5 rfl (s_ld rfl (hC312.cells.at 0 rfl) Tryd.isAgg5 rfl (Reg.nilX ⟨rfl, rfl, rfl, ?_⟩)))))))
 intro w313 e314
 have hI315 := (Hp.start (Mu := []) hI311.mlt).ext e314
 refine SeaWalk.step [2] (by kernel_rfl) (AllL.cons ?_ (AllL.nil))
 refine ⟨_, [], rfl, RSub.nil, rfl, nodupB_spec rfl, ?_⟩
 simp only [relOut]
 have hI316 := hI311.join hI315
 refine s_callV rfl rfl rfl ?_
 refine CallsV.go Tryd.call86 rfl (C_pf86 (o := 0) hI316.mlt) ?_
 rintro _ w317 ⟨rfl, e318⟩
 refine ⟨_, rfl, ?_⟩
 have hI319 := hI316.ext e318
 refine Reg.nil ⟨rfl, .inr ((hI315.kp).trans e318), rfl, ?_⟩
 intro w320 e321
 have hI322 := hI319.ext e321
 refine SeaWalk.step [8] (by kernel_rfl) (AllL.cons ?_ (AllL.nil))
 refine ⟨_, [], rfl, RSub.nil, rfl, nodupB_spec rfl, ?_⟩
 simp only [relOut]
 obtain ⟨z323, hz324, h⟩ := bnd h
 refine s_callV rfl rfl rfl ?_
 refine CallsV.go Tryd.call80 rfl (C_account_book_once (b := (Book.mk z44.facts)) hI322.mlt (hf49.adv (x54.trans (x57.trans ((hI56.eraseH 0).trans (x63.trans ((Adv.of_ext e65).trans (x77.trans (x80.trans ((hI79.eraseH 0).trans ((Adv.of_ext e84).trans ((Adv.of_ext e88).trans ((Adv.of_ext e91).trans ((Adv.of_ext e96).trans ((Adv.of_ext e104).trans ((Adv.of_ext e107).trans (x111.trans ((Adv.of_ext e113).trans (x123.trans (x126.trans ((hI125.eraseH 0).trans ((Adv.of_ext e130).trans ((Adv.of_ext e134).trans ((Adv.of_ext e137).trans ((Adv.of_ext e142).trans ((Adv.of_ext e150).trans ((Adv.of_ext e153).trans (x157.trans ((Adv.of_ext e159).trans (x169.trans (x172.trans ((hI171.eraseH 0).trans ((Adv.of_ext e176).trans ((Adv.of_ext e180).trans ((Adv.of_ext e183).trans ((Adv.of_ext e188).trans ((Adv.of_ext e196).trans ((Adv.of_ext e199).trans (x203.trans ((Adv.of_ext e205).trans (x215.trans (x218.trans ((hI217.eraseH 0).trans ((Adv.of_ext e222).trans ((Adv.of_ext e226).trans ((Adv.of_ext e229).trans ((Adv.of_ext e234).trans ((Adv.of_ext e242).trans ((Adv.of_ext e245).trans (x249.trans ((Adv.of_ext e251).trans (x261.trans (x264.trans ((hI263.eraseH 0).trans ((Adv.of_ext e268).trans ((Adv.of_ext e272).trans ((Adv.of_ext e275).trans ((Adv.of_ext e280).trans ((Adv.of_ext e288).trans ((Adv.of_ext e291).trans (x295.trans ((Adv.of_ext e297).trans (x307.trans (x310.trans ((hI309.eraseH 0).trans ((Adv.of_ext e314).trans ((Adv.of_ext e318).trans (Adv.of_ext e321))))))))))))))))))))))))))))))))))))))))))))))))))))))))))))))))))) (by decide) hz324) ?_
 rintro _ w325 ⟨v330, rfl, r327, r328, r329, hf331, e326⟩
 refine ⟨_, rfl, ?_⟩
 have hI332 := hI322.ext e326
 refine Reg.nil ⟨rfl, .inr ((((hI315.kp).trans e318).trans e321).trans e326), rfl, ?_⟩
 intro w333 e334
 have hI335 := hI332.ext e334
 refine SeaWalk.step [9] (by kernel_rfl) (AllL.cons ?_ (AllL.nil))
 refine ⟨_, [], rfl, RSub.nil, rfl, nodupB_spec rfl, ?_⟩
 simp only [relOut]
 refine s_nc rfl rfl (Reg.nil ⟨rfl, .inr (((((hI315.kp).trans e318).trans e321).trans e326).trans e334), rfl, ?_⟩)
 intro w336 e337
 have hI338 := hI335.ext e337
 refine SeaWalk.step [10] (by kernel_rfl) (AllL.cons ?_ (AllL.nil))
 refine ⟨_, [], rfl, RSub.nil, rfl, nodupB_spec rfl, ?_⟩
 simp only [relOut]
 refine y_st 0 hI338 rfl rfl rfl rfl Tryd.sizeOf38 rfl rfl (one1 rfl (one1 rfl (one1 rfl (one1 (RdS.oneC hf331) one0)))) ?_
 intro w339 hI340 x341
 refine Reg.nil ⟨rfl, .inl rfl, rfl, ?_⟩
 intro w342 e343
 have hI344 := hI340.ext e343
 refine SeaWalk.done ?_
 refine cw_regF ?_
 refine p_add (n := 6) rfl rfl rfl ⟨rfl, by decide⟩ ?_
 refine s_mv rfl rfl (Reg.nil (cwl_step ?_))
 refine cw_seq (cw_regF (s_lss rfl rfl rfl (Reg.nil (cw_seq (cw_condF rfl ?_)))))
 refine cw_exit (exB_same ?_)
 refine cw_seq (cw_seq (cw_regF (s_lda rfl (hC59.adv (x63.trans ((Adv.of_ext e65).trans (x77.trans (x80.trans ((hI79.eraseH 0).trans ((Adv.of_ext e84).trans ((Adv.of_ext e88).trans ((Adv.of_ext e91).trans ((Adv.of_ext e96).trans ((Adv.of_ext e104).trans ((Adv.of_ext e107).trans (x111.trans ((Adv.of_ext e113).trans (x123.trans (x126.trans ((hI125.eraseH 0).trans ((Adv.of_ext e130).trans ((Adv.of_ext e134).trans ((Adv.of_ext e137).trans ((Adv.of_ext e142).trans ((Adv.of_ext e150).trans ((Adv.of_ext e153).trans (x157.trans ((Adv.of_ext e159).trans (x169.trans (x172.trans ((hI171.eraseH 0).trans ((Adv.of_ext e176).trans ((Adv.of_ext e180).trans ((Adv.of_ext e183).trans ((Adv.of_ext e188).trans ((Adv.of_ext e196).trans ((Adv.of_ext e199).trans (x203.trans ((Adv.of_ext e205).trans (x215.trans (x218.trans ((hI217.eraseH 0).trans ((Adv.of_ext e222).trans ((Adv.of_ext e226).trans ((Adv.of_ext e229).trans ((Adv.of_ext e234).trans ((Adv.of_ext e242).trans ((Adv.of_ext e245).trans (x249.trans ((Adv.of_ext e251).trans (x261.trans (x264.trans ((hI263.eraseH 0).trans ((Adv.of_ext e268).trans ((Adv.of_ext e272).trans ((Adv.of_ext e275).trans ((Adv.of_ext e280).trans ((Adv.of_ext e288).trans ((Adv.of_ext e291).trans (x295.trans ((Adv.of_ext e297).trans (x307.trans (x310.trans ((hI309.eraseH 0).trans ((Adv.of_ext e314).trans ((Adv.of_ext e318).trans ((Adv.of_ext e321).trans ((Adv.of_ext e326).trans ((Adv.of_ext e334).trans ((Adv.of_ext e337).trans (x341.trans (Adv.of_ext e343))))))))))))))))))))))))))))))))))))))))))))))))))))))))))))))))))))).cells Tryd.isAgg105 rfl Tryd.sizeOf105 rfl ?_)))
 obtain ⟨z345, hz346, h⟩ := bnd h
 refine s_call rfl Tryd.call54 rfl ((C_account_book_paid (b := (Book.mk z44.facts)) hI344.mlt (hf49.adv (x54.trans (x57.trans ((hI56.eraseH 0).trans (x63.trans ((Adv.of_ext e65).trans (x77.trans (x80.trans ((hI79.eraseH 0).trans ((Adv.of_ext e84).trans ((Adv.of_ext e88).trans ((Adv.of_ext e91).trans ((Adv.of_ext e96).trans ((Adv.of_ext e104).trans ((Adv.of_ext e107).trans (x111.trans ((Adv.of_ext e113).trans (x123.trans (x126.trans ((hI125.eraseH 0).trans ((Adv.of_ext e130).trans ((Adv.of_ext e134).trans ((Adv.of_ext e137).trans ((Adv.of_ext e142).trans ((Adv.of_ext e150).trans ((Adv.of_ext e153).trans (x157.trans ((Adv.of_ext e159).trans (x169.trans (x172.trans ((hI171.eraseH 0).trans ((Adv.of_ext e176).trans ((Adv.of_ext e180).trans ((Adv.of_ext e183).trans ((Adv.of_ext e188).trans ((Adv.of_ext e196).trans ((Adv.of_ext e199).trans (x203.trans ((Adv.of_ext e205).trans (x215.trans (x218.trans ((hI217.eraseH 0).trans ((Adv.of_ext e222).trans ((Adv.of_ext e226).trans ((Adv.of_ext e229).trans ((Adv.of_ext e234).trans ((Adv.of_ext e242).trans ((Adv.of_ext e245).trans (x249.trans ((Adv.of_ext e251).trans (x261.trans (x264.trans ((hI263.eraseH 0).trans ((Adv.of_ext e268).trans ((Adv.of_ext e272).trans ((Adv.of_ext e275).trans ((Adv.of_ext e280).trans ((Adv.of_ext e288).trans ((Adv.of_ext e291).trans (x295.trans ((Adv.of_ext e297).trans (x307.trans (x310.trans ((hI309.eraseH 0).trans ((Adv.of_ext e314).trans ((Adv.of_ext e318).trans ((Adv.of_ext e321).trans ((Adv.of_ext e326).trans ((Adv.of_ext e334).trans ((Adv.of_ext e337).trans (x341.trans (Adv.of_ext e343)))))))))))))))))))))))))))))))))))))))))))))))))))))))))))))))))))))))) hz346).mono ?_)
 rintro _ w347 ⟨v349, rfl, hf350, e348⟩
 refine ⟨_, rfl, ?_⟩
 have hI351 := hI344.ext e348
 refine y_rg hI351 hf350 rfl Tryd.underlying115 rfl ?_
 intro r352 b353 c354 es355 xs356 w357 hX358 hL359 hI360 x361
 refine Reg.nil ?_
 obtain ⟨j362, h363, h⟩ := bnd h
 refine cw_keep [59, 8, 11, 12] rfl (cw_unitD 1 (ι := Int × Int) (fun ⟨x364, x366⟩ => []) (fun ⟨x364, x366⟩ => fun w368 => Hp w [] M [rowR 42 b60 (tV z93 v100 (tV z139 v146 (tV z185 v192 (tV z231 v238 (tV z277 v284 (tV z323 v330 [vi x364, vi x366, vu 0])))))), rowR 42 b1 zSt] w368 ∧ Adv (mm [itR r352 b353 c354 es355 xs356 none xs356, rowR 42 b60 (tV z93 v100 (tV z139 v146 (tV z185 v192 (tV z231 v238 (tV z277 v284 (tV z323 v330 [vi 0, vi 0, vu 0])))))), rowR 42 b1 zSt] M) (mm [rowR 42 b60 (tV z93 v100 (tV z139 v146 (tV z185 v192 (tV z231 v238 (tV z277 v284 (tV z323 v330 [vi x364, vi x366, vu 0])))))), rowR 42 b1 zSt] M) w357 w368 ∧ InK .i64 x364 ∧ InK .i64 x366 ∧ (x364, x366) = j362) ?_ ?_)
 ·refine cw_block (cw_keep [8, 11, 12, 59] rfl ?_)
  refine cw_loopA 0 (ι := Int × Int) _ (fun ⟨x372, x374⟩ => []) (fun ⟨x372, x374⟩ => (x372, x374)) (fun ⟨x372, x374⟩ => fun l371 w376 => Hp w [] M [itR r352 b353 c354 es355 xs356 none l371, rowR 42 b60 (tV z93 v100 (tV z139 v146 (tV z185 v192 (tV z231 v238 (tV z277 v284 (tV z323 v330 [vi x372, vi x374, vu 0])))))), rowR 42 b1 zSt] w376 ∧ Adv (mm [itR r352 b353 c354 es355 xs356 none xs356, rowR 42 b60 (tV z93 v100 (tV z139 v146 (tV z185 v192 (tV z231 v238 (tV z277 v284 (tV z323 v330 [vi 0, vi 0, vu 0])))))), rowR 42 b1 zSt] M) (mm [itR r352 b353 c354 es355 xs356 none l371, rowR 42 b60 (tV z93 v100 (tV z139 v146 (tV z185 v192 (tV z231 v238 (tV z277 v284 (tV z323 v330 [vi x372, vi x374, vu 0])))))), rowR 42 b1 zSt] M) w357 w376 ∧ InK .i64 x372 ∧ InK .i64 x374) (0, 0) xs356 (anyM_out h363 hL359) ⟨hI360, (Adv.refl _ _), (by decide), (by decide)⟩ (sb4 rfl rfl rfl rfl) ?_
  rintro ⟨x372, x374⟩ l371 w376 ⟨hI377, hA378, r373, r375⟩ h380 hR381
  refine cw_seq (cw_regF (y_nx 0 hI377 (hX358.adv (x361.trans hA378)) rfl rfl rfl (fun hn382 => ?_) ?_))
  ·obtain rfl := h380 hn382
   have hI392 := hI377.erase 0
   refine s_xt rfl rfl rfl (Reg.nil (cw_seq (cw_condF rfl ?_)))
   refine cw_exit (exB_same ?_)
   refine ⟨rfl, (x372, x374), ⟨hI392, (hA378.trans (hI377.eraseH 0)), r373, r375, rfl⟩, sb3 rfl rfl rfl⟩
  intro y383 l384 k385 v386 w387 hp388 hI389 x390
  obtain ⟨shB391, hB391⟩ := hR381 y383 l384 hp388
  have zhB391 := hB391
  refine s_xt rfl rfl rfl (Reg.nil (cw_seq (cw_condT rfl ?_)))
  refine cw_skip (cw_block (cw_seq (cw_regF (y_en 0 hI389 (hX358.adv (x361.trans (hA378.trans x390))) rfl rfl rfl ?_))))
  intro v393 hk394 hv395
  obtain ⟨cs396, hR397, rfl⟩ := Vl.agg hv395
  obtain ⟨rfl, r398, r399⟩ := SpanE_R.1 hR397
  have hI400 := hI389.itOff 0 rfl
  refine s_xt rfl rfl rfl (y_al hI400 Tryd.zeroValue40 rfl rfl ?_)
  intro b401 w402 hI403 x404
  refine y_st 0 hI403 rfl rfl rfl rfl Tryd.sizeOf40 rfl rfl (on2 rfl rfl) ?_
  intro w405 hI406 x407
  have hC409 := hI406.freezeRow 0 rfl
  have hI408 := hI406.erase 0
  refine Reg.nil (cw_seq (cw_regF (s_fa rfl Tryd.underlying42 rfl Tryd.sizeOf40 rfl (s_fa rfl Tryd.underlying40 rfl Tryd.sizeOf3 rfl (s_ld rfl ((hI408.row 1 rfl).rd.cells.at 24 rfl) Tryd.isAgg3 rfl (s_fa rfl Tryd.underlying40 rfl Tryd.sizeOf3 rfl (s_ld rfl (hC409.cells.at 0 rfl) Tryd.isAgg3 rfl ?_)))))))
  obtain ⟨n410, hn410, hB391⟩ := bnd hB391
  replace hn410 := chk_out hn410
  refine p_add rfl rfl rfl hn410 (s_fa rfl Tryd.underlying42 rfl Tryd.sizeOf40 rfl (s_fa rfl Tryd.underlying40 rfl Tryd.sizeOf3 rfl (y_st 1 hI408 rfl rfl rfl rfl Tryd.sizeOf3 rfl rfl (one1 rfl one0) ?_)))
  intro w411 hI412 x413
  refine Reg.nil (cw_regF (s_fa rfl Tryd.underlying42 rfl Tryd.sizeOf40 rfl (s_fa rfl Tryd.underlying40 rfl Tryd.sizeOf3 rfl (s_ld rfl ((hI412.row 1 rfl).rd.cells.at 25 rfl) Tryd.isAgg3 rfl (s_fa rfl Tryd.underlying40 rfl Tryd.sizeOf3 rfl (s_ld rfl ((hC409.adv x413).cells.at 1 rfl) Tryd.isAgg3 rfl ?_))))))
  obtain ⟨n414, hn414, hB391⟩ := bnd hB391
  replace hn414 := chk_out hn414
  refine p_add rfl rfl rfl hn414 (s_fa rfl Tryd.underlying42 rfl Tryd.sizeOf40 rfl (s_fa rfl Tryd.underlying40 rfl Tryd.sizeOf3 rfl (y_st 1 hI412 rfl rfl rfl rfl Tryd.sizeOf3 rfl rfl (one1 rfl one0) ?_)))
  intro w415 hI416 x417
  refine Reg.nil ?_
  obtain rfl := Option.some.inj hB391
  refine ⟨rfl, (n410, n414), y383, l384, ⟨hp388, zhB391, ⟨hI416, (hA378.trans (x390.trans ((Hp.itOffA (σ := [itR r352 b353 c354 es355 xs356 (some y383) l384, rowR 42 b60 (tV z93 v100 (tV z139 v146 (tV z185 v192 (tV z231 v238 (tV z277 v284 (tV z323 v330 [vi x372, vi x374, vu 0])))))), rowR 42 b1 zSt]) (M := M) 0 rfl).trans (x404.trans (x407.trans ((hI406.eraseH 0).trans (x413.trans x417))))))), hn410.2, hn414.2⟩⟩, sb4 rfl rfl rfl rfl⟩
 rintro ⟨x364, x366⟩ w368 ⟨hI369, hA370, r365, r367, rfl⟩
 obtain ⟨j418, h419, h⟩ := bnd h
 refine cw_keep [11, 8, 12] rfl (cw_seqD 1 (ι := Int) (fun x420 => []) (fun x420 => fun w422 => Hp w [] M [rowR 42 b60 (tV z93 v100 (tV z139 v146 (tV z185 v192 (tV z231 v238 (tV z277 v284 (tV z323 v330 [vi x364, vi x366, vu x420])))))), rowR 42 b1 zSt] w422 ∧ Adv (mm [rowR 42 b60 (tV z93 v100 (tV z139 v146 (tV z185 v192 (tV z231 v238 (tV z277 v284 (tV z323 v330 [vi x364, vi x366, vu 0])))))), rowR 42 b1 zSt] M) (mm [rowR 42 b60 (tV z93 v100 (tV z139 v146 (tV z185 v192 (tV z231 v238 (tV z277 v284 (tV z323 v330 [vi x364, vi x366, vu x420])))))), rowR 42 b1 zSt] M) w368 w422 ∧ InK .u8 x420 ∧ x420 = j418) ?_ ?_)
 ·refine cw_block (cw_seq (cw_regF (s_fa rfl Tryd.underlying42 rfl Tryd.sizeOf38 rfl (s_fa rfl Tryd.underlying38 rfl Tryd.sizeOf5 rfl (s_ld rfl ((hI369.row 0 rfl).rd.cells.at 20 rfl) Tryd.isAgg5 rfl (s_neq rfl rfl rfl (s_as rfl rfl (Reg.nil ?_))))))))
  obtain ⟨j425, h426, h419⟩ := bnd h419
  refine cw_keep [11, 80, 8, 12] rfl (cw_unitD 2 (ι := Int) (fun x427 => []) (fun x427 => fun w429 => Hp w [] M [rowR 42 b60 (tV z93 v100 (tV z139 v146 (tV z185 v192 (tV z231 v238 (tV z277 v284 (tV z323 v330 [vi x364, vi x366, vu x427])))))), rowR 42 b1 zSt] w429 ∧ Adv (mm [rowR 42 b60 (tV z93 v100 (tV z139 v146 (tV z185 v192 (tV z231 v238 (tV z277 v284 (tV z323 v330 [vi x364, vi x366, vu 0])))))), rowR 42 b1 zSt] M) (mm [rowR 42 b60 (tV z93 v100 (tV z139 v146 (tV z185 v192 (tV z231 v238 (tV z277 v284 (tV z323 v330 [vi x364, vi x366, vu x427])))))), rowR 42 b1 zSt] M) w368 w429 ∧ InK .u8 x427 ∧ x427 = j425) ?_ ?_)
  ·refine cw_cond rfl (fun hc432 => ?_) (fun hc432 => ?_)
   ·replace h426 := cdT hc432 h426
    refine cw_regF (s_fa rfl Tryd.underlying42 rfl Tryd.sizeOf5 rfl (y_st 0 hI369 rfl rfl rfl rfl Tryd.sizeOf5 rfl rfl (one1 rfl one0) ?_))
    intro w433 hI434 x435
    refine Reg.nil ?_
    obtain rfl := Option.some.inj h426
    refine ⟨rfl, 4, ⟨hI434, x435, (by decide), rfl⟩, sb2 rfl rfl⟩
   replace h426 := cdF hc432 h426
   refine cw_seq (cw_regF (s_fa rfl Tryd.underlying42 rfl Tryd.sizeOf38 rfl (s_fa rfl Tryd.underlying38 rfl Tryd.sizeOf5 rfl (s_ld rfl ((hI369.row 0 rfl).rd.cells.at 16 rfl) Tryd.isAgg5 rfl (s_neq rfl rfl rfl (s_as rfl rfl (Reg.nil ?_)))))))
   obtain ⟨j436, h437, h426⟩ := bnd h426
   refine cw_keep [11, 86, 8, 12] rfl (cw_unitD 2 (ι := Int) (fun x438 => []) (fun x438 => fun w440 => Hp w [] M [rowR 42 b60 (tV z93 v100 (tV z139 v146 (tV z185 v192 (tV z231 v238 (tV z277 v284 (tV z323 v330 [vi x364, vi x366, vu x438])))))), rowR 42 b1 zSt] w440 ∧ Adv (mm [rowR 42 b60 (tV z93 v100 (tV z139 v146 (tV z185 v192 (tV z231 v238 (tV z277 v284 (tV z323 v330 [vi x364, vi x366, vu 0])))))), rowR 42 b1 zSt] M) (mm [rowR 42 b60 (tV z93 v100 (tV z139 v146 (tV z185 v192 (tV z231 v238 (tV z277 v284 (tV z323 v330 [vi x364, vi x366, vu x438])))))), rowR 42 b1 zSt] M) w368 w440 ∧ InK .u8 x438 ∧ x438 = j436) ?_ ?_)
   ·refine cw_cond rfl (fun hc443 => ?_) (fun hc443 => ?_)
    ·replace h437 := cdT hc443 h437
     refine cw_regF (s_fa rfl Tryd.underlying42 rfl Tryd.sizeOf5 rfl (y_st 0 hI369 rfl rfl rfl rfl Tryd.sizeOf5 rfl rfl (one1 rfl one0) ?_))
     intro w444 hI445 x446
     refine Reg.nil ?_
     obtain rfl := Option.some.inj h437
     refine ⟨rfl, 3, ⟨hI445, x446, (by decide), rfl⟩, sb2 rfl rfl⟩
    replace h437 := cdF hc443 h437
    obtain ⟨j447, h448, h437⟩ := bnd h437
    refine cw_keep [8, 11, 12] rfl (cw_seqD 0 (ι := Bool) (fun x449 => [(92, Value.bool x449)]) (fun x449 => fun w450 => w368 = w450 ∧ x449 = j447) ?_ ?_)
    ·refine cw_regF (s_fa rfl Tryd.underlying42 rfl Tryd.sizeOf38 rfl (s_fa rfl Tryd.underlying38 rfl Tryd.sizeOf5 rfl (s_ld rfl ((hI369.row 0 rfl).rd.cells.at 12 rfl) Tryd.isAgg5 rfl (s_eql rfl rfl rfl (s_mv rfl rfl (Reg.gsplit (t := 97) rfl (fun hg453 => ?_) (fun hg453 => ?_)))))))
     ·replace h448 := cdT hg453 h448
      iterate 4 refine Reg.pass rfl rfl rfl rfl ?_
      refine s_pkT rfl rfl rfl (s_as rfl rfl (Reg.nil ?_))
      obtain rfl := Option.some.inj h448
      refine ⟨rfl, true, ⟨rfl, rfl⟩, sb4 rfl rfl rfl rfl⟩
     replace h448 := cdF hg453 h448
     refine Reg.take rfl rfl (s_fa rfl Tryd.underlying42 rfl Tryd.sizeOf38 rfl (Reg.take rfl rfl (s_fa rfl Tryd.underlying38 rfl Tryd.sizeOf3 rfl (Reg.take rfl rfl (s_ld rfl ((hI369.row 0 rfl).rd.cells.at 13 rfl) Tryd.isAgg3 rfl (Reg.take rfl rfl (s_gtr rfl rfl rfl (s_pkF rfl rfl rfl (s_as rfl rfl (Reg.nil ?_))))))))))
     obtain rfl := Option.some.inj h448
     refine ⟨rfl, decide (0 < z231.cents), ⟨rfl, rfl⟩, sb4 rfl rfl rfl rfl⟩
    rintro x449 _ ⟨rfl, rfl⟩
    obtain ⟨j454, h455, h437⟩ := bnd h437
    refine cw_keep [11, 92, 8, 12] rfl (cw_unitD 2 (ι := Int) (fun x456 => []) (fun x456 => fun w458 => Hp w [] M [rowR 42 b60 (tV z93 v100 (tV z139 v146 (tV z185 v192 (tV z231 v238 (tV z277 v284 (tV z323 v330 [vi x364, vi x366, vu x456])))))), rowR 42 b1 zSt] w458 ∧ Adv (mm [rowR 42 b60 (tV z93 v100 (tV z139 v146 (tV z185 v192 (tV z231 v238 (tV z277 v284 (tV z323 v330 [vi x364, vi x366, vu 0])))))), rowR 42 b1 zSt] M) (mm [rowR 42 b60 (tV z93 v100 (tV z139 v146 (tV z185 v192 (tV z231 v238 (tV z277 v284 (tV z323 v330 [vi x364, vi x366, vu x456])))))), rowR 42 b1 zSt] M) w368 w458 ∧ InK .u8 x456 ∧ x456 = j454) ?_ ?_)
    ·refine cw_cond rfl (fun hc461 => ?_) (fun hc461 => ?_)
     ·replace h455 := cdT hc461 h455
      refine cw_regF (s_fa rfl Tryd.underlying42 rfl Tryd.sizeOf5 rfl (y_st 0 hI369 rfl rfl rfl rfl Tryd.sizeOf5 rfl rfl (one1 rfl one0) ?_))
      intro w462 hI463 x464
      refine Reg.nil ?_
      obtain rfl := Option.some.inj h455
      refine ⟨rfl, 2, ⟨hI463, x464, (by decide), rfl⟩, sb2 rfl rfl⟩
     replace h455 := cdF hc461 h455
     refine cw_seq (cw_regF (s_fa rfl Tryd.underlying105 rfl Tryd.sizeOf22 rfl (s_ld rfl ((hC59.adv (x63.trans ((Adv.of_ext e65).trans (x77.trans (x80.trans ((hI79.eraseH 0).trans ((Adv.of_ext e84).trans ((Adv.of_ext e88).trans ((Adv.of_ext e91).trans ((Adv.of_ext e96).trans ((Adv.of_ext e104).trans ((Adv.of_ext e107).trans (x111.trans ((Adv.of_ext e113).trans (x123.trans (x126.trans ((hI125.eraseH 0).trans ((Adv.of_ext e130).trans ((Adv.of_ext e134).trans ((Adv.of_ext e137).trans ((Adv.of_ext e142).trans ((Adv.of_ext e150).trans ((Adv.of_ext e153).trans (x157.trans ((Adv.of_ext e159).trans (x169.trans (x172.trans ((hI171.eraseH 0).trans ((Adv.of_ext e176).trans ((Adv.of_ext e180).trans ((Adv.of_ext e183).trans ((Adv.of_ext e188).trans ((Adv.of_ext e196).trans ((Adv.of_ext e199).trans (x203.trans ((Adv.of_ext e205).trans (x215.trans (x218.trans ((hI217.eraseH 0).trans ((Adv.of_ext e222).trans ((Adv.of_ext e226).trans ((Adv.of_ext e229).trans ((Adv.of_ext e234).trans ((Adv.of_ext e242).trans ((Adv.of_ext e245).trans (x249.trans ((Adv.of_ext e251).trans (x261.trans (x264.trans ((hI263.eraseH 0).trans ((Adv.of_ext e268).trans ((Adv.of_ext e272).trans ((Adv.of_ext e275).trans ((Adv.of_ext e280).trans ((Adv.of_ext e288).trans ((Adv.of_ext e291).trans (x295.trans ((Adv.of_ext e297).trans (x307.trans (x310.trans ((hI309.eraseH 0).trans ((Adv.of_ext e314).trans ((Adv.of_ext e318).trans ((Adv.of_ext e321).trans ((Adv.of_ext e326).trans ((Adv.of_ext e334).trans ((Adv.of_ext e337).trans (x341.trans ((Adv.of_ext e343).trans ((Adv.of_ext e348).trans (x361.trans hA370))))))))))))))))))))))))))))))))))))))))))))))))))))))))))))))))))))))).cells.at 0 rfl) Tryd.isAgg22 rfl (s_len rfl (hf49.adv (x54.trans (x57.trans ((hI56.eraseH 0).trans (x63.trans ((Adv.of_ext e65).trans (x77.trans (x80.trans ((hI79.eraseH 0).trans ((Adv.of_ext e84).trans ((Adv.of_ext e88).trans ((Adv.of_ext e91).trans ((Adv.of_ext e96).trans ((Adv.of_ext e104).trans ((Adv.of_ext e107).trans (x111.trans ((Adv.of_ext e113).trans (x123.trans (x126.trans ((hI125.eraseH 0).trans ((Adv.of_ext e130).trans ((Adv.of_ext e134).trans ((Adv.of_ext e137).trans ((Adv.of_ext e142).trans ((Adv.of_ext e150).trans ((Adv.of_ext e153).trans (x157.trans ((Adv.of_ext e159).trans (x169.trans (x172.trans ((hI171.eraseH 0).trans ((Adv.of_ext e176).trans ((Adv.of_ext e180).trans ((Adv.of_ext e183).trans ((Adv.of_ext e188).trans ((Adv.of_ext e196).trans ((Adv.of_ext e199).trans (x203.trans ((Adv.of_ext e205).trans (x215.trans (x218.trans ((hI217.eraseH 0).trans ((Adv.of_ext e222).trans ((Adv.of_ext e226).trans ((Adv.of_ext e229).trans ((Adv.of_ext e234).trans ((Adv.of_ext e242).trans ((Adv.of_ext e245).trans (x249.trans ((Adv.of_ext e251).trans (x261.trans (x264.trans ((hI263.eraseH 0).trans ((Adv.of_ext e268).trans ((Adv.of_ext e272).trans ((Adv.of_ext e275).trans ((Adv.of_ext e280).trans ((Adv.of_ext e288).trans ((Adv.of_ext e291).trans (x295.trans ((Adv.of_ext e297).trans (x307.trans (x310.trans ((hI309.eraseH 0).trans ((Adv.of_ext e314).trans ((Adv.of_ext e318).trans ((Adv.of_ext e321).trans ((Adv.of_ext e326).trans ((Adv.of_ext e334).trans ((Adv.of_ext e337).trans (x341.trans ((Adv.of_ext e343).trans ((Adv.of_ext e348).trans (x361.trans hA370)))))))))))))))))))))))))))))))))))))))))))))))))))))))))))))))))))))))))) Tryd.underlying22 rfl (s_gtr rfl rfl rfl (s_as rfl rfl (Reg.nil ?_)))))))
     obtain ⟨j465, h466, h455⟩ := bnd h455
     refine cw_keep [104, 8, 12] rfl (cw_unitD 1 (ι := Int) (fun x467 => []) (fun x467 => fun w469 => Hp w [] M [rowR 42 b60 (tV z93 v100 (tV z139 v146 (tV z185 v192 (tV z231 v238 (tV z277 v284 (tV z323 v330 [vi x364, vi x366, vu x467])))))), rowR 42 b1 zSt] w469 ∧ Adv (mm [rowR 42 b60 (tV z93 v100 (tV z139 v146 (tV z185 v192 (tV z231 v238 (tV z277 v284 (tV z323 v330 [vi x364, vi x366, vu 0])))))), rowR 42 b1 zSt] M) (mm [rowR 42 b60 (tV z93 v100 (tV z139 v146 (tV z185 v192 (tV z231 v238 (tV z277 v284 (tV z323 v330 [vi x364, vi x366, vu x467])))))), rowR 42 b1 zSt] M) w368 w469 ∧ InK .u8 x467 ∧ x467 = j465) ?_ ?_)
     ·refine cw_cond rfl (fun hc472 => ?_) (fun hc472 => ?_)
      ·replace h466 := cdT hc472 h466
       refine cw_regF (s_fa rfl Tryd.underlying42 rfl Tryd.sizeOf5 rfl (y_st 0 hI369 rfl rfl rfl rfl Tryd.sizeOf5 rfl rfl (one1 rfl one0) ?_))
       intro w473 hI474 x475
       refine Reg.nil ?_
       obtain rfl := Option.some.inj h466
       refine ⟨rfl, 1, ⟨hI474, x475, (by decide), rfl⟩, sb2 rfl rfl⟩
      replace h466 := cdF hc472 h466
      refine cw_skip ?_
      obtain rfl := Option.some.inj h466
      refine ⟨rfl, 0, ⟨hI369, (Adv.refl _ _), (by decide), rfl⟩, sb2 rfl rfl⟩
     rintro x467 w469 ⟨hI470, hA471, r468, rfl⟩
     obtain rfl := Option.some.inj h455
     refine ⟨rfl, x467, ⟨hI470, hA471, r468, rfl⟩, sb2 rfl rfl⟩
    rintro x456 w458 ⟨hI459, hA460, r457, rfl⟩
    obtain rfl := Option.some.inj h437
    refine ⟨rfl, x456, ⟨hI459, hA460, r457, rfl⟩, sb2 rfl rfl⟩
   rintro x438 w440 ⟨hI441, hA442, r439, rfl⟩
   obtain rfl := Option.some.inj h426
   refine ⟨rfl, x438, ⟨hI441, hA442, r439, rfl⟩, sb2 rfl rfl⟩
  rintro x427 w429 ⟨hI430, hA431, r428, rfl⟩
  obtain rfl := Option.some.inj h419
  refine ⟨rfl, x427, ⟨hI430, hA431, r428, rfl⟩, sb2 rfl rfl⟩
 rintro x420 w422 ⟨hI423, hA424, r421, rfl⟩
 refine cw_seq (cw_regF (s_lda rfl (hI423.row 0 rfl).rd.cells Tryd.isAgg42 rfl Tryd.sizeOf42 rfl (y_st 1 hI423 rfl rfl rfl rfl Tryd.sizeOf42 rfl rfl (one1 rfl (one1 rfl (one1 rfl (one1 (RdS.oneC hf101) (one1 rfl (one1 rfl (one1 rfl (one1 (RdS.oneC hf147) (one1 rfl (one1 rfl (one1 rfl (one1 (RdS.oneC hf193) (one1 rfl (one1 rfl (one1 rfl (one1 (RdS.oneC hf239) (one1 rfl (one1 rfl (one1 rfl (one1 (RdS.oneC hf285) (one1 rfl (one1 rfl (one1 rfl (one1 (RdS.oneC hf331) (on3 rfl rfl rfl))))))))))))))))))))))))) ?_)))
 intro w476 hI477 x478
 refine s_as rfl rfl (Reg.nil (cw_ret ?_))
 obtain ⟨rfl, rfl⟩ := inj2 h
 refine fin_any Tryd.results20 (AllRs.cons (RsOk.agg rfl (hI477.row 1 rfl).rd.cells Tryd.isAgg42 rfl Tryd.sizeOf42) (AllRs.cons (RsOk.tmp rfl) (AllRs.nil))) rfl ?_
 exact ⟨_, _, _, _, _, _, rfl, r97, r98, r99, ((hf101.adv ((Adv.of_ext e104).trans ((Adv.of_ext e107).trans (x111.trans ((Adv.of_ext e113).trans (x123.trans (x126.trans ((hI125.eraseH 0).trans ((Adv.of_ext e130).trans ((Adv.of_ext e134).trans ((Adv.of_ext e137).trans ((Adv.of_ext e142).trans ((Adv.of_ext e150).trans ((Adv.of_ext e153).trans (x157.trans ((Adv.of_ext e159).trans (x169.trans (x172.trans ((hI171.eraseH 0).trans ((Adv.of_ext e176).trans ((Adv.of_ext e180).trans ((Adv.of_ext e183).trans ((Adv.of_ext e188).trans ((Adv.of_ext e196).trans ((Adv.of_ext e199).trans (x203.trans ((Adv.of_ext e205).trans (x215.trans (x218.trans ((hI217.eraseH 0).trans ((Adv.of_ext e222).trans ((Adv.of_ext e226).trans ((Adv.of_ext e229).trans ((Adv.of_ext e234).trans ((Adv.of_ext e242).trans ((Adv.of_ext e245).trans (x249.trans ((Adv.of_ext e251).trans (x261.trans (x264.trans ((hI263.eraseH 0).trans ((Adv.of_ext e268).trans ((Adv.of_ext e272).trans ((Adv.of_ext e275).trans ((Adv.of_ext e280).trans ((Adv.of_ext e288).trans ((Adv.of_ext e291).trans (x295.trans ((Adv.of_ext e297).trans (x307.trans (x310.trans ((hI309.eraseH 0).trans ((Adv.of_ext e314).trans ((Adv.of_ext e318).trans ((Adv.of_ext e321).trans ((Adv.of_ext e326).trans ((Adv.of_ext e334).trans ((Adv.of_ext e337).trans (x341.trans ((Adv.of_ext e343).trans ((Adv.of_ext e348).trans (x361.trans (hA370.trans (hA424.trans x478)))))))))))))))))))))))))))))))))))))))))))))))))))))))))))))))).adv hI477.baseH), r143, r144, r145, ((hf147.adv ((Adv.of_ext e150).trans ((Adv.of_ext e153).trans (x157.trans ((Adv.of_ext e159).trans (x169.trans (x172.trans ((hI171.eraseH 0).trans ((Adv.of_ext e176).trans ((Adv.of_ext e180).trans ((Adv.of_ext e183).trans ((Adv.of_ext e188).trans ((Adv.of_ext e196).trans ((Adv.of_ext e199).trans (x203.trans ((Adv.of_ext e205).trans (x215.trans (x218.trans ((hI217.eraseH 0).trans ((Adv.of_ext e222).trans ((Adv.of_ext e226).trans ((Adv.of_ext e229).trans ((Adv.of_ext e234).trans ((Adv.of_ext e242).trans ((Adv.of_ext e245).trans (x249.trans ((Adv.of_ext e251).trans (x261.trans (x264.trans ((hI263.eraseH 0).trans ((Adv.of_ext e268).trans ((Adv.of_ext e272).trans ((Adv.of_ext e275).trans ((Adv.of_ext e280).trans ((Adv.of_ext e288).trans ((Adv.of_ext e291).trans (x295.trans ((Adv.of_ext e297).trans (x307.trans (x310.trans ((hI309.eraseH 0).trans ((Adv.of_ext e314).trans ((Adv.of_ext e318).trans ((Adv.of_ext e321).trans ((Adv.of_ext e326).trans ((Adv.of_ext e334).trans ((Adv.of_ext e337).trans (x341.trans ((Adv.of_ext e343).trans ((Adv.of_ext e348).trans (x361.trans (hA370.trans (hA424.trans x478))))))))))))))))))))))))))))))))))))))))))))))))))))).adv hI477.baseH), r189, r190, r191, ((hf193.adv ((Adv.of_ext e196).trans ((Adv.of_ext e199).trans (x203.trans ((Adv.of_ext e205).trans (x215.trans (x218.trans ((hI217.eraseH 0).trans ((Adv.of_ext e222).trans ((Adv.of_ext e226).trans ((Adv.of_ext e229).trans ((Adv.of_ext e234).trans ((Adv.of_ext e242).trans ((Adv.of_ext e245).trans (x249.trans ((Adv.of_ext e251).trans (x261.trans (x264.trans ((hI263.eraseH 0).trans ((Adv.of_ext e268).trans ((Adv.of_ext e272).trans ((Adv.of_ext e275).trans ((Adv.of_ext e280).trans ((Adv.of_ext e288).trans ((Adv.of_ext e291).trans (x295.trans ((Adv.of_ext e297).trans (x307.trans (x310.trans ((hI309.eraseH 0).trans ((Adv.of_ext e314).trans ((Adv.of_ext e318).trans ((Adv.of_ext e321).trans ((Adv.of_ext e326).trans ((Adv.of_ext e334).trans ((Adv.of_ext e337).trans (x341.trans ((Adv.of_ext e343).trans ((Adv.of_ext e348).trans (x361.trans (hA370.trans (hA424.trans x478)))))))))))))))))))))))))))))))))))))))))).adv hI477.baseH), r235, r236, r237, ((hf239.adv ((Adv.of_ext e242).trans ((Adv.of_ext e245).trans (x249.trans ((Adv.of_ext e251).trans (x261.trans (x264.trans ((hI263.eraseH 0).trans ((Adv.of_ext e268).trans ((Adv.of_ext e272).trans ((Adv.of_ext e275).trans ((Adv.of_ext e280).trans ((Adv.of_ext e288).trans ((Adv.of_ext e291).trans (x295.trans ((Adv.of_ext e297).trans (x307.trans (x310.trans ((hI309.eraseH 0).trans ((Adv.of_ext e314).trans ((Adv.of_ext e318).trans ((Adv.of_ext e321).trans ((Adv.of_ext e326).trans ((Adv.of_ext e334).trans ((Adv.of_ext e337).trans (x341.trans ((Adv.of_ext e343).trans ((Adv.of_ext e348).trans (x361.trans (hA370.trans (hA424.trans x478))))))))))))))))))))))))))))))).adv hI477.baseH), r281, r282, r283, ((hf285.adv ((Adv.of_ext e288).trans ((Adv.of_ext e291).trans (x295.trans ((Adv.of_ext e297).trans (x307.trans (x310.trans ((hI309.eraseH 0).trans ((Adv.of_ext e314).trans ((Adv.of_ext e318).trans ((Adv.of_ext e321).trans ((Adv.of_ext e326).trans ((Adv.of_ext e334).trans ((Adv.of_ext e337).trans (x341.trans ((Adv.of_ext e343).trans ((Adv.of_ext e348).trans (x361.trans (hA370.trans (hA424.trans x478)))))))))))))))))))).adv hI477.baseH), r327, r328, r329, ((hf331.adv ((Adv.of_ext e334).trans ((Adv.of_ext e337).trans (x341.trans ((Adv.of_ext e343).trans ((Adv.of_ext e348).trans (x361.trans (hA370.trans (hA424.trans x478))))))))).adv hI477.baseH), r365, r367, r421, (by decide), hI477.kp⟩
end Go.Proofs.YtepjkmoipjeghaaDoor
