/-
  Part AccountStands 7 of the texts that the statement's proof stands on: what memory holds, how code is walked, what the functions reckon. In the order in which they build.
-/
import Derived.Test.YtepjkmoipjeghaaDoorRows
import Derived.WalkKit
import Derived.ProofKit
import Derived.OpenShut
import Derived.ChangeOld
import Derived.Below
import Derived.LaidMore
import Derived.Stop.Joined
import Derived.Test.YtepjkmoipjeghaaDoorProg
import Derived.Test.YtepjkmoipjeghaaDoorAcAccountStands6
set_option linter.unusedVariables false
set_option linter.unusedSectionVars false
namespace Go.Proofs.YtepjkmoipjeghaaDoor
open Go Go.Sx Go.ChangeShapes Go.WideShapes Go.ChangeAt Go.RowKit
namespace frame
theorem own : ownKnob Tryd.prog.godebug = none := by kernel_rfl
theorem laidOut : laidOutB Tryd.prog = true := by kernel_rfl
theorem bInt : Bridge Tryd.prog 3 (intE .i64) := bridge_int Tryd.underlying3
theorem bU8 : Bridge Tryd.prog 5 (intE .u8) := bridge_int Tryd.underlying5
theorem bReport : Bridge Tryd.prog 61 ReportE := bridge_map (fun a => ⟨a.1, a.2.1, a.2.2.1, a.2.2.2.1, a.2.2.2.2.1, a.2.2.2.2.2.1, a.2.2.2.2.2.2.1, a.2.2.2.2.2.2.2⟩) (fun _ => rfl) (bridge_struct Tryd.underlying61 rfl (fb_cons bInt (by kernel_rfl) (fb_cons bInt (by kernel_rfl) (fb_cons bInt (by kernel_rfl) (fb_cons bInt (by kernel_rfl) (fb_cons bInt (by kernel_rfl) (fb_cons bU8 (by kernel_rfl) (fb_cons bInt (by kernel_rfl) (fb_last bInt (by kernel_rfl))))))))))
theorem bReports : Bridge Tryd.prog 22 (sliceE ReportE) := bridge_slice Tryd.underlying22 (by kernel_rfl) bReport
theorem inr {M : List Nat} {w : World} {v : Value} {xs : List Report} (h : RdS ReportE M w v xs) : ∀ r ∈ xs, InR r := fun r hr => by
  obtain ⟨a, c, _, _, _, h4⟩ := h
  rcases h4 with rfl | ⟨b, o, _, _, _, h5⟩
  · cases hr
  · obtain ⟨i, hi, rfl⟩ := List.getElem_of_mem hr
    obtain ⟨cs, hR, _⟩ := h5 i hi
    exact (ReportE_R.1 hR).2
abbrev laid1 : List (String × DataW Unit) := [("goodname/account.most", Rows.laid_goodname_account_most)]
theorem gMost : Tryd.prog.globalNamed "goodname/account.most" = some 0 := by kernel_rfl
theorem tMost : (Tryd.prog.globals[0]?).map (·.type) = some 131 := by kernel_rfl
theorem door_met (os : Os) (args : Array Value) : laidMetH Tryd.prog laid1 ((World.doorLaid Tryd.prog 14 os).forCall (fun _ _ => 0) ⟨#[], args, []⟩).memory :=
  laidMetH_of_parts3 (fuel := 8) (laidMet_of_run' 8 (by kernel_rfl) (by kernel_rfl)) (by kernel_rfl) (by kernel_rfl)
theorem of_laid {W : World} (h : laidMetH Tryd.prog laid1 W) : RdC [] W 0 0 (glob0.map (Value.int .i64)) := by
  rw [MakeChecks.laidMetH_plain _ _ _ (by kernel_rfl)] at h
  obtain ⟨ps, ⟨g0, t0, cs0, f0, p0, q0, hg0, ht0, hv0, hd0, _, _⟩, _, _⟩ := h
  obtain rfl := Option.some.inj (gMost.symm.trans hg0)
  obtain rfl := Option.some.inj (tMost.symm.trans ht0)
  obtain ⟨xs, m, rfl, hx, hlen, hn, hel⟩ := DataW.trod_array Tryd.underlying131 hd0
  have c3 : Tryd.prog.cellsOf 3 = 1 := by kernel_rfl
  have hxs : xs.map (·.1) = glob0.map fun n => DataW.lit (.int .i64 n) := by
    have := congrArg Prod.fst hx
    simp only [Rows.laid_goodname_account_most, DataW.agg.injEq] at this
    exact this.symm
  have hc : ∀ j v, (glob0.map (Value.int .i64))[j]? = some v → W.cell? ⟨0, 0 + j, none⟩ = some v := fun j v hj => by
    have hj10 : j < 10 := by
      have := (List.getElem?_eq_some_iff.1 hj).1
      simpa [glob0] using this
    have h1 := hel j hj10
    rw [c3, Nat.mul_one] at h1
    obtain ⟨x, hxj⟩ : ∃ x, xs[j]? = some x := ⟨_, List.getElem?_eq_getElem (by omega)⟩
    obtain ⟨n, e1, e2, _⟩ := DataW.trod_int Tryd.underlying3 (h1.trans hxj)
    have e3 : (xs.map (·.1))[j]? = some (DataW.lit (.int .i64 n)) := by rw [List.getElem?_map, hxj, e2]; rfl
    rw [hxs, List.getElem?_map] at e3
    rw [List.getElem?_map] at hj
    cases hg : glob0[j]? with
    | none => rw [hg] at e3; cases e3
    | some y =>
      rw [hg] at e3 hj
      simp at e3 hj
      subst e3 hj
      have := World.var?_cell hg0 hv0 j
      rw [Nat.zero_add, this]
      have h9 := congrArg (fun l : List Value => l[0]?) e1
      simpa [List.getElem?_take, List.getElem?_drop] using h9
  refine ⟨by simp, ?_, hc⟩
  have h0 := hc 0 _ rfl
  rcases Nat.lt_or_ge 0 W.heap.size with h | h
  · exact h
  · have : W.heap[0]? = none := Array.getElem?_eq_none (by omega)
    simp [World.cell?, this] at h0
end frame
end Go.Proofs.YtepjkmoipjeghaaDoor
namespace Go.Proofs.YtepjkmoipjeghaaDoor
open Go Go.Sx Go.RowKit
def P.account_desk_facts (d : Desk) : Option Desk := some d
theorem C_account_desk_facts {M : List Nat} {w : World} (hM : MLt M w) {d : Desk} {v_d_0 v_d_1 v_d_2 : Value} (f_d_0 : RdF Ky3 ReportE true M w v_d_0 d.store.reports) (f_d_1 : RdF Ky3 (intE .i64) false M w v_d_1 d.gone) (f_d_2 : RdF Ky3 (intE .i64) false M w v_d_2 d.fixed) {r0 : Desk} (h : P.account_desk_facts d = some r0) :
    Calls Tryd.prog 38 (List.toArray [Value.agg (List.toArray [v_d_0, v_d_1, v_d_2])]) w fun e w' => ∃ v0_0 : Value, e = .returned (v0_0) ∧ ItF M w' v0_0 r0 ∧ Ext w w' := by
  have hI := Hp.start (Mu := []) hM
  refine calls_cw Tryd.func38 rfl Tryd.ntmps38 rfl ?_
  refine cw_seq ?_
  refine cw_regF ?_
  refine y_box hI rfl rfl rfl ?_
  intro b w2 hI2 x2
  refine s_as rfl rfl ?_
  refine Reg.nil ?_
  refine cw_seq ?_
  refine cw_regF ?_
  refine s_mf rfl rfl ?_
  refine s_as rfl rfl ?_
  refine Reg.nil ?_
  refine cw_ret ?_
  refine fin1 Tryd.results38 rfl ?_
  obtain rfl := Option.some.inj h
  exact ⟨_, rfl, ⟨b, _, _, _, rfl, (hI2.freezeRow 0 rfl).adv (Adv.refl _ _), f_d_0.adv (Adv.of_ext hI2.kp), f_d_1.adv (Adv.of_ext hI2.kp), f_d_2.adv (Adv.of_ext hI2.kp)⟩, hI2.kp⟩
open Classical in
noncomputable def P.slices_Collect_36 (seq : Desk) : Option (List Report) := Option.bind (P.account_facts seq) fun l => if l.length * 64 ≤ 140737488355328 ∧ ∀ r ∈ l, InR r then some l else none
theorem C_slices_Collect_36 {M : List Nat} {w : World} (hM : MLt M w) {seq : Desk} {v_seq_0 : Value} (f_seq_0 : ItF M w v_seq_0 seq) {r0 : List Report} (h : P.slices_Collect_36 seq = some r0) :
    Calls Tryd.prog 36 (List.toArray [v_seq_0]) w fun e w' => ∃ v0_0 : Value, e = .returned (v0_0) ∧ (Sx.Own ReportE 61 0 M w' v0_0 r0 ∧ ∀ b ∈ ob v0_0, w.heap.size ≤ b) ∧ Ext w w' := by
  unfold P.slices_Collect_36 at h
  obtain ⟨l, hl, h⟩ := bnd h
  split at h
  · rename_i hc
    obtain rfl := Option.some.inj h
    obtain ⟨xs, hxs⟩ : ∃ xs : List RepI, xs.map Subtype.val = l := ⟨l.attach.map fun r => ⟨r.1, hc.2 r.1 r.2⟩, by rw [List.map_map]; exact List.attach_map_subtype_val l⟩
    have hI := Hp.start (Mu := []) hM
    refine calls_cw Tryd.func36 rfl Tryd.ntmps36 rfl ?_
    refine cw_seq ?_
    refine cw_regF ?_
    refine s_as rfl rfl ?_
    refine Reg.nil ?_
    refine cw_seq ?_
    refine cw_regF ?_
    refine s_mv rfl rfl ?_
    refine s_call rfl Tryd.call69 rfl ?_
    refine (C_slices_AppendSeq hM f_seq_0 (l := xs) (by rw [hxs]; exact hl) (by have := congrArg List.length hxs; rw [List.length_map] at this; rw [this]; exact hc.1)).mono ?_
    rintro _ w2 ⟨v, rfl, ho, hx⟩
    refine ⟨_, rfl, ?_⟩
    refine s_as rfl rfl ?_
    refine Reg.nil ?_
    refine cw_ret ?_
    refine fin1 Tryd.results36 rfl ?_
    rw [hxs] at ho
    exact ⟨_, rfl, ho, hx⟩
  · cases h
end Go.Proofs.YtepjkmoipjeghaaDoor
set_option maxRecDepth 20000
set_option maxHeartbeats 4000000
namespace Go.Proofs.YtepjkmoipjeghaaDoor
open Go Go.Sx Go.RowKit
noncomputable def P.account_Standing (l : (List Report)) (known : Int) : Option ((List Report) × Int) :=
 Option.bind (P.account_Check l) fun z1 => cond (!decide (z1 = 0)) (some ([], z1)) (Option.bind (P.account_in 0 100000 ([known] : List Int)) fun z12 => cond (!z12) (some ([], 2)) (Option.bind (P.account_open l known) fun z18 => Option.bind (P.account_desk_facts z18) fun z29 => Option.bind (P.slices_Collect_36 z29) fun z36 => some (z36, 0)))
theorem C_account_Standing {M : List Nat} {w : World} (hM : MLt M w) (hG : RdC M w 0 0 (glob0.map (Value.int .i64))) {l : (List Report)} {v_l_0 : Value} (f_l_0 : RdS ReportE M w v_l_0 l) {known : Int} (f_known_0 : InK .i64 known) {r0 : (List Report)} {r1 : Int} (h : P.account_Standing l known = some (r0, r1)) :
  Calls Tryd.prog 13 (List.toArray [v_l_0, Value.int .i64 known]) w fun e w' => ∃ v0_0 : Value, e = .returned (Value.tuple (List.toArray [v0_0, Value.int .i64 r1])) ∧ (Sx.Own ReportE 61 0 M w' v0_0 r0 ∧ ∀ b ∈ ob v0_0, w.heap.size ≤ b) ∧ InK .i64 r1 ∧ Ext w w' := by
 have hI := Hp.start (Mu := []) hM
 refine calls_cw Tryd.func13 rfl Tryd.ntmps13 rfl ?_
 refine cw_seq (cw_regF ?_)
 refine s_as rfl rfl ?_
 refine s_as rfl rfl ?_
 refine Reg.nil ?_
 refine cw_seq (cw_seq (cw_regF ?_))
 refine s_mv rfl rfl ?_
 obtain ⟨z1, hz2, h⟩ := bnd h
 refine s_call rfl Tryd.call17 rfl ?_
 refine (C_account_Check hI.mlt hG f_l_0 hz2).mono ?_
 rintro _ w3 ⟨rfl, r5, e4⟩
 refine ⟨_, rfl, ?_⟩
 have hI6 := hI.ext e4
 refine s_as rfl rfl ?_
 refine Reg.nil ?_
 refine cw_seq (cw_regF ?_)
 refine s_mv rfl rfl ?_
 refine s_neq rfl rfl rfl ?_
 refine Reg.nil ?_
 refine cw_cond rfl (fun hc7 => ?_) (fun hc7 => ?_)
 ·replace h := cdT hc7 h
  refine cw_seq (cw_regF ?_)
  refine s_mv rfl rfl ?_
  refine s_as rfl rfl ?_
  refine s_as rfl rfl ?_
  refine Reg.nil ?_
  refine cw_ret ?_
  obtain ⟨rfl, rfl⟩ := inj2 h
  refine fin2 Tryd.results13 rfl rfl ?_
  exact ⟨_, rfl, ⟨Sx.Own.nil _ _ _ _ _, fun _ hb => by cases hb⟩, r5, hI6.kp⟩
 ·replace h := cdF hc7 h
  refine cw_skip (cw_seq (cw_seq (cw_regF ?_)))
  refine s_mv rfl rfl ?_
  refine y_bs (E := (intE .i64)) (xs := [known]) sl36 hI6 rfl rfl (Cls.cons rfl Cls.nil) (Chs.cons ⟨rfl, f_known_0⟩ Chs.nil) rfl rfl ?_
  intro v8 w9 hI10 x11
  obtain ⟨z12, hz13, h⟩ := bnd h
  refine s_call rfl Tryd.call35 rfl ?_
  refine (C_account_in (hI10.sel [] rfl).mlt (by decide) (by decide) (hI10.lendRd [] 0 rfl rfl) hz13).mono ?_
  rintro _ w14 ⟨rfl, e15⟩
  refine ⟨_, rfl, ?_⟩
  have hI16 := hI10.ext e15
  refine s_not rfl rfl ?_
  refine Reg.nil ?_
  refine cw_cond rfl (fun hc17 => ?_) (fun hc17 => ?_)
  ·replace h := cdT hc17 h
   refine cw_seq (cw_regF ?_)
   refine s_as rfl rfl ?_
   refine s_as rfl rfl ?_
   refine Reg.nil ?_
   refine cw_ret ?_
   obtain ⟨rfl, rfl⟩ := inj2 h
   refine fin2 Tryd.results13 rfl rfl ?_
   exact ⟨_, rfl, ⟨Sx.Own.nil _ _ _ _ _, fun _ hb => by cases hb⟩, (by decide), hI16.kp⟩
  ·replace h := cdF hc17 h
   refine cw_skip (cw_seq (cw_regF ?_))
   refine s_mv rfl rfl ?_
   refine s_mv rfl rfl ?_
   obtain ⟨z18, hz19, h⟩ := bnd h
   refine s_call rfl Tryd.call37 rfl ?_
   refine (C_account_open hI16.mlt (hG.adv hI16.adv) (f_l_0.adv hI16.adv) f_known_0 hz19).mono ?_
   rintro _ w20 ⟨v22, v24, v26, rfl, hf23, hf25, hf27, e21⟩
   refine ⟨_, rfl, ?_⟩
   have hI28 := hI16.ext e21
   obtain ⟨z29, hz30, h⟩ := bnd h
   refine s_call rfl Tryd.call38 rfl ?_
   refine (C_account_desk_facts (d := z18) hI28.mlt hf23 hf25 hf27 hz30).mono ?_
   rintro _ w31 ⟨v33, rfl, hf34, e32⟩
   refine ⟨_, rfl, ?_⟩
   have hI35 := hI28.ext e32
   obtain ⟨z36, hz37, h⟩ := bnd h
   refine s_call rfl Tryd.call36 rfl ?_
   refine (C_slices_Collect_36 hI35.mlt hf34 hz37).mono ?_
   rintro _ w38 ⟨v40, rfl, hf41, e39⟩
   refine ⟨_, rfl, ?_⟩
   have hI42 := hI35.addOwn e39 hf41
   refine s_as rfl rfl ?_
   refine s_as rfl rfl ?_
   refine Reg.nil ?_
   refine cw_ret ?_
   obtain ⟨rfl, rfl⟩ := inj2 h
   refine fin2 Tryd.results13 rfl rfl ?_
   exact ⟨_, rfl, (hI42.ownOut 0 rfl), (by decide), hI42.kp⟩
end Go.Proofs.YtepjkmoipjeghaaDoor
set_option maxRecDepth 20000
set_option maxHeartbeats 4000000
namespace Go.Proofs.YtepjkmoipjeghaaDoor
open Go Go.Sx Go.RowKit
noncomputable def P.law03_AccountStands (l : (List Report)) (id : Int) (known : Int) : Option Bool :=
 cond (decide (80 < (l.length : Int))) (some true) (Option.bind (appo 64 ([] : List Report) l) fun l6 => Option.bind (P.account_Standing l6 known) fun (z13, z14) => Option.bind (P.ref03_Standing l known) fun (z22, z23) => Option.bind (P.account_Fate l6 id known) fun (z31, z32, z33) => Option.bind (P.ref03_Fate l id known) fun (z41, z42, z43) => Option.bind (Option.bind (P.account_Check l6) fun z51 => Option.bind (P.ref03_Check l) fun z57 => cond (decide (z51 = z57)) (Option.bind (P.ref03_SameReports z13 z22) fun z64 => cond z64 (cond (decide (z14 = z23)) (cond (decide (z31 = z41)) (cond (decide (z32 = z42)) (cond (decide (z33 = z43)) (Option.bind (P.ref03_SameReports l6 l) fun z74 => some z74) (some false)) (some false)) (some false)) (some false)) (some false)) (some false)) fun x79 => some x79)
theorem C_law03_AccountStands {M : List Nat} {w : World} (hM : MLt M w) (hG : RdC M w 0 0 (glob0.map (Value.int .i64))) {l : (List Report)} {v_l_0 : Value} (f_l_0 : RdS ReportE M w v_l_0 l) {id : Int} (f_id_0 : InK .i64 id) {known : Int} (f_known_0 : InK .i64 known) {r0 : Bool} (h : P.law03_AccountStands l id known = some r0) :
  Calls Tryd.prog 3 (List.toArray [v_l_0, Value.int .i64 id, Value.int .i64 known]) w fun e w' => e = .returned (Value.bool r0) ∧ Ext w w' := by
 have hI := Hp.start (Mu := []) hM
 refine calls_cw Tryd.func3 rfl Tryd.ntmps3 rfl ?_
 refine cw_seq (cw_regF ?_)
 refine s_as rfl rfl ?_
 refine Reg.nil ?_
 refine cw_seq (cw_seq (cw_regF ?_))
 refine s_mv rfl rfl ?_
 refine s_len rfl f_l_0 Tryd.underlying22 rfl ?_
 refine s_gtr rfl rfl rfl ?_
 refine Reg.nil ?_
 refine cw_cond rfl (fun hc1 => ?_) (fun hc1 => ?_)
 ·replace h := cdT hc1 h
  refine cw_seq (cw_regF ?_)
  refine s_as rfl rfl ?_
  refine Reg.nil ?_
  refine cw_ret ?_
  obtain rfl := Option.some.inj h
  refine fin1 Tryd.results3 rfl ?_
  exact ⟨rfl, hI.kp⟩
 ·replace h := cdF hc1 h
  refine cw_skip (cw_seq (cw_regF ?_))
  refine y_bs (E := ReportE) (xs := []) sl22 hI rfl rfl Cls.nil Chs.nil rfl rfl ?_
  intro v2 w3 hI4 x5
  refine s_mv rfl rfl ?_
  obtain ⟨l6, hl6, h⟩ := bnd h
  obtain ⟨hbl6, el6⟩ := appo_out hl6
  refine y_app 0 sl22 hI4 rfl rfl rfl (f_l_0.adv hI4.adv) hbl6 rfl ?_
  rw [← el6]
  intro v7 w8 hI9 x10
  refine s_as rfl rfl ?_
  refine Reg.nil ?_
  refine cw_seq (cw_regF ?_)
  refine s_mv rfl rfl ?_
  refine s_mv rfl rfl ?_
  have hf11 := hI9.freeze 0 rfl
  have hI12 := hI9.erase 0
  obtain ⟨⟨z13, z14⟩, hz15, h⟩ := bnd h
  refine s_call rfl Tryd.call13 rfl ?_
  refine (C_account_Standing hI12.mlt (hG.adv hI12.adv) hf11 f_known_0 hz15).mono ?_
  rintro _ w16 ⟨v18, rfl, hf19, r20, e17⟩
  refine ⟨_, rfl, ?_⟩
  have hI21 := hI12.addOwn e17 hf19
  refine s_mv rfl rfl ?_
  refine s_xt rfl rfl rfl ?_
  refine s_xt rfl rfl rfl ?_
  refine s_as rfl rfl ?_
  refine s_as rfl rfl ?_
  refine Reg.nil ?_
  refine cw_seq (cw_regF ?_)
  refine s_mv rfl rfl ?_
  refine s_mv rfl rfl ?_
  obtain ⟨⟨z22, z23⟩, hz24, h⟩ := bnd h
  refine s_call rfl Tryd.call14 rfl ?_
  refine (C_ref03_Standing hI21.mlt (f_l_0.adv hI21.adv) f_known_0 hz24).mono ?_
  rintro _ w25 ⟨v27, rfl, hf28, r29, e26⟩
  refine ⟨_, rfl, ?_⟩
  have hI30 := hI21.addOwn e26 hf28
  refine s_mv rfl rfl ?_
  refine s_xt rfl rfl rfl ?_
  refine s_xt rfl rfl rfl ?_
  refine s_as rfl rfl ?_
  refine s_as rfl rfl ?_
  refine Reg.nil ?_
  refine cw_seq (cw_regF ?_)
  refine s_mv rfl rfl ?_
  refine s_mv rfl rfl ?_
  refine s_mv rfl rfl ?_
  obtain ⟨⟨z31, z32, z33⟩, hz34, h⟩ := bnd h
  refine s_call rfl Tryd.call15 rfl ?_
  refine (C_account_Fate hI30.mlt (hG.adv hI30.adv) (hf11.adv ((hI12.addOwnA e17 hf19).trans (hI21.addOwnA e26 hf28))) f_id_0 f_known_0 hz34).mono ?_
  rintro _ w35 ⟨rfl, r37, r38, r39, e36⟩
  refine ⟨_, rfl, ?_⟩
  have hI40 := hI30.ext e36
  refine s_mv rfl rfl ?_
  refine s_xt rfl rfl rfl ?_
  refine s_xt rfl rfl rfl ?_
  refine s_xt rfl rfl rfl ?_
  refine s_as rfl rfl ?_
  refine s_as rfl rfl ?_
  refine s_as rfl rfl ?_
  refine Reg.nil ?_
  refine cw_seq (cw_regF ?_)
  refine s_mv rfl rfl ?_
  refine s_mv rfl rfl ?_
  refine s_mv rfl rfl ?_
  obtain ⟨⟨z41, z42, z43⟩, hz44, h⟩ := bnd h
  refine s_call rfl Tryd.call16 rfl ?_
  refine (C_ref03_Fate hI40.mlt (f_l_0.adv hI40.adv) f_id_0 f_known_0 hz44).mono ?_
  rintro _ w45 ⟨rfl, r47, r48, r49, e46⟩
  refine ⟨_, rfl, ?_⟩
  have hI50 := hI40.ext e46
  refine s_mv rfl rfl ?_
  refine s_xt rfl rfl rfl ?_
  refine s_xt rfl rfl rfl ?_
  refine s_xt rfl rfl rfl ?_
  refine s_as rfl rfl ?_
  refine s_as rfl rfl ?_
  refine s_as rfl rfl ?_
  refine Reg.nil ?_
  obtain ⟨j51, h52, h⟩ := bnd h
  refine cw_sub (L := [(0, _), (7, _), (8, _), (9, _), (10, _), (11, _), (12, _), (13, _), (14, _), (15, _), (16, _), (17, _)]) (Sub.cons rfl (Sub.cons rfl (Sub.cons rfl (Sub.cons rfl (Sub.cons rfl (Sub.cons rfl (Sub.cons rfl (Sub.cons rfl (Sub.cons rfl (Sub.cons rfl (Sub.cons rfl (Sub.cons rfl (Sub.nil _))))))))))))) ?_
  refine cw_seqD 12 (ι := Bool) (fun x53 => [(6, Value.bool x53)]) (fun x53 => fun w54 => Hp w [] M [ownR [] ReportE 61 v27 z22, ownR [] ReportE 61 v18 z13] w54 ∧ Adv (mm [ownR [] ReportE 61 v27 z22, ownR [] ReportE 61 v18 z13] M) (mm [ownR [] ReportE 61 v27 z22, ownR [] ReportE 61 v18 z13] M) w45 w54 ∧ x53 = j51) ?_ ?_
  ·skip
   refine cw_regF ?_
   refine s_mv rfl rfl ?_
   obtain ⟨z57, hz58, h52⟩ := bnd h52
   refine s_call rfl Tryd.call17 rfl ?_
   refine (C_account_Check hI50.mlt (hG.adv hI50.adv) (hf11.adv ((hI12.addOwnA e17 hf19).trans ((hI21.addOwnA e26 hf28).trans ((Adv.of_ext e36).trans (Adv.of_ext e46))))) hz58).mono ?_
   rintro _ w59 ⟨rfl, r61, e60⟩
   refine ⟨_, rfl, ?_⟩
   have hI62 := hI50.ext e60
   refine s_mv rfl rfl ?_
   obtain ⟨z63, hz64, h52⟩ := bnd h52
   refine s_call rfl Tryd.call18 rfl ?_
   refine (C_ref03_Check hI62.mlt (f_l_0.adv hI62.adv) hz64).mono ?_
   rintro _ w65 ⟨rfl, r67, e66⟩
   refine ⟨_, rfl, ?_⟩
   have hI68 := hI62.ext e66
   refine s_eql rfl rfl rfl ?_
   refine s_mv rfl rfl ?_
   refine Reg.gsplit (t := 57) rfl (fun hg69 => ?_) (fun hg69 => ?_)
   ·replace h52 := cdT hg69 h52
    refine Reg.take rfl rfl ?_
    refine s_mv rfl rfl ?_
    refine Reg.take rfl rfl ?_
    refine s_mv rfl rfl ?_
    refine Reg.take rfl rfl ?_
    obtain ⟨z70, hz71, h52⟩ := bnd h52
    refine s_call rfl Tryd.call19 rfl ?_
    refine (C_ref03_SameReports (hI68.sel [] rfl).mlt (hI68.lendRd [] 1 rfl rfl) (hI68.lendRd [] 0 rfl rfl) hz71).mono ?_
    rintro _ w72 ⟨rfl, e73⟩
    refine ⟨_, rfl, ?_⟩
    have hI74 := hI68.ext e73
    refine s_pkT rfl rfl rfl ?_
    refine s_mv rfl rfl ?_
    refine Reg.gsplit (t := 62) rfl (fun hg75 => ?_) (fun hg75 => ?_)
    ·replace h52 := cdT hg75 h52
     refine Reg.take rfl rfl ?_
     refine s_mv rfl rfl ?_
     refine Reg.take rfl rfl ?_
     refine s_mv rfl rfl ?_
     refine Reg.take rfl rfl ?_
     refine s_eql rfl rfl rfl ?_
     refine s_pkT rfl rfl rfl ?_
     refine s_mv rfl rfl ?_
     refine Reg.gsplit (t := 67) rfl (fun hg76 => ?_) (fun hg76 => ?_)
     ·replace h52 := cdT hg76 h52
      refine Reg.take rfl rfl ?_
      refine s_mv rfl rfl ?_
      refine Reg.take rfl rfl ?_
      refine s_mv rfl rfl ?_
      refine Reg.take rfl rfl ?_
      refine s_eql rfl rfl rfl ?_
      refine s_pkT rfl rfl rfl ?_
      refine s_mv rfl rfl ?_
      refine Reg.gsplit (t := 72) rfl (fun hg77 => ?_) (fun hg77 => ?_)
      ·replace h52 := cdT hg77 h52
       refine Reg.take rfl rfl ?_
       refine s_mv rfl rfl ?_
       refine Reg.take rfl rfl ?_
       refine s_mv rfl rfl ?_
       refine Reg.take rfl rfl ?_
       refine s_eql rfl rfl rfl ?_
       refine s_pkT rfl rfl rfl ?_
       refine s_mv rfl rfl ?_
       refine Reg.gsplit (t := 77) rfl (fun hg78 => ?_) (fun hg78 => ?_)
       ·replace h52 := cdT hg78 h52
        refine Reg.take rfl rfl ?_
        refine s_mv rfl rfl ?_
        refine Reg.take rfl rfl ?_
        refine s_mv rfl rfl ?_
        refine Reg.take rfl rfl ?_
        refine s_eql rfl rfl rfl ?_
        refine s_pkT rfl rfl rfl ?_
        refine s_mv rfl rfl ?_
        refine Reg.gsplit (t := 82) rfl (fun hg79 => ?_) (fun hg79 => ?_)
        ·replace h52 := cdT hg79 h52
         refine Reg.take rfl rfl ?_
         refine s_mv rfl rfl ?_
         refine Reg.take rfl rfl ?_
         refine s_mv rfl rfl ?_
         refine Reg.take rfl rfl ?_
         obtain ⟨z80, hz81, h52⟩ := bnd h52
         refine s_call rfl Tryd.call19 rfl ?_
         refine (C_ref03_SameReports hI74.mlt (hf11.adv ((hI12.addOwnA e17 hf19).trans ((hI21.addOwnA e26 hf28).trans ((Adv.of_ext e36).trans ((Adv.of_ext e46).trans ((Adv.of_ext e60).trans ((Adv.of_ext e66).trans (Adv.of_ext e73)))))))) (f_l_0.adv hI74.adv) hz81).mono ?_
         rintro _ w82 ⟨rfl, e83⟩
         refine ⟨_, rfl, ?_⟩
         have hI84 := hI74.ext e83
         refine s_pkT rfl rfl rfl ?_
         refine s_as rfl rfl ?_
         refine Reg.nil ?_
         obtain rfl := Option.some.inj h52
         refine ⟨rfl, z80, ⟨hI84, ((Adv.of_ext e60).trans ((Adv.of_ext e66).trans ((Adv.of_ext e73).trans (Adv.of_ext e83)))), rfl⟩, Sub.cons rfl (Sub.nil _)⟩
        ·replace h52 := cdF hg79 h52
         refine Reg.pass rfl rfl rfl rfl ?_
         refine Reg.pass rfl rfl rfl rfl ?_
         refine Reg.pass rfl rfl rfl rfl ?_
         refine s_pkF rfl rfl rfl ?_
         refine s_as rfl rfl ?_
         refine Reg.nil ?_
         obtain rfl := Option.some.inj h52
         refine ⟨rfl, false, ⟨hI74, ((Adv.of_ext e60).trans ((Adv.of_ext e66).trans (Adv.of_ext e73))), rfl⟩, Sub.cons rfl (Sub.nil _)⟩
       ·replace h52 := cdF hg78 h52
        refine Reg.pass rfl rfl rfl rfl ?_
        refine Reg.pass rfl rfl rfl rfl ?_
        refine Reg.pass rfl rfl rfl rfl ?_
        refine s_pkF rfl rfl rfl ?_
        refine s_mv rfl rfl ?_
        refine Reg.pass rfl rfl rfl rfl ?_
        refine Reg.pass rfl rfl rfl rfl ?_
        refine Reg.pass rfl rfl rfl rfl ?_
        refine s_pkF rfl rfl rfl ?_
        refine s_as rfl rfl ?_
        refine Reg.nil ?_
        obtain rfl := Option.some.inj h52
        refine ⟨rfl, false, ⟨hI74, ((Adv.of_ext e60).trans ((Adv.of_ext e66).trans (Adv.of_ext e73))), rfl⟩, Sub.cons rfl (Sub.nil _)⟩
      ·replace h52 := cdF hg77 h52
       refine Reg.pass rfl rfl rfl rfl ?_
       refine Reg.pass rfl rfl rfl rfl ?_
       refine Reg.pass rfl rfl rfl rfl ?_
       refine s_pkF rfl rfl rfl ?_
       refine s_mv rfl rfl ?_
       refine Reg.pass rfl rfl rfl rfl ?_
       refine Reg.pass rfl rfl rfl rfl ?_
       refine Reg.pass rfl rfl rfl rfl ?_
       refine s_pkF rfl rfl rfl ?_
       refine s_mv rfl rfl ?_
       refine Reg.pass rfl rfl rfl rfl ?_
       refine Reg.pass rfl rfl rfl rfl ?_
       refine Reg.pass rfl rfl rfl rfl ?_
       refine s_pkF rfl rfl rfl ?_
       refine s_as rfl rfl ?_
       refine Reg.nil ?_
       obtain rfl := Option.some.inj h52
       refine ⟨rfl, false, ⟨hI74, ((Adv.of_ext e60).trans ((Adv.of_ext e66).trans (Adv.of_ext e73))), rfl⟩, Sub.cons rfl (Sub.nil _)⟩
     ·replace h52 := cdF hg76 h52
      refine Reg.pass rfl rfl rfl rfl ?_
      refine Reg.pass rfl rfl rfl rfl ?_
      refine Reg.pass rfl rfl rfl rfl ?_
      refine s_pkF rfl rfl rfl ?_
      refine s_mv rfl rfl ?_
      refine Reg.pass rfl rfl rfl rfl ?_
      refine Reg.pass rfl rfl rfl rfl ?_
      refine Reg.pass rfl rfl rfl rfl ?_
      refine s_pkF rfl rfl rfl ?_
      refine s_mv rfl rfl ?_
      refine Reg.pass rfl rfl rfl rfl ?_
      refine Reg.pass rfl rfl rfl rfl ?_
      refine Reg.pass rfl rfl rfl rfl ?_
      refine s_pkF rfl rfl rfl ?_
      refine s_mv rfl rfl ?_
      refine Reg.pass rfl rfl rfl rfl ?_
      refine Reg.pass rfl rfl rfl rfl ?_
      refine Reg.pass rfl rfl rfl rfl ?_
      refine s_pkF rfl rfl rfl ?_
      refine s_as rfl rfl ?_
      refine Reg.nil ?_
      obtain rfl := Option.some.inj h52
      refine ⟨rfl, false, ⟨hI74, ((Adv.of_ext e60).trans ((Adv.of_ext e66).trans (Adv.of_ext e73))), rfl⟩, Sub.cons rfl (Sub.nil _)⟩
    ·replace h52 := cdF hg75 h52
     refine Reg.pass rfl rfl rfl rfl ?_
     refine Reg.pass rfl rfl rfl rfl ?_
     refine Reg.pass rfl rfl rfl rfl ?_
     refine s_pkF rfl rfl rfl ?_
     refine s_mv rfl rfl ?_
     refine Reg.pass rfl rfl rfl rfl ?_
     refine Reg.pass rfl rfl rfl rfl ?_
     refine Reg.pass rfl rfl rfl rfl ?_
     refine s_pkF rfl rfl rfl ?_
     refine s_mv rfl rfl ?_
     refine Reg.pass rfl rfl rfl rfl ?_
     refine Reg.pass rfl rfl rfl rfl ?_
     refine Reg.pass rfl rfl rfl rfl ?_
     refine s_pkF rfl rfl rfl ?_
     refine s_mv rfl rfl ?_
     refine Reg.pass rfl rfl rfl rfl ?_
     refine Reg.pass rfl rfl rfl rfl ?_
     refine Reg.pass rfl rfl rfl rfl ?_
     refine s_pkF rfl rfl rfl ?_
     refine s_mv rfl rfl ?_
     refine Reg.pass rfl rfl rfl rfl ?_
     refine Reg.pass rfl rfl rfl rfl ?_
     refine Reg.pass rfl rfl rfl rfl ?_
     refine s_pkF rfl rfl rfl ?_
     refine s_as rfl rfl ?_
     refine Reg.nil ?_
     obtain rfl := Option.some.inj h52
     refine ⟨rfl, false, ⟨hI74, ((Adv.of_ext e60).trans ((Adv.of_ext e66).trans (Adv.of_ext e73))), rfl⟩, Sub.cons rfl (Sub.nil _)⟩
   ·replace h52 := cdF hg69 h52
    refine Reg.pass rfl rfl rfl rfl ?_
    refine Reg.pass rfl rfl rfl rfl ?_
    refine Reg.pass rfl rfl rfl rfl ?_
    refine s_pkF rfl rfl rfl ?_
    refine s_mv rfl rfl ?_
    refine Reg.pass rfl rfl rfl rfl ?_
    refine Reg.pass rfl rfl rfl rfl ?_
    refine Reg.pass rfl rfl rfl rfl ?_
    refine s_pkF rfl rfl rfl ?_
    refine s_mv rfl rfl ?_
    refine Reg.pass rfl rfl rfl rfl ?_
    refine Reg.pass rfl rfl rfl rfl ?_
    refine Reg.pass rfl rfl rfl rfl ?_
    refine s_pkF rfl rfl rfl ?_
    refine s_mv rfl rfl ?_
    refine Reg.pass rfl rfl rfl rfl ?_
    refine Reg.pass rfl rfl rfl rfl ?_
    refine Reg.pass rfl rfl rfl rfl ?_
    refine s_pkF rfl rfl rfl ?_
    refine s_mv rfl rfl ?_
    refine Reg.pass rfl rfl rfl rfl ?_
    refine Reg.pass rfl rfl rfl rfl ?_
    refine Reg.pass rfl rfl rfl rfl ?_
    refine s_pkF rfl rfl rfl ?_
    refine s_mv rfl rfl ?_
    refine Reg.pass rfl rfl rfl rfl ?_
    refine Reg.pass rfl rfl rfl rfl ?_
    refine Reg.pass rfl rfl rfl rfl ?_
    refine s_pkF rfl rfl rfl ?_
    refine s_as rfl rfl ?_
    refine Reg.nil ?_
    obtain rfl := Option.some.inj h52
    refine ⟨rfl, false, ⟨hI68, ((Adv.of_ext e60).trans (Adv.of_ext e66)), rfl⟩, Sub.cons rfl (Sub.nil _)⟩
  ·skip
   rintro x53 w54 ⟨hI55, hA56, rfl⟩
   refine cw_ret ?_
   obtain rfl := Option.some.inj h
   refine fin1 Tryd.results3 rfl ?_
   exact ⟨rfl, hI55.kp⟩
end Go.Proofs.YtepjkmoipjeghaaDoor
namespace Go.Proofs.YtepjkmoipjeghaaDoor
open Go Go.Sx
namespace S
theorem r_index91 {s : List Int} {f : Int → Option Bool} {g : Int → Bool} (h : ∀ x ∈ s, f x = some (g x)) (hl : s.length ≤ 4611686018427387904) : P.slices_ContainsFunc_67 s f = some (s.any g) := by
  have h1 : ∃ z, P.slices_IndexFunc_91 s f = some z ∧ decide (0 ≤ z) = s.any g := by
    show Ret (P.slices_IndexFunc_91 s f) fun z => decide (0 ≤ z) = s.any g
    unfold P.slices_IndexFunc_91
    refine Ret.bind (Ret.loop (fun t : Int => ∃ n : Nat, t = n ∧ n ≤ s.length ∧ ∀ x ∈ s.take n, g x = false) (fun t => s.length - t.toNat) ⟨0, rfl, Nat.zero_le _, fun x hx => by simp at hx⟩ ?_)
    rintro _ ⟨n, rfl, hn, hp⟩
    refine Ret.cond (fun h1 => ?_) fun h1 => ?_
    · have hlt : n < s.length := by have := of_decide_eq_true h1; omega
      have hy := List.getElem?_eq_getElem hlt
      refine Ret.bind (Ret.ixo hy (Ret.bind (Ret.val (h _ (List.getElem_mem hlt)) ?_)))
      refine Ret.cond (fun h2 => ?_) fun h2 => ?_
      · refine Ret.done (Ret.elimR (Ret.ok ?_))
        rw [decide_eq_true (by omega)]
        exact (List.any_eq_true.2 ⟨_, List.getElem_mem hlt, h2⟩).symm
      · refine Ret.bind (Ret.chk (by omega) (Ret.next ⟨⟨n + 1, by omega, by omega, fun x hx => ?_⟩, by omega⟩))
        rw [List.take_add_one, hy] at hx
        rcases List.mem_append.1 hx with hx | hx
        · exact hp x hx
        · have : x = s[n] := by simpa using hx
          rw [this]; exact h2
    · have hge : n = s.length := by have := of_decide_eq_false h1; omega
      subst hge
      refine Ret.done (Ret.elimL (Ret.ok ?_))
      rw [List.take_length] at hp
      have : s.any g = false := by
        rw [List.any_eq_false]
        intro x hx
        rw [hp x hx]; decide
      rw [this]; decide
  obtain ⟨z, h2, h3⟩ := h1
  unfold P.slices_ContainsFunc_67
  rw [h2, bindS, h3]
theorem r_index58 {s : List Report} {f : Report → Option Bool} {g : Report → Bool} (h : ∀ x ∈ s, f x = some (g x)) (hl : s.length ≤ 4611686018427387904) : P.slices_ContainsFunc_48 s f = some (s.any g) := by
  have h1 : ∃ z, P.slices_IndexFunc_58 s f = some z ∧ decide (0 ≤ z) = s.any g := by
    show Ret (P.slices_IndexFunc_58 s f) fun z => decide (0 ≤ z) = s.any g
    unfold P.slices_IndexFunc_58
    refine Ret.bind (Ret.loop (fun t : Int => ∃ n : Nat, t = n ∧ n ≤ s.length ∧ ∀ x ∈ s.take n, g x = false) (fun t => s.length - t.toNat) ⟨0, rfl, Nat.zero_le _, fun x hx => by simp at hx⟩ ?_)
    rintro _ ⟨n, rfl, hn, hp⟩
    refine Ret.cond (fun h1 => ?_) fun h1 => ?_
    · have hlt : n < s.length := by have := of_decide_eq_true h1; omega
      have hy := List.getElem?_eq_getElem hlt
      refine Ret.bind (Ret.ixo hy (Ret.bind (Ret.val (h _ (List.getElem_mem hlt)) ?_)))
      refine Ret.cond (fun h2 => ?_) fun h2 => ?_
      · refine Ret.done (Ret.elimR (Ret.ok ?_))
        rw [decide_eq_true (by omega)]
        exact (List.any_eq_true.2 ⟨_, List.getElem_mem hlt, h2⟩).symm
      · refine Ret.bind (Ret.chk (by omega) (Ret.next ⟨⟨n + 1, by omega, by omega, fun x hx => ?_⟩, by omega⟩))
        rw [List.take_add_one, hy] at hx
        rcases List.mem_append.1 hx with hx | hx
        · exact hp x hx
        · have : x = s[n] := by simpa using hx
          rw [this]; exact h2
    · have hge : n = s.length := by have := of_decide_eq_false h1; omega
      subst hge
      refine Ret.done (Ret.elimL (Ret.ok ?_))
      rw [List.take_length] at hp
      have : s.any g = false := by
        rw [List.any_eq_false]
        intro x hx
        rw [hp x hx]; decide
      rw [this]; decide
  obtain ⟨z, h2, h3⟩ := h1
  unfold P.slices_ContainsFunc_48
  rw [h2, bindS, h3]
def inB (lo hi n : Int) : Bool := decide (lo ≤ n ∧ n ≤ hi)
theorem p_in {lo hi : Int} {all : List Int} (hl : all.length ≤ 4611686018427387904) : P.account_in lo hi all = some (all.all (inB lo hi)) := by
  unfold P.account_in
  rw [r_index91 (g := fun n => !inB lo hi n) (fun x _ => ?_) hl, bindS]
  · congr 1
    rw [List.any_eq_not_all_not]
    simp
  · unfold P.account_in_in1
    by_cases h : x < lo
    · simp [h, inB] <;> omega
    · by_cases h2 : hi < x
      · simp [h, h2, inB] <;> omega
      · simp [h, h2, inB] <;> omega
theorem p_within {n lo hi : Int} : P.ref03_within n lo hi = some (inB lo hi n) := by
  unfold P.ref03_within
  by_cases h : lo ≤ n
  · by_cases h2 : n ≤ hi <;> simp [h, h2, inB]
  · simp [h, inB]
/-- The greatest Cents of a kind. -/
def most (k : Int) : Int := if k = 1 ∨ k = 7 ∨ k = 9 then 0 else if k = 5 then 10000 else 1000000000000
theorem p_glob {k : Int} (h : 1 ≤ k ∧ k ≤ 9) : ixo glob0 k = some (most k) := by
  have : k = 1 ∨ k = 2 ∨ k = 3 ∨ k = 4 ∨ k = 5 ∨ k = 6 ∨ k = 7 ∨ k = 8 ∨ k = 9 := by omega
  rcases this with rfl | rfl | rfl | rfl | rfl | rfl | rfl | rfl | rfl <;> rfl
def V (r : Report) : Prop := (1 ≤ r.kind ∧ r.kind ≤ 9) ∧ (0 ≤ r.id ∧ r.id ≤ 999999) ∧ (0 ≤ r.source ∧ r.source ≤ 999999) ∧ (0 ≤ r.account ∧ r.account ≤ 999999) ∧ (0 ≤ r.of_ ∧ r.of_ ≤ 999999) ∧ (0 ≤ r.made ∧ r.made ≤ 100000) ∧ (0 ≤ r.about ∧ r.about ≤ 100000) ∧ (0 ≤ r.cents ∧ r.cents ≤ most r.kind) ∧
  (r.kind ≤ 7 → r.of_ = 0) ∧ (8 ≤ r.kind → r.of_ ≠ r.id) ∧ (r.kind = 9 → r.about = 0)
theorem r_right {r : Report} (hr : InR r) {Q : Bool → Prop} (h1 : V r → Q true) (h2 : ¬ V r → Q false) : Ret (P.account_right r) Q := by
  unfold P.account_right
  have hk := hr.2.2.2.2.2.1
  rw [InK.u8] at hk
  refine Ret.bind (Ret.bind (Ret.chk (by omega) ?_))
  rw [p_in (by simp), bindS]
  by_cases c1 : 1 ≤ r.kind ∧ r.kind ≤ 9
  · refine Ret.condF (by simp [inB, c1]) ?_
    rw [p_in (by simp), bindS]
    by_cases c2 : (0 ≤ r.id ∧ r.id ≤ 999999) ∧ (0 ≤ r.source ∧ r.source ≤ 999999) ∧ (0 ≤ r.account ∧ r.account ≤ 999999) ∧ (0 ≤ r.of_ ∧ r.of_ ≤ 999999)
    · refine Ret.condF (by simp [inB, c2]) ?_
      rw [p_in (by simp), bindS]
      by_cases c3 : (0 ≤ r.made ∧ r.made ≤ 100000) ∧ (0 ≤ r.about ∧ r.about ≤ 100000)
      · refine Ret.condF (by simp [inB, c3]) ?_
        rw [p_glob c1, bindS, p_in (by simp), bindS]
        by_cases c4 : 0 ≤ r.cents ∧ r.cents ≤ most r.kind
        · refine Ret.ok (Ret.condF (by simp [inB, c4]) ?_)
          unfold P.account_fact
          rw [bindS]
          refine Ret.cond (fun h => ?_) fun h => ?_
          · have h := of_decide_eq_true h
            have h : r.kind ≤ 7 := h
            by_cases c5 : r.of_ = 0
            · rw [decide_eq_true c5]; exact Ret.ok (h1 ⟨c1, c2.1, c2.2.1, c2.2.2.1, c2.2.2.2, c3.1, c3.2, c4, fun _ => c5, fun h => by omega, fun h => by omega⟩)
            · rw [decide_eq_false c5]; exact Ret.ok (h2 fun hV => c5 (hV.2.2.2.2.2.2.2.2.1 h))
          · have h := of_decide_eq_false h
            have h : ¬ r.kind ≤ 7 := h
            by_cases c6 : r.kind = 9 ∧ r.about ≠ 0
            · refine Ret.bind (Ret.condT (by simp [c6]) (Ret.ok (Ret.condT (by simp [c6]) (Ret.ok (h2 fun hV => c6.2 (hV.2.2.2.2.2.2.2.2.2.2 c6.1))))))
            · have hx : (cond (decide (r.kind = 9)) (some (!decide (r.about = 0))) (some false) : Option Bool) = some false := by
                by_cases c7 : r.kind = 9
                · have : r.about = 0 := by
                    by_cases c8 : r.about = 0
                    · exact c8
                    · exact absurd ⟨c7, c8⟩ c6
                  simp [c7, this]
                · simp [c7]
              refine Ret.bind (Ret.val hx (Ret.condF rfl ?_))
              by_cases c5 : r.of_ = r.id
              · rw [decide_eq_true c5]; exact Ret.ok (h2 fun hV => hV.2.2.2.2.2.2.2.2.2.1 (by omega) c5)
              · rw [decide_eq_false c5]
                refine Ret.ok (h1 ⟨c1, c2.1, c2.2.1, c2.2.2.1, c2.2.2.2, c3.1, c3.2, c4, fun h => by omega, fun _ => c5, fun h9 => ?_⟩)
                by_cases c8 : r.about = 0
                · exact c8
                · exact absurd ⟨h9, c8⟩ c6
        · have hx : ([r.cents].all (inB 0 (most r.kind))) = false := by simp only [List.all_cons, List.all_nil, Bool.and_true, inB]; exact decide_eq_false c4
          rw [hx]
          exact Ret.ok (Ret.condT rfl (Ret.ok (h2 fun hV => c4 hV.2.2.2.2.2.2.2.1)))
      · refine Ret.condT ?_ (Ret.ok (Ret.condT rfl (Ret.ok (h2 fun hV => c3 ⟨hV.2.2.2.2.2.1, hV.2.2.2.2.2.2.1⟩))))
        simp only [List.all_cons, List.all_nil, Bool.and_true, inB, Bool.not_eq_true', ← Bool.decide_and]
        exact decide_eq_false c3
    · refine Ret.condT ?_ (Ret.ok (Ret.condT rfl (Ret.ok (h2 fun hV => c2 ⟨hV.2.1, hV.2.2.1, hV.2.2.2.1, hV.2.2.2.2.1⟩))))
      simp only [List.all_cons, List.all_nil, Bool.and_true, inB, Bool.not_eq_true', ← Bool.decide_and]
      exact decide_eq_false c2
  · refine Ret.condT ?_ (Ret.ok (Ret.condT rfl (Ret.ok (h2 fun hV => c1 hV.1))))
    simp only [List.all_cons, List.all_nil, Bool.and_true, inB, Bool.not_eq_true']
    exact decide_eq_false c1
theorem p_cents {k n : Int} (hk : 1 ≤ k ∧ k ≤ 8) : P.ref03_cents k n = some (inB 0 (most k) n) := by
  unfold P.ref03_cents
  rw [p_within, p_within]
  have : k = 1 ∨ k = 2 ∨ k = 3 ∨ k = 4 ∨ k = 5 ∨ k = 6 ∨ k = 7 ∨ k = 8 := by omega
  rcases this with rfl | rfl | rfl | rfl | rfl | rfl | rfl | rfl <;> simp [most, inB] <;> (rw [Bool.eq_iff_iff]; simp; omega)
theorem r_Valid {r : Report} (hr : InR r) {Q : Bool → Prop} (h1 : V r → Q true) (h2 : ¬ V r → Q false) : Ret (P.ref03_Valid r) Q := by
  unfold P.ref03_Valid
  have hk := hr.2.2.2.2.2.1
  rw [InK.u8] at hk
  have no : ∀ {a b n : Int} {K : Option Bool}, ¬ (a ≤ n ∧ n ≤ b) → Ret K Q → Ret (cond (!inB a b n) K (none : Option Bool)) Q := fun h hK => Ret.condT (by simp only [inB, Bool.not_eq_true']; exact decide_eq_false h) hK
  have yes : ∀ {a b n : Int}, a ≤ n ∧ n ≤ b → (!inB a b n) = false := fun h => by simp [inB, h]
  have nay : ∀ {a b n : Int}, ¬ (a ≤ n ∧ n ≤ b) → (!inB a b n) = true := fun h => by simp only [inB, Bool.not_eq_true']; exact decide_eq_false h
  simp only [p_within, bindS]
  by_cases c1 : 0 ≤ r.id ∧ r.id ≤ 999999
  · rw [yes c1, condF]
    by_cases c2 : 0 ≤ r.source ∧ r.source ≤ 999999
    · rw [yes c2, condF]
      by_cases c3 : 0 ≤ r.account ∧ r.account ≤ 999999
      · rw [yes c3, condF]
        by_cases c4 : 0 ≤ r.made ∧ r.made ≤ 100000
        · rw [yes c4, condF]
          by_cases c5 : 0 ≤ r.about ∧ r.about ≤ 100000
          · rw [yes c5, condF]
            refine Ret.bind (Ret.bind (Ret.chk (by omega) (Ret.ok ?_)))
            by_cases c6 : 1 ≤ r.kind ∧ r.kind ≤ 9
            · rw [yes c6, condF]
              refine Ret.cond (fun h => ?_) fun h => ?_
              · have h := of_decide_eq_true h
                rw [p_cents (by omega), bindS]
                by_cases c7 : 0 ≤ r.cents ∧ r.cents ≤ most r.kind
                · rw [show inB 0 (most r.kind) r.cents = true by simp [inB, c7], condT, bindS]
                  by_cases c8 : r.of_ = 0
                  · rw [decide_eq_true c8]; exact Ret.ok (h1 ⟨c6, c1, c2, c3, by omega, c4, c5, c7, fun _ => c8, fun h => by omega, fun h => by omega⟩)
                  · rw [decide_eq_false c8]; exact Ret.ok (h2 fun hV => c8 (hV.2.2.2.2.2.2.2.2.1 h))
                · rw [show inB 0 (most r.kind) r.cents = false from decide_eq_false c7, condF, bindS]
                  exact Ret.ok (h2 fun hV => c7 hV.2.2.2.2.2.2.2.1)
              · have h := of_decide_eq_false h
                by_cases c7 : 0 ≤ r.of_ ∧ r.of_ ≤ 999999
                · rw [yes c7, condF, bindS]
                  by_cases c8 : r.of_ = r.id
                  · rw [decide_eq_true c8, condT]; exact Ret.ok (h2 fun hV => hV.2.2.2.2.2.2.2.2.2.1 (by omega) c8)
                  · rw [decide_eq_false c8, condF]
                    by_cases c9 : r.kind = 8
                    · rw [decide_eq_true c9, condT]
                      have hm : most r.kind = 1000000000000 := by simp [most, c9]
                      by_cases d : 0 ≤ r.cents ∧ r.cents ≤ 1000000000000
                      · rw [show inB 0 1000000000000 r.cents = true by simp [inB, d]]
                        exact Ret.ok (h1 ⟨c6, c1, c2, c3, c7, c4, c5, by rw [hm]; exact d, fun h => by omega, fun _ => c8, fun h => by omega⟩)
                      · rw [show inB 0 1000000000000 r.cents = false from decide_eq_false d]
                        exact Ret.ok (h2 fun hV => d (by have := hV.2.2.2.2.2.2.2.1; rwa [hm] at this))
                    · rw [decide_eq_false c9, condF]
                      have h9 : r.kind = 9 := by omega
                      have hm : most r.kind = 0 := by simp [most, h9]
                      by_cases d : r.cents = 0
                      · rw [decide_eq_true d, condT, bindS]
                        by_cases e : r.about = 0
                        · rw [decide_eq_true e]; exact Ret.ok (h1 ⟨c6, c1, c2, c3, c7, c4, c5, by omega, fun h => by omega, fun _ => c8, fun _ => e⟩)
                        · rw [decide_eq_false e]; exact Ret.ok (h2 fun hV => e (hV.2.2.2.2.2.2.2.2.2.2 h9))
                      · rw [decide_eq_false d, condF, bindS]
                        exact Ret.ok (h2 fun hV => d (by have := hV.2.2.2.2.2.2.2.1; omega))
                · rw [nay c7, condT, bindS, condT]; exact Ret.ok (h2 fun hV => c7 hV.2.2.2.2.1)
            · rw [nay c6, condT]; exact Ret.ok (h2 fun hV => c6 hV.1)
          · rw [nay c5, condT, bindS, condT]; exact Ret.ok (h2 fun hV => c5 hV.2.2.2.2.2.2.1)
        · rw [nay c4, condT, bindS, condT]; exact Ret.ok (h2 fun hV => c4 hV.2.2.2.2.2.1)
      · rw [nay c3, condT, bindS, condT]; exact Ret.ok (h2 fun hV => c3 hV.2.2.2.1)
    · rw [nay c2, condT, bindS, condT]; exact Ret.ok (h2 fun hV => c2 hV.2.2.1)
  · rw [nay c1, condT, bindS, condT]; exact Ret.ok (h2 fun hV => c1 hV.2.1)
end S
end Go.Proofs.YtepjkmoipjeghaaDoor
namespace Go.Proofs.YtepjkmoipjeghaaDoor
open Go Go.Sx
namespace S
/-- Reports with the same Id are the same. -/
def Cons (l : List Report) : Prop := ∀ a ∈ l, ∀ b ∈ l, a.id = b.id → a = b
open Classical in
noncomputable def chkE (l : List Report) : Int := if 60 < l.length then 4 else if ∃ r ∈ l, ¬ V r then 30 else if ¬ Cons l then 31 else 0
theorem take_mem {l : List Report} {n : Nat} (h : n < l.length) {x : Report} : x ∈ l.take (n + 1) ↔ x ∈ l.take n ∨ x = l[n] := by
  rw [List.take_add_one, List.getElem?_eq_getElem h, List.mem_append]
  exact or_congr Iff.rfl (by simp only [Option.toList, List.mem_singleton])
theorem r_acheck {l : List Report} (hin : ∀ r ∈ l, InR r) {Q : Int → Prop} (h : Q (chkE l)) : Ret (P.account_Check l) Q := by
  classical
  unfold P.account_Check
  unfold chkE at h
  by_cases c1 : 60 < l.length
  · rw [if_pos c1] at h
    exact Ret.condT (decide_eq_true (by omega)) (Ret.ok h)
  rw [if_neg c1] at h
  refine Ret.condF (decide_eq_false (by omega)) ?_
  rw [r_index58 (g := fun r => decide (¬ V r)) (fun r hr => ?_) (by omega), bindS]
  · by_cases c2 : ∃ r ∈ l, ¬ V r
    · rw [if_pos c2] at h
      refine Ret.condT ?_ (Ret.ok h)
      obtain ⟨r, h1, h2⟩ := c2
      exact List.any_eq_true.2 ⟨r, h1, decide_eq_true h2⟩
    rw [if_neg c2] at h
    refine Ret.condF ?_ ?_
    · rw [List.any_eq_false]
      intro r hr hv
      exact c2 ⟨r, hr, of_decide_eq_true hv⟩
    refine Ret.bind (Ret.loop (fun t : Int × FMap Int Report => ∃ n : Nat, t.1 = n ∧ n ≤ l.length ∧ Cons (l.take n) ∧ ∀ i r, t.2 i = some r ↔ r ∈ l.take n ∧ r.id = i) (fun t => l.length - t.1.toNat) ⟨0, rfl, Nat.zero_le _, fun a ha => by simp at ha, fun i r => by simp [fnone]⟩ ?_)
    rintro ⟨_, m⟩ ⟨n, rfl, hn, hc, hm⟩
    dsimp only at hm ⊢
    refine Ret.cond (fun h1 => ?_) fun h1 => ?_
    · have hlt : n < l.length := by have := of_decide_eq_true h1; omega
      refine Ret.bind (Ret.ixo (List.getElem?_eq_getElem hlt) (Ret.bind ?_))
      have eta : ∀ r : Report, Report.mk r.id r.source r.account r.made r.about r.kind r.cents r.of_ = r := fun _ => rfl
      cases hq : m l[n].id with
      | none =>
        refine Ret.ok (Ret.bind (Ret.condF rfl (Ret.ok (Ret.condF rfl (Ret.bind (Ret.chk (by omega) (Ret.next ⟨⟨n + 1, by dsimp only; omega, by omega, ?_, fun i r => ?_⟩, by dsimp only; omega⟩)))))))
        · intro a ha b hb hab
          rw [take_mem hlt] at ha hb
          have no : ∀ x ∈ l.take n, x.id ≠ l[n].id := fun x hx he => by rw [(hm l[n].id x).2 ⟨hx, he⟩] at hq; cases hq
          rcases ha with ha | rfl <;> rcases hb with hb | rfl
          · exact hc a ha b hb hab
          · exact absurd hab (no a ha)
          · exact absurd hab.symm (no b hb)
          · rfl
        · rw [take_mem hlt]
          dsimp only [fput]
          by_cases e : i = l[n].id
          · subst e
            simp only [if_true]
            constructor
            · intro h9
              have := Option.some.inj h9
              exact ⟨.inr this.symm, by rw [← this]⟩
            · rintro ⟨h9 | h9, h8⟩
              · rw [(hm _ r).2 ⟨h9, h8⟩] at hq; cases hq
              · rw [h9]
          · simp only [e, if_false]
            rw [hm]
            constructor
            · rintro ⟨h9, h8⟩; exact ⟨.inl h9, h8⟩
            · rintro ⟨h9 | h9, h8⟩
              · exact ⟨h9, h8⟩
              · exact absurd (by rw [← h8, h9]) e
      | some y =>
        obtain ⟨hy, hyi⟩ := (hm _ y).1 hq
        refine Ret.ok (Ret.bind (Ret.condT rfl (Ret.ok ?_)))
        simp only [Option.getD_some, eta]
        by_cases e : y = l[n]
        · rw [decide_eq_true e]
          refine Ret.condF rfl (Ret.bind (Ret.chk (by omega) (Ret.next ⟨⟨n + 1, by dsimp only; omega, by omega, ?_, fun i r => ?_⟩, by dsimp only; omega⟩)))
          · intro a ha b hb hab
            rw [take_mem hlt] at ha hb
            rw [← e] at ha hb
            have ha : a ∈ l.take n := ha.elim id fun h => h ▸ hy
            have hb : b ∈ l.take n := hb.elim id fun h => h ▸ hy
            exact hc a ha b hb hab
          · rw [take_mem hlt]
            dsimp only [fput]
            by_cases e2 : i = l[n].id
            · subst e2
              simp only [if_true]
              constructor
              · intro h9
                have := Option.some.inj h9
                exact ⟨.inr this.symm, by rw [← this]⟩
              · rintro ⟨h9 | h9, h8⟩
                · rw [hc r h9 y hy (by rw [h8, hyi]), e]
                · rw [h9]
            · simp only [e2, if_false]
              rw [hm]
              constructor
              · rintro ⟨h9, h8⟩; exact ⟨.inl h9, h8⟩
              · rintro ⟨h9 | h9, h8⟩
                · exact ⟨h9, h8⟩
                · exact absurd (by rw [← h8, h9]) e2
        · rw [decide_eq_false e]
          refine Ret.condT rfl (Ret.done (Ret.elimR (Ret.ok ?_)))
          rw [if_pos] at h
          · exact h
          · intro hC
            exact e (hC y (List.mem_of_mem_take hy) l[n] (List.getElem_mem hlt) hyi)
    · have hge : n = l.length := by have := of_decide_eq_false h1; omega
      subst hge
      rw [List.take_length] at hc
      refine Ret.done (Ret.elimL (Ret.ok ?_))
      rwa [if_neg (fun h => h hc)] at h
  · unfold P.account_Check_in1
    have : P.account_right r = some (decide (V r)) := by
      obtain ⟨b, h1, h2⟩ := r_right (hin r hr) (Q := fun b => b = decide (V r)) (fun h => (decide_eq_true h).symm) (fun h => (decide_eq_false h).symm)
      rw [h1, h2]
    show Option.bind (P.account_right r) _ = _
    rw [this, bindS]
    simp
theorem r_rcheck {l : List Report} (hin : ∀ r ∈ l, InR r) {Q : Int → Prop} (h : Q (chkE l)) : Ret (P.ref03_Check l) Q := by
  classical
  unfold P.ref03_Check
  unfold chkE at h
  by_cases c1 : 60 < l.length
  · rw [if_pos c1] at h
    exact Ret.condT (decide_eq_true (by omega)) (Ret.ok h)
  rw [if_neg c1] at h
  refine Ret.condF (decide_eq_false (by omega)) ?_
  refine Ret.bind (Ret.loop (fun t : Int => ∃ n : Nat, t = n ∧ n ≤ l.length ∧ ∀ r ∈ l.take n, V r) (fun t => l.length - t.toNat) ⟨0, rfl, Nat.zero_le _, fun a ha => by simp at ha⟩ ?_)
  rintro _ ⟨n, rfl, hn, hv⟩
  refine Ret.cond (fun h1 => ?_) fun h1 => ?_
  · have hlt : n < l.length := by have := of_decide_eq_true h1; omega
    refine Ret.bind (Ret.ixo (List.getElem?_eq_getElem hlt) (Ret.bind (r_Valid (hin _ (List.getElem_mem hlt)) (fun hV => ?_) fun hV => ?_)))
    · refine Ret.condF rfl (Ret.bind (Ret.chk (by omega) (Ret.next ⟨⟨n + 1, by omega, by omega, fun r hr => ?_⟩, by omega⟩)))
      rw [take_mem hlt] at hr
      rcases hr with hr | rfl
      · exact hv r hr
      · exact hV
    · refine Ret.condT rfl (Ret.done (Ret.elimR (Ret.ok ?_)))
      rwa [if_pos ⟨_, List.getElem_mem hlt, hV⟩] at h
  have hge : n = l.length := by have := of_decide_eq_false h1; omega
  subst hge
  rw [List.take_length] at hv
  rw [if_neg (fun ⟨r, h1, h2⟩ => h2 (hv r h1))] at h
  clear hn h1 hv
  refine Ret.done (Ret.elimL (Ret.bind (Ret.loop (fun t : Int => ∃ n : Nat, t = n ∧ n ≤ l.length ∧ Cons (l.take n)) (fun t => l.length - t.toNat) ⟨0, rfl, Nat.zero_le _, fun a ha => by simp at ha⟩ ?_)))
  rintro _ ⟨n, rfl, hn, hc⟩
  refine Ret.cond (fun h1 => ?_) fun h1 => ?_
  · have hlt : n < l.length := by have := of_decide_eq_true h1; omega
    refine Ret.bind (Ret.loop (fun t : Int => ∃ k : Nat, t = k ∧ k ≤ n ∧ ∀ r ∈ l.take k, r.id = l[n].id → r = l[n]) (fun t => n - t.toNat) ⟨0, rfl, Nat.zero_le _, fun a ha => by simp at ha⟩ ?_)
    rintro _ ⟨k, rfl, hk, hp⟩
    refine Ret.cond (fun h2 => ?_) fun h2 => ?_
    · have hkn : k < n := by have := of_decide_eq_true h2; omega
      have hkl : k < l.length := by omega
      have g1 := List.getElem?_eq_getElem hlt
      have g2 := List.getElem?_eq_getElem hkl
      refine Ret.bind (Ret.bind (Ret.ixo g1 (Ret.bind (Ret.ixo g2 ?_))))
      by_cases e : l[n].id = l[k].id
      · rw [decide_eq_true e]
        refine Ret.condT rfl (Ret.bind (Ret.ixo g1 (Ret.bind (Ret.ixo g2 (Ret.ok ?_)))))
        by_cases e2 : l[n] = l[k]
        · rw [decide_eq_true e2]
          refine Ret.condF rfl (Ret.bind (Ret.chk (by omega) (Ret.next ⟨⟨k + 1, by omega, by omega, fun r hr he => ?_⟩, by omega⟩)))
          rw [take_mem hkl] at hr
          rcases hr with hr | rfl
          · exact hp r hr he
          · exact e2.symm
        · rw [decide_eq_false e2]
          refine Ret.condT rfl (Ret.done (Ret.elimR (Ret.done (Ret.elimR (Ret.ok ?_)))))
          rwa [if_pos (fun hC => e2 (hC _ (List.getElem_mem hlt) _ (List.getElem_mem hkl) e))] at h
      · rw [decide_eq_false e]
        refine Ret.condF rfl (Ret.ok (Ret.condF rfl (Ret.bind (Ret.chk (by omega) (Ret.next ⟨⟨k + 1, by omega, by omega, fun r hr he => ?_⟩, by omega⟩)))))
        rw [take_mem hkl] at hr
        rcases hr with hr | rfl
        · exact hp r hr he
        · exact absurd he.symm e
    · have hge : k = n := by have := of_decide_eq_false h2; omega
      subst hge
      refine Ret.done (Ret.elimL (Ret.bind (Ret.chk (by omega) (Ret.next ⟨⟨k + 1, by omega, by omega, ?_⟩, by omega⟩))))
      intro a ha b hb hab
      rw [take_mem hlt] at ha hb
      rcases ha with ha | rfl <;> rcases hb with hb | rfl
      · exact hc a ha b hb hab
      · exact hp a ha hab
      · exact (hp b hb hab.symm).symm
      · rfl
  · have hge : n = l.length := by have := of_decide_eq_false h1; omega
    subst hge
    rw [List.take_length] at hc
    refine Ret.done (Ret.elimL (Ret.ok ?_))
    rwa [if_neg (fun h => h hc)] at h
/-- Where a report is. -/
theorem r_At {l : List Report} (hl : l.length ≤ 1000000) {i : Int} {Q : Int → Prop} (h1 : ∀ (n : Nat) r, l[n]? = some r → r.id = i → Q n) (h2 : (∀ r ∈ l, r.id ≠ i) → Q (-1)) : Ret (P.ref03_At l i) Q := by
  unfold P.ref03_At
  refine Ret.bind (Ret.loop (fun t : Int => ∃ n : Nat, t = n ∧ n ≤ l.length ∧ ∀ r ∈ l.take n, r.id ≠ i) (fun t => l.length - t.toNat) ⟨0, rfl, Nat.zero_le _, fun a ha => by simp at ha⟩ ?_)
  rintro _ ⟨n, rfl, hn, hv⟩
  refine Ret.cond (fun h => ?_) fun h => ?_
  · have hlt : n < l.length := by have := of_decide_eq_true h; omega
    have g := List.getElem?_eq_getElem hlt
    refine Ret.bind (Ret.ixo g ?_)
    refine Ret.cond (fun e => ?_) fun e => ?_
    · exact Ret.done (Ret.elimR (Ret.ok (h1 n _ g (of_decide_eq_true e))))
    · refine Ret.bind (Ret.chk (by omega) (Ret.next ⟨⟨n + 1, by omega, by omega, fun r hr => ?_⟩, by omega⟩))
      rw [take_mem hlt] at hr
      rcases hr with hr | rfl
      · exact hv r hr
      · exact of_decide_eq_false e
  · have hge : n = l.length := by have := of_decide_eq_false h; omega
    subst hge
    rw [List.take_length] at hv
    exact Ret.done (Ret.elimL (Ret.ok (h2 hv)))
/-- What is known. -/
structure Kn (l : List Report) (known : Int) (K : List Report) : Prop where
  mem : ∀ r, r ∈ K ↔ r ∈ l ∧ r.made ≤ known
  nd : (K.map (·.id)).Nodup
  len : K.length ≤ l.length
theorem r_Known {l : List Report} (hl : l.length ≤ 60) (hC : Cons l) {known : Int} {Q : List Report → Prop} (h : ∀ K, Kn l known K → Q K) : Ret (P.ref03_Known l known) Q := by
  unfold P.ref03_Known
  refine Ret.bind (Ret.loop (fun t : List Report × Int => ∃ n : Nat, t.2 = n ∧ n ≤ l.length ∧ (∀ r, r ∈ t.1 ↔ r ∈ l.take n ∧ r.made ≤ known) ∧ (t.1.map (·.id)).Nodup ∧ t.1.length ≤ n) (fun t => l.length - t.2.toNat) ⟨0, rfl, Nat.zero_le _, by simp, by simp, Nat.zero_le _⟩ ?_)
  rintro ⟨K, _⟩ ⟨n, rfl, hn, hm, hnd, hlen⟩
  dsimp only at hm hnd hlen ⊢
  refine Ret.cond (fun h1 => ?_) fun h1 => ?_
  · have hlt : n < l.length := by have := of_decide_eq_true h1; omega
    have g := List.getElem?_eq_getElem hlt
    refine Ret.bind (Ret.bind (Ret.bind (Ret.ixo g ?_)))
    have stay : (l[n].made ≤ known → l[n] ∈ K) → Ret (Option.bind (chk .i64 ((n : Int) + 1)) fun n68 => some (Sum.inl (K, n68) : (List Report × Int) ⊕ List Report)) (Nxt (fun s' : List Report × Int => (∃ n : Nat, s'.2 = n ∧ n ≤ l.length ∧ (∀ r, r ∈ s'.1 ↔ r ∈ l.take n ∧ r.made ≤ known) ∧ (s'.1.map (·.id)).Nodup ∧ s'.1.length ≤ n) ∧ l.length - s'.2.toNat < l.length - (n : Int).toNat) fun a => Ret (some a) Q) := fun hs => by
      refine Ret.bind (Ret.chk (by omega) (Ret.next ⟨⟨n + 1, by dsimp only; omega, by omega, fun r => ?_, hnd, by dsimp only; omega⟩, by dsimp only; omega⟩))
      dsimp only
      rw [take_mem hlt, hm]
      constructor
      · rintro ⟨h1, h2⟩; exact ⟨.inl h1, h2⟩
      · rintro ⟨h1 | h1, h2⟩
        · exact ⟨h1, h2⟩
        · subst h1; exact (hm _).1 (hs h2)
    refine Ret.cond (fun e => ?_) fun e => ?_
    · have e := of_decide_eq_true e
      refine Ret.bind (Ret.ixo g (Ret.bind (r_At (by omega) (fun k r hk he => ?_) fun hno => ?_)))
      · refine Ret.ok ?_
        rw [decide_eq_false (by omega)]
        refine Ret.bind (Ret.condF rfl (Ret.ok (Ret.ok (stay fun _ => ?_))))
        have hr := List.mem_of_getElem? hk
        have := hC r (List.mem_of_mem_take ((hm r).1 hr).1) l[n] (List.getElem_mem hlt) he
        rw [← this]; exact hr
      · refine Ret.ok ?_
        rw [decide_eq_true (by omega)]
        refine Ret.bind (Ret.condT rfl (Ret.bind (Ret.ixo g (Ret.bind (Ret.appo (by simp; omega) (by simp; omega) (Ret.ok (Ret.ok (Ret.bind (Ret.chk (by omega) (Ret.next ⟨⟨n + 1, by dsimp only; omega, by omega, fun r => ?_, ?_, by simp; omega⟩, by dsimp only; omega⟩))))))))))
        · dsimp only
          rw [take_mem hlt, List.mem_append, hm]
          constructor
          · rintro (⟨h1, h2⟩ | h1)
            · exact ⟨.inl h1, h2⟩
            · have : r = l[n] := by simpa using h1
              exact ⟨.inr this, by rw [this]; exact e⟩
          · rintro ⟨h1 | h1, h2⟩
            · exact .inl ⟨h1, h2⟩
            · exact .inr (by simp [h1])
        · dsimp only
          rw [List.map_append, List.nodup_append]
          refine ⟨hnd, by simp, fun x hx y hy => ?_⟩
          obtain ⟨r, hr, rfl⟩ := List.mem_map.1 hx
          have : y = l[n].id := by simpa using hy
          rw [this]; exact hno r hr
    · have e := of_decide_eq_false e
      exact Ret.ok (Ret.bind (Ret.condF rfl (Ret.ok (Ret.ok (stay fun h => absurd h e)))))
  · have hge : n = l.length := by have := of_decide_eq_false h1; omega
    subst hge
    rw [List.take_length] at hm
    exact Ret.done (Ret.ok (h K ⟨hm, hnd, hlen⟩))
end S
end Go.Proofs.YtepjkmoipjeghaaDoor
namespace Go.Proofs.YtepjkmoipjeghaaDoor
open Go Go.Sx
namespace S
def Aim (K : List Report) (r o : Report) : Prop := o ∈ K ∧ o.id = r.of_ ∧ o.source = r.source ∧ o.account = r.account
def Wd (K : List Report) (i : Int) (r : Report) : Prop := r ∈ K ∧ r.kind = 9 ∧ r.of_ = i ∧ ∃ o, Aim K r o ∧ o.kind ≠ 9
/-- The least Id of those of which p is so, of some. -/
def Least (p : Report → Prop) (l : List Report) : Option Int → Prop
  | none => ∀ r ∈ l, ¬ p r
  | some z => ∃ r ∈ l, p r ∧ r.id = z ∧ ∀ s ∈ l, p s → z ≤ s.id
/-- The latest one of those of which p is so, of some. -/
def Latest (p : Report → Prop) (l : List Report) : Option Report → Prop
  | none => ∀ r ∈ l, ¬ p r
  | some r => r ∈ l ∧ p r ∧ ∀ s ∈ l, p s → s.made < r.made ∨ s.made = r.made ∧ s.id ≤ r.id
def WdR (K : List Report) (i : Int) (z : Option Int) : Prop := Least (Wd K i) K z
def Co (K : List Report) (o r : Report) : Prop := r.kind = 8 ∧ Aim K r o ∧ (0 ≤ r.cents ∧ r.cents ≤ most o.kind) ∧ WdR K r.id none
/-- What was known, with what is so of it. -/
structure Ok (K : List Report) : Prop where
  v : ∀ r ∈ K, V r
  nd : (K.map (·.id)).Nodup
  len : K.length ≤ 60
theorem Ok.one {K : List Report} (h : Ok K) {a b : Report} (ha : a ∈ K) (hb : b ∈ K) (e : a.id = b.id) : a = b := by
  obtain ⟨i, hi⟩ := List.getElem?_of_mem ha
  obtain ⟨j, hj⟩ := List.getElem?_of_mem hb
  have hi' : (K.map (·.id))[i]? = some a.id := by simp [hi]
  have hj' : (K.map (·.id))[j]? = some a.id := by simp [hj, e]
  have : i = j := (List.getElem?_inj (get_lt hi') h.nd).1 (hi'.trans hj'.symm)
  subst this
  rw [hi] at hj
  exact Option.some.inj hj
theorem Least.uniq {p : Report → Prop} {l : List Report} {a b : Option Int} (h1 : Least p l a) (h2 : Least p l b) : a = b := by
  cases a with
  | none =>
    cases b with
    | none => rfl
    | some y => obtain ⟨r, hr, hp, _⟩ := h2; exact absurd hp (h1 r hr)
  | some x =>
    cases b with
    | none => obtain ⟨r, hr, hp, _⟩ := h1; exact absurd hp (h2 r hr)
    | some y =>
      obtain ⟨r, hr, hp, rfl, hx⟩ := h1
      obtain ⟨s, hs, hq, rfl, hy⟩ := h2
      have := hx s hs hq
      have := hy r hr hp
      rw [show r.id = s.id by omega]
theorem Least.congr {p q : Report → Prop} {l l' : List Report} {a : Option Int} (h : Least p l a) (e : ∀ r, r ∈ l ∧ p r ↔ r ∈ l' ∧ q r) : Least q l' a := by
  cases a with
  | none =>
    intro r hr hq
    obtain ⟨h1, h2⟩ := (e r).2 ⟨hr, hq⟩
    exact h r h1 h2
  | some x =>
    obtain ⟨r, hr, hp, hx, hm⟩ := h
    obtain ⟨h1, h2⟩ := (e r).1 ⟨hr, hp⟩
    exact ⟨r, h1, h2, hx, fun s hs hq => by
      obtain ⟨h3, h4⟩ := (e s).2 ⟨hs, hq⟩
      exact hm s h3 h4⟩
theorem Latest.congr {p q : Report → Prop} {l l' : List Report} {a : Option Report} (h : Latest p l a) (e : ∀ r, r ∈ l ∧ p r ↔ r ∈ l' ∧ q r) : Latest q l' a := by
  cases a with
  | none =>
    intro r hr hq
    obtain ⟨h1, h2⟩ := (e r).2 ⟨hr, hq⟩
    exact h r h1 h2
  | some x =>
    obtain ⟨hr, hp, hm⟩ := h
    obtain ⟨h1, h2⟩ := (e x).1 ⟨hr, hp⟩
    exact ⟨h1, h2, fun s hs hq => by
      obtain ⟨h3, h4⟩ := (e s).2 ⟨hs, hq⟩
      exact hm s h3 h4⟩
theorem Latest.uniq {K : List Report} (hK : Ok K) {p : Report → Prop} {a b : Option Report} (h1 : Latest p K a) (h2 : Latest p K b) : a = b := by
  cases a with
  | none =>
    cases b with
    | none => rfl
    | some y => exact absurd h2.2.1 (h1 y h2.1)
  | some x =>
    cases b with
    | none => exact absurd h1.2.1 (h2 x h1.1)
    | some y =>
      obtain ⟨hx, px, mx⟩ := h1
      obtain ⟨hy, py, my⟩ := h2
      have := mx y hy py
      have := my x hx px
      rw [hK.one hx hy (by omega)]
/-- One more is looked at. -/
theorem Least.push {p : Report → Prop} {l : List Report} {z : Option Int} (h : Least p l z) (x : Report) : (¬ p x → Least p (l ++ [x]) z) ∧ (p x → (z = none ∨ ∃ y, z = some y ∧ x.id < y) → Least p (l ++ [x]) (some x.id)) ∧ (p x → ∀ y, z = some y → y ≤ x.id → Least p (l ++ [x]) z) := by
  have mem : ∀ s, s ∈ l ++ [x] ↔ s ∈ l ∨ s = x := fun s => by simp
  refine ⟨fun hx => ?_, fun hx hz => ?_, fun hx y hy hle => ?_⟩
  · cases z with
    | none =>
      intro r hr
      rcases (mem r).1 hr with h1 | rfl
      · exact h r h1
      · exact hx
    | some y =>
      obtain ⟨r, hr, hp, he, hm⟩ := h
      exact ⟨r, (mem r).2 (.inl hr), hp, he, fun s hs hq => by
        rcases (mem s).1 hs with h1 | rfl
        · exact hm s h1 hq
        · exact absurd hq hx⟩
  · refine ⟨x, (mem x).2 (.inr rfl), hx, rfl, fun s hs hq => ?_⟩
    rcases (mem s).1 hs with h1 | rfl
    · rcases hz with rfl | ⟨y, rfl, hlt⟩
      · exact absurd hq (h s h1)
      · obtain ⟨r, hr, hp, he, hm⟩ := h
        have := hm s h1 hq
        omega
    · exact Int.le_refl _
  · subst hy
    obtain ⟨r, hr, hp, he, hm⟩ := h
    exact ⟨r, (mem r).2 (.inl hr), hp, he, fun s hs hq => by
      rcases (mem s).1 hs with h1 | rfl
      · exact hm s h1 hq
      · exact hle⟩
theorem Latest.push {p : Report → Prop} {l : List Report} {z : Option Report} (h : Latest p l z) (x : Report) : (¬ p x → Latest p (l ++ [x]) z) ∧ (p x → (z = none ∨ ∃ y, z = some y ∧ (y.made < x.made ∨ y.made = x.made ∧ y.id < x.id)) → Latest p (l ++ [x]) (some x)) ∧ (p x → ∀ y, z = some y → ¬ (y.made < x.made ∨ y.made = x.made ∧ y.id < x.id) → Latest p (l ++ [x]) z) := by
  have mem : ∀ s, s ∈ l ++ [x] ↔ s ∈ l ∨ s = x := fun s => by simp
  refine ⟨fun hx => ?_, fun hx hz => ?_, fun hx y hy hle => ?_⟩
  · cases z with
    | none =>
      intro r hr
      rcases (mem r).1 hr with h1 | rfl
      · exact h r h1
      · exact hx
    | some y =>
      obtain ⟨hr, hp, hm⟩ := h
      exact ⟨(mem y).2 (.inl hr), hp, fun s hs hq => by
        rcases (mem s).1 hs with h1 | rfl
        · exact hm s h1 hq
        · exact absurd hq hx⟩
  · refine ⟨(mem x).2 (.inr rfl), hx, fun s hs hq => ?_⟩
    rcases (mem s).1 hs with h1 | rfl
    · rcases hz with rfl | ⟨y, rfl, hlt⟩
      · exact absurd hq (h s h1)
      · have := h.2.2 s h1 hq
        omega
    · omega
  · subst hy
    obtain ⟨hr, hp, hm⟩ := h
    exact ⟨(mem y).2 (.inl hr), hp, fun s hs hq => by
      rcases (mem s).1 hs with h1 | rfl
      · exact hm s h1 hq
      · omega⟩
/-! The reference. -/
section
variable {K : List Report} (hK : Ok K)
include hK
theorem r_aims {r : Report} {Q : Bool → Prop} (h1 : ∀ o, Aim K r o → Q true) (h2 : (∀ o, ¬ Aim K r o) → Q false) : Ret (P.ref03_aims K r) Q := by
  have hl := hK.len
  unfold P.ref03_aims
  refine Ret.bind (r_At (by omega) (fun n o hn he => ?_) fun hno => ?_)
  · rw [decide_eq_true (show (0 : Int) ≤ n by omega)]
    refine Ret.bind (Ret.condT rfl (Ret.bind (Ret.ixo hn ?_)))
    have ho := List.mem_of_getElem? hn
    by_cases c1 : o.source = r.source
    · rw [decide_eq_true c1]
      refine Ret.condT rfl (Ret.bind (Ret.ixo hn (Ret.ok (Ret.ok ?_))))
      by_cases c2 : o.account = r.account
      · rw [decide_eq_true c2]; exact h1 o ⟨ho, he, c1, c2⟩
      · rw [decide_eq_false c2]
        exact h2 fun o' ha => c2 (by rw [← hK.one ha.1 ho (by rw [ha.2.1, he])]; exact ha.2.2.2)
    · rw [decide_eq_false c1]
      exact Ret.condF rfl (Ret.ok (Ret.ok (h2 fun o' ha => c1 (by rw [← hK.one ha.1 ho (by rw [ha.2.1, he])]; exact ha.2.2.1))))
  · rw [decide_eq_false (by omega)]
    exact Ret.bind (Ret.condF rfl (Ret.ok (Ret.ok (h2 fun o ha => hno o ha.1 ha.2.1))))
theorem take_push {l : List Report} {n : Nat} (h : n < l.length) : l.take (n + 1) = l.take n ++ [l[n]] := by
  rw [List.take_add_one, List.getElem?_eq_getElem h]; rfl
theorem r_withdrawn {o : Report} (ho : o ∈ K) {Q : Int → Prop} (h : ∀ z, WdR K o.id z → Q (z.getD (-1))) : Ret (P.ref03_withdrawn K o.id) Q := by
  have hl := hK.len
  unfold P.ref03_withdrawn
  refine Ret.bind (r_At (by omega) (fun k o' hk he => ?_) fun hno => absurd rfl (hno o ho))
  obtain rfl := hK.one (List.mem_of_getElem? hk) ho he
  refine Ret.bind (Ret.loop (fun t : Int × Int => ∃ n : Nat, t.2 = n ∧ n ≤ K.length ∧ ∃ z, t.1 = z.getD (-1) ∧ Least (Wd K o'.id) (K.take n) z) (fun t => K.length - t.2.toNat) ⟨0, rfl, Nat.zero_le _, none, rfl, fun r hr => by simp at hr⟩ ?_)
  rintro ⟨_, _⟩ ⟨n, rfl, hn, z, rfl, hz⟩
  dsimp only
  refine Ret.cond (fun h1 => ?_) fun h1 => ?_
  · have hlt : n < K.length := by have := of_decide_eq_true h1; omega
    have g := List.getElem?_eq_getElem hlt
    have hr : K[n] ∈ K := List.getElem_mem hlt
    obtain ⟨p1, p2, p3⟩ := hz.push K[n]
    rw [← take_push hK hlt] at p1 p2 p3
    have fin : ∀ (z' : Option Int), Least (Wd K o'.id) (K.take (n + 1)) z' → Ret (Option.bind (chk .i64 ((n : Int) + 1)) fun n108 => some (Sum.inl (z'.getD (-1), n108) : (Int × Int) ⊕ Int)) (Nxt (fun s' : Int × Int => (∃ n : Nat, s'.2 = n ∧ n ≤ K.length ∧ ∃ z, s'.1 = z.getD (-1) ∧ Least (Wd K o'.id) (K.take n) z) ∧ K.length - s'.2.toNat < K.length - (n : Int).toNat) fun a => Ret (some a) Q) := fun z' hz' =>
      Ret.bind (Ret.chk (by omega) (Ret.next ⟨⟨n + 1, by dsimp only; omega, by omega, z', rfl, hz'⟩, by dsimp only; omega⟩))
    have no : ¬ Wd K o'.id K[n] → Ret (Option.bind (Option.bind (Option.bind (cond false (Option.bind (ixo K (n : Int)) fun y92 => some y92.id) (some (z.getD (-1)))) fun x106 => some x106) fun x107 => Option.bind (chk .i64 ((n : Int) + 1)) fun n108 => some (Sum.inl (x107, n108) : (Int × Int) ⊕ Int)) fun x => some x) (Nxt (fun s' : Int × Int => (∃ n : Nat, s'.2 = n ∧ n ≤ K.length ∧ ∃ z, s'.1 = z.getD (-1) ∧ Least (Wd K o'.id) (K.take n) z) ∧ K.length - s'.2.toNat < K.length - (n : Int).toNat) fun a => Ret (some a) Q) := fun hn => by
      simp only [condF, bindS]
      refine Ret.bind (Ret.mono (fin z (p1 hn)) fun a ha => Ret.ok ha)
    refine Ret.bind (Ret.bind (Ret.bind (Ret.ixo g ?_)))
    by_cases c1 : K[n].kind = 9
    · rw [decide_eq_true c1]
      refine Ret.condT rfl (Ret.bind (Ret.ixo g ?_))
      by_cases c2 : K[n].of_ = o'.id
      · rw [decide_eq_true c2]
        refine Ret.condT rfl (Ret.bind (Ret.ixo hk ?_))
        by_cases c3 : o'.kind = 9
        · rw [decide_eq_true c3]
          refine Ret.condF rfl (Ret.ok (Ret.bind (Ret.condF rfl (Ret.ok (Ret.ok (fin z (p1 ?_)))))))
          rintro ⟨_, _, _, o2, ha, h9⟩
          exact h9 (by rw [hK.one ha.1 ho (by rw [ha.2.1, c2])]; exact c3)
        · rw [decide_eq_false c3]
          refine Ret.condT rfl (Ret.bind (Ret.ixo g (Ret.bind (r_aims hK (fun o2 ha => ?_) fun hna => ?_))))
          · have ho2 : o2 = o' := hK.one ha.1 ho (by rw [ha.2.1, c2])
            have hw : Wd K o'.id K[n] := ⟨hr, c1, c2, o2, ha, by rw [ho2]; exact c3⟩
            refine Ret.condT rfl ?_
            cases z with
            | none =>
              rw [decide_eq_true (show (none : Option Int).getD (-1) < 0 by decide)]
              exact Ret.condT rfl (Ret.ok (Ret.bind (Ret.condT rfl (Ret.bind (Ret.ixo g (Ret.ok (Ret.ok (fin (some K[n].id) (p2 hw (.inl rfl))))))))))
            | some y =>
              have hy : 0 ≤ y := by
                obtain ⟨r, hr2, _, rfl, _⟩ := hz
                exact (hK.v r (List.mem_of_mem_take hr2)).2.1.1
              rw [decide_eq_false (show ¬ (some y).getD (-1) < 0 by simp; omega)]
              refine Ret.condF rfl (Ret.bind (Ret.ixo g (Ret.ok ?_)))
              by_cases c4 : K[n].id < y
              · rw [decide_eq_true (show K[n].id < (some y).getD (-1) from c4)]
                exact Ret.bind (Ret.condT rfl (Ret.bind (Ret.ixo g (Ret.ok (Ret.ok (fin (some K[n].id) (p2 hw (.inr ⟨y, rfl, c4⟩))))))))
              · rw [decide_eq_false (show ¬ K[n].id < (some y).getD (-1) from c4)]
                exact Ret.bind (Ret.condF rfl (Ret.ok (Ret.ok (fin (some y) (p3 hw y rfl (by omega))))))
          · refine Ret.condF rfl (Ret.ok (Ret.bind (Ret.condF rfl (Ret.ok (Ret.ok (fin z (p1 ?_)))))))
            rintro ⟨_, _, _, o2, ha, h9⟩
            exact hna o2 ha
      · rw [decide_eq_false c2]
        exact Ret.condF rfl (Ret.ok (Ret.bind (Ret.condF rfl (Ret.ok (Ret.ok (fin z (p1 fun h => c2 h.2.2.1)))))))
    · rw [decide_eq_false c1]
      exact Ret.condF rfl (Ret.ok (Ret.bind (Ret.condF rfl (Ret.ok (Ret.ok (fin z (p1 fun h => c1 h.2.1)))))))
  · have hge : n = K.length := by have := of_decide_eq_false h1; omega
    subst hge
    rw [List.take_length] at hz
    exact Ret.done (Ret.ok (h z hz))
theorem wd_pos {i : Int} {z : Option Int} (h : WdR K i z) : (0 ≤ z.getD (-1) ↔ z ≠ none) := by
  cases z with
  | none => simp
  | some y =>
    obtain ⟨r, hr, _, rfl, _⟩ := h
    have := (hK.v r hr).2.1.1
    simp; exact this
theorem r_corrected {o : Report} (ho : o ∈ K) (hf : o.kind ≤ 7) {Q : Int → Prop} (h : ∀ z : Option Report, Latest (Co K o) K z → Q ((z.map (·.id)).getD (-1))) : Ret (P.ref03_corrected K o.id) Q := by
  have hl := hK.len
  unfold P.ref03_corrected
  refine Ret.bind (r_At (by omega) (fun k o' hk he => ?_) fun hno => absurd rfl (hno o ho))
  obtain rfl := hK.one (List.mem_of_getElem? hk) ho he
  refine Ret.bind (Ret.loop (fun t : Int × Int => ∃ n : Nat, t.2 = n ∧ n ≤ K.length ∧ ∃ z : Option Report, t.1 = (z.map (·.id)).getD (-1) ∧ Latest (Co K o') (K.take n) z) (fun t => K.length - t.2.toNat) ⟨0, rfl, Nat.zero_le _, none, rfl, fun r hr => by simp at hr⟩ ?_)
  rintro ⟨_, _⟩ ⟨n, rfl, hn, z, rfl, hz⟩
  dsimp only
  refine Ret.cond (fun h1 => ?_) fun h1 => ?_
  · have hlt : n < K.length := by have := of_decide_eq_true h1; omega
    have g := List.getElem?_eq_getElem hlt
    have hr : K[n] ∈ K := List.getElem_mem hlt
    obtain ⟨p1, p2, p3⟩ := hz.push K[n]
    rw [← take_push hK hlt] at p1 p2 p3
    have fin : ∀ (z' : Option Report), Latest (Co K o') (K.take (n + 1)) z' → Ret (Option.bind (chk .i64 ((n : Int) + 1)) fun n241 => some (Sum.inl ((z'.map (·.id)).getD (-1), n241) : (Int × Int) ⊕ Int)) (Nxt (fun s' : Int × Int => (∃ n : Nat, s'.2 = n ∧ n ≤ K.length ∧ ∃ z : Option Report, s'.1 = (z.map (·.id)).getD (-1) ∧ Latest (Co K o') (K.take n) z) ∧ K.length - s'.2.toNat < K.length - (n : Int).toNat) fun a => Ret (some a) Q) := fun z' hz' =>
      Ret.bind (Ret.chk (by omega) (Ret.next ⟨⟨n + 1, by dsimp only; omega, by omega, z', rfl, hz'⟩, by dsimp only; omega⟩))
    refine Ret.bind (Ret.bind (Ret.bind (Ret.ixo g ?_)))
    by_cases c1 : K[n].kind = 8
    · rw [decide_eq_true c1]
      refine Ret.condF rfl (Ret.bind (Ret.ixo g ?_))
      by_cases c2 : K[n].of_ = o'.id
      · rw [decide_eq_true c2]
        refine Ret.condF rfl (Ret.bind (Ret.ixo g (Ret.bind (r_aims hK (fun o2 ha => ?_) fun hna => ?_))))
        · obtain rfl : o2 = o' := hK.one ha.1 ho (by rw [ha.2.1, c2])
          refine Ret.condF rfl (Ret.bind (Ret.ixo g (Ret.bind (r_withdrawn hK hr fun w hw => ?_))))
          by_cases c3 : w = none
          · subst c3
            refine Ret.condF rfl (Ret.bind (Ret.ixo hk (Ret.bind (Ret.ixo g ?_))))
            have hkv := (hK.v o2 ho).1
            rw [p_cents (by omega), bindS]
            by_cases c4 : 0 ≤ K[n].cents ∧ K[n].cents ≤ most o2.kind
            · have hc : Co K o2 K[n] := ⟨c1, ha, c4, hw⟩
              rw [show inB 0 (most o2.kind) K[n].cents = true by simp [inB, c4]]
              refine Ret.ok (Ret.condF rfl ?_)
              cases z with
              | none =>
                refine Ret.bind (Ret.condT rfl (Ret.ok ?_))
                exact Ret.bind (Ret.condT rfl (Ret.bind (Ret.ixo g (Ret.ok (Ret.ok (fin (some K[n]) (p2 hc (.inl rfl))))))))
              | some y =>
                have hyK : y ∈ K := List.mem_of_mem_take hz.1
                have hy0 := (hK.v y hyK).2.1.1
                refine Ret.bind (Ret.condF (decide_eq_false (show ¬ y.id < 0 by omega)) (Ret.bind (Ret.ixo g (Ret.bind (r_At (by omega) (fun k2 y2 hk2 he2 => ?_) fun hno => absurd rfl (hno y hyK))))))
                obtain rfl := hK.one (List.mem_of_getElem? hk2) hyK he2
                refine Ret.bind (Ret.ixo hk2 ?_)
                by_cases c5 : y2.made < K[n].made
                · rw [decide_eq_true c5]
                  refine Ret.condT rfl (Ret.ok ?_)
                  exact Ret.bind (Ret.condT rfl (Ret.bind (Ret.ixo g (Ret.ok (Ret.ok (fin (some K[n]) (p2 hc (.inr ⟨y2, rfl, .inl c5⟩))))))))
                · rw [decide_eq_false c5]
                  refine Ret.condF rfl (Ret.bind (Ret.ixo g (Ret.bind (r_At (by omega) (fun k3 y3 hk3 he3 => ?_) fun hno => absurd rfl (hno y2 hyK)))))
                  obtain rfl := hK.one (List.mem_of_getElem? hk3) hyK he3
                  refine Ret.bind (Ret.ixo hk3 ?_)
                  by_cases c6 : K[n].made = y3.made
                  · rw [decide_eq_true c6]
                    refine Ret.condT rfl (Ret.bind (Ret.ixo g (Ret.ok ?_)))
                    by_cases c7 : y3.id < K[n].id
                    · rw [decide_eq_true (show ((some y3).map (·.id)).getD (-1) < K[n].id from c7)]
                      exact Ret.bind (Ret.condT rfl (Ret.bind (Ret.ixo g (Ret.ok (Ret.ok (fin (some K[n]) (p2 hc (.inr ⟨y3, rfl, .inr ⟨c6.symm, c7⟩⟩))))))))
                    · rw [decide_eq_false (show ¬ ((some y3).map (·.id)).getD (-1) < K[n].id from c7)]
                      exact Ret.bind (Ret.condF rfl (Ret.ok (Ret.ok (fin (some y3) (p3 hc y3 rfl (by omega))))))
                  · rw [decide_eq_false c6]
                    refine Ret.condF rfl (Ret.ok ?_)
                    exact Ret.bind (Ret.condF rfl (Ret.ok (Ret.ok (fin (some y3) (p3 hc y3 rfl (by omega))))))
            · rw [show inB 0 (most o2.kind) K[n].cents = false from decide_eq_false c4]
              exact Ret.ok (Ret.condT rfl (Ret.ok (fin z (p1 fun h => c4 h.2.2.1))))
          · refine Ret.condT (decide_eq_true ((wd_pos hK hw).2 c3)) (Ret.ok (Ret.condT rfl (Ret.ok (fin z (p1 fun h => c3 ?_)))))
            exact Least.uniq hw h.2.2.2
        · exact Ret.condT rfl (Ret.ok (Ret.condT rfl (Ret.ok (fin z (p1 fun h => hna o' h.2.1)))))
      · rw [decide_eq_false c2]
        exact Ret.condT rfl (Ret.ok (Ret.condT rfl (Ret.ok (fin z (p1 fun h => c2 h.2.1.2.1.symm)))))
    · rw [decide_eq_false c1]
      exact Ret.condT rfl (Ret.ok (Ret.condT rfl (Ret.ok (fin z (p1 fun h => c1 h.1)))))
  · have hge : n = K.length := by have := of_decide_eq_false h1; omega
    subst hge
    rw [List.take_length] at hz
    exact Ret.done (Ret.ok (h z hz))
end
end S
end Go.Proofs.YtepjkmoipjeghaaDoor
namespace Go.Proofs.YtepjkmoipjeghaaDoor
open Go Go.Sx
namespace S
def Rep (K : List Report) (m : FMap Int Report) : Prop := ∀ i r, m i = some r ↔ r ∈ K ∧ r.id = i
theorem foldM_inv {S β : Type} {f : S → β → Option S} (I : List β → S → Prop) : ∀ (l pre : List β) (s : S), I pre s → (∀ pre x s, x ∈ l → I pre s → ∃ s', f s x = some s' ∧ I (pre ++ [x]) s') → ∃ s', l.foldlM f s = some s' ∧ I (pre ++ l) s'
  | [], pre, s, h, _ => ⟨s, rfl, by simpa using h⟩
  | x :: l, pre, s, h, hs => by
    obtain ⟨s1, h1, h2⟩ := hs pre x s (List.mem_cons_self ..) h
    obtain ⟨s2, h3, h4⟩ := foldM_inv I l (pre ++ [x]) s1 h2 fun pre y s hy => hs pre y s (List.mem_cons_of_mem _ hy)
    refine ⟨s2, ?_, by simpa using h4⟩
    rw [List.foldlM_cons, h1]; exact h3
theorem Rep.lists {K : List Report} (hK : Ok K) {m : FMap Int Report} (h : Rep K m) : Lists m (K.map fun r => (r.id, r)) := by
  refine ⟨?_, fun a y => ?_⟩
  · rw [List.map_map]; exact hK.nd
  · rw [h, List.mem_map]
    constructor
    · rintro ⟨r, hr, e⟩; cases e; exact ⟨hr, rfl⟩
    · rintro ⟨hr, rfl⟩; exact ⟨y, hr, rfl⟩
theorem Rep.mem {K : List Report} {m : FMap Int Report} (h : Rep K m) {l : List (Int × Report)} (hl : Lists m l) (r : Report) : r ∈ l.map (·.2) ↔ r ∈ K := by
  rw [List.mem_map]
  constructor
  · rintro ⟨⟨a, y⟩, hy, rfl⟩
    exact ((h a y).1 ((hl.2 a y).1 hy)).1
  · intro hr
    exact ⟨(r.id, r), (hl.2 _ _).2 ((h _ _).2 ⟨hr, rfl⟩), rfl⟩
theorem r_anyM {S κ α : Type} {f : S → κ × α → Option S} {m : FMap κ α} {l0 : List (κ × α)} (h0 : Lists m l0) {s0 : S} (Spec : S → Prop) (hall : ∀ l, Lists m l → ∃ s, l.foldlM f s0 = some s ∧ Spec s) (uniq : ∀ s s', Spec s → Spec s' → s = s') {Q : S → Prop} (h : ∀ s, Spec s → Q s) : Ret (anyM f m s0) Q := by
  obtain ⟨r, hr, hs⟩ := hall _ h0
  exact ⟨r, anyM_of h0 fun l hl => by
    obtain ⟨s, h1, h2⟩ := hall l hl
    rw [h1, uniq s r h2 hs], h r hs⟩
theorem p_aim0 {m : FMap Int Report} {r : Report} (h : m r.of_ = none) : P.account_store_aim (Store.mk m) r = some (Report.mk 0 0 0 0 0 0 0 0, false) := by
  unfold P.account_store_aim
  simp [h]
theorem p_aimS {m : FMap Int Report} {r o : Report} (h : m r.of_ = some o) : P.account_store_aim (Store.mk m) r = some (o, decide (o.source = r.source ∧ o.account = r.account)) := by
  unfold P.account_store_aim
  by_cases c1 : o.source = r.source
  · simp [h, c1]
    rw [← c1]
  · simp [h, c1]
section
variable {K : List Report} (hK : Ok K) {m : FMap Int Report} (hm : Rep K m)
include hK hm
theorem r_aim {r : Report} {Q : Report × Bool → Prop} (h1 : ∀ o, Aim K r o → Q (o, true)) (h2 : ∀ o', (∀ o, ¬ Aim K r o) → Q (o', false)) : Ret (P.account_store_aim (Store.mk m) r) Q := by
  rcases hq : m r.of_ with _ | o
  · rw [p_aim0 hq]
    refine Ret.ok (h2 _ fun o ha => ?_)
    rw [(hm _ o).2 ⟨ha.1, ha.2.1⟩] at hq; cases hq
  · obtain ⟨ho, he⟩ := (hm _ o).1 hq
    rw [p_aimS hq]
    by_cases c : o.source = r.source ∧ o.account = r.account
    · rw [decide_eq_true c]; exact Ret.ok (h1 o ⟨ho, he, c.1, c.2⟩)
    · rw [decide_eq_false c]
      exact Ret.ok (h2 _ fun o' ha => c (by rw [← hK.one ha.1 ho (by rw [ha.2.1, he])]; exact ⟨ha.2.2.1, ha.2.2.2⟩))
end
def cmpI (x y : Int) : Int := if x < y then -1 else if y < x then 1 else 0
theorem p_cmp {x y : Int} : P.cmp_Compare_72 x y = some (cmpI x y) := by
  unfold P.cmp_Compare_72 P.cmp_isNaN_92 cmpI
  by_cases h : x < y
  · simp [h]
  · by_cases h2 : y < x
    · simp [h, h2]
    · simp [h, h2]
theorem r_Or {a b : Int} {Q : Int → Prop} (h : Q (if a = 0 then b else a)) : Ret (P.cmp_Or_71 [a, b]) Q := by
  unfold P.cmp_Or_71
  refine Ret.bind (Ret.loop (fun t : Int => t = 0 ∨ t = 1 ∧ a = 0 ∨ t = 2 ∧ a = 0 ∧ b = 0) (fun t => 2 - t.toNat) (.inl rfl) ?_)
  rintro _ (rfl | ⟨rfl, rfl⟩ | ⟨rfl, rfl, rfl⟩)
  · refine Ret.condT rfl (Ret.bind (Ret.val (show ixo [a, b] 0 = some a from rfl) ?_))
    by_cases c : a = 0
    · rw [decide_eq_true c]
      exact Ret.condF rfl (Ret.bind (Ret.chk (by omega) (Ret.next ⟨.inr (.inl ⟨rfl, c⟩), by decide⟩)))
    · rw [decide_eq_false c]
      refine Ret.condT rfl (Ret.done (Ret.elimR (Ret.ok ?_)))
      rwa [if_neg c] at h
  · refine Ret.condT rfl (Ret.bind (Ret.val (show ixo [0, b] 1 = some b from rfl) ?_))
    rw [if_pos rfl] at h
    by_cases c : b = 0
    · rw [decide_eq_true c]
      exact Ret.condF rfl (Ret.bind (Ret.chk (by omega) (Ret.next ⟨.inr (.inr ⟨rfl, rfl, c⟩), by decide⟩)))
    · rw [decide_eq_false c]
      exact Ret.condT rfl (Ret.done (Ret.elimR (Ret.ok h)))
  · refine Ret.condF rfl (Ret.done (Ret.elimL (Ret.ok ?_)))
    simpa using h
/-- What a fact's correction is. -/
def Co' (K : List Report) (i : Int) (r : Report) : Prop := ∃ o ∈ K, o.id = i ∧ o.kind ≤ 7 ∧ WdR K i none ∧ Co K o r
structure Dk (K : List Report) (d : Desk) : Prop where
  reports : Rep K d.store.reports
  gone : ∀ i, WdR K i (d.gone i)
  fixed : ∀ i, ∃ z : Option Report, d.fixed i = z.map (·.id) ∧ Latest (Co' K i) K z
theorem r_open {l : List Report} (hin : ∀ r ∈ l, V r) (hl : l.length ≤ 60) (hC : Cons l) {known : Int} {K : List Report} (hk : Kn l known K) {Q : Desk → Prop} (h : ∀ d, Dk K d → Q d) : Ret (P.account_open l known) Q := by
  have hK : Ok K := ⟨fun r hr => hin r ((hk.mem r).1 hr).1, hk.nd, Nat.le_trans hk.len hl⟩
  unfold P.account_open
  refine Ret.bind (Ret.loop (fun t : Int × FMap Int Report => ∃ n : Nat, t.1 = n ∧ n ≤ l.length ∧ ∀ i r, t.2 i = some r ↔ (r ∈ l.take n ∧ r.made ≤ known) ∧ r.id = i) (fun t => l.length - t.1.toNat) ⟨0, rfl, Nat.zero_le _, fun i r => by simp [fnone]⟩ ?_)
  rintro ⟨_, m⟩ ⟨n, rfl, hn, hm⟩
  dsimp only at hm ⊢
  refine Ret.cond (fun h1 => ?_) fun h1 => ?_
  · have hlt : n < l.length := by have := of_decide_eq_true h1; omega
    refine Ret.bind (Ret.bind (Ret.ixo (List.getElem?_eq_getElem hlt) (Ret.bind ?_)))
    by_cases c : l[n].made ≤ known
    · rw [decide_eq_true c]
      refine Ret.condT rfl (Ret.ok (Ret.ok (Ret.bind (Ret.chk (by omega) (Ret.next ⟨⟨n + 1, by dsimp only; omega, by omega, fun i r => ?_⟩, by dsimp only; omega⟩)))))
      rw [take_mem hlt]
      show fput m l[n].id l[n] i = some r ↔ _
      unfold fput
      by_cases e : i = l[n].id
      · subst e
        simp only [if_true]
        constructor
        · intro h9
          have := Option.some.inj h9
          exact ⟨⟨.inr this.symm, by rw [← this]; exact c⟩, by rw [← this]⟩
        · rintro ⟨⟨h9 | h9, h8⟩, h7⟩
          · rw [hC r (List.mem_of_mem_take h9) l[n] (List.getElem_mem hlt) h7]
          · rw [h9]
      · simp only [e, if_false]
        rw [hm]
        constructor
        · rintro ⟨⟨h9, h8⟩, h7⟩; exact ⟨⟨.inl h9, h8⟩, h7⟩
        · rintro ⟨⟨h9 | h9, h8⟩, h7⟩
          · exact ⟨⟨h9, h8⟩, h7⟩
          · exact absurd (by rw [← h7, h9]) e
    · rw [decide_eq_false c]
      refine Ret.condF rfl (Ret.ok (Ret.ok (Ret.bind (Ret.chk (by omega) (Ret.next ⟨⟨n + 1, by dsimp only; omega, by omega, fun i r => ?_⟩, by dsimp only; omega⟩)))))
      rw [take_mem hlt]
      dsimp only
      rw [hm]
      constructor
      · rintro ⟨⟨h9, h8⟩, h7⟩; exact ⟨⟨.inl h9, h8⟩, h7⟩
      · rintro ⟨⟨h9 | h9, h8⟩, h7⟩
        · exact ⟨⟨h9, h8⟩, h7⟩
        · exact absurd (h9 ▸ h8) c
  have hge : n = l.length := by have := of_decide_eq_false h1; omega
  subst hge
  rw [List.take_length] at hm
  have hm : Rep K m := fun i r => by rw [hm, hk.mem]
  refine Ret.done ?_
  have hl0 := hm.lists hK
  clear hn h1
  have mem1 : ∀ {lx : List (Int × Report)}, Lists m lx → ∀ x ∈ lx, x.2 ∈ K := fun hlx x hx => (hm.mem hlx x.2).1 (List.mem_map.2 ⟨x, hx, rfl⟩)
  refine Ret.bind (r_anyM hl0 (fun s : FMap Int Int => ∀ i, WdR K i (s i)) (fun lx hlx => ?_) (fun s s' hs hs' => funext fun i => (hs i).uniq (hs' i)) fun g hg => ?_)
  · refine Exists.imp (fun s (h : _ ∧ _) => ⟨h.1, fun i => (h.2 i).congr fun r => by rw [List.nil_append, hm.mem hlx]⟩) (foldM_inv (fun (pre : List (Int × Report)) (s : FMap Int Int) => ∀ i, Least (Wd K i) (pre.map (·.2)) (s i)) lx [] (fnone : FMap Int Int) (fun i r hr => by simp at hr) (fun pre x s hx hI => ?_))
    · obtain ⟨xk, r⟩ := x
      have hr : r ∈ K := mem1 hlx _ hx
      have no : (∀ i, ¬ Wd K i r) → ∀ i, Least (Wd K i) ((pre ++ [(xk, r)]).map (·.2)) (s i) := fun hn i => by rw [List.map_append]; exact ((hI i).push r).1 (hn i)
      show Ret _ fun s' : FMap Int Int => ∀ i, Least (Wd K i) ((pre ++ [(xk, r)]).map (·.2)) (s' i)
      refine Ret.bind (Ret.bind (r_aim hK hm (fun o ha => ?_) fun o' hna => ?_))
      · dsimp only
        by_cases c1 : r.kind = 9
        · rw [decide_eq_true c1]
          by_cases c2 : o.kind = 9
          · rw [decide_eq_true c2]
            refine Ret.bind (Ret.condT rfl (Ret.condT rfl (Ret.ok (Ret.bind (Ret.condF rfl (Ret.ok (Ret.ok (Ret.ok (no fun i hw => ?_)))))))))
            obtain ⟨_, _, h3, o2, ha2, h9⟩ := hw
            exact h9 (by rw [hK.one ha2.1 ha.1 (by rw [ha2.2.1, ha.2.1])]; exact c2)
          · rw [decide_eq_false c2]
            have hw : Wd K o.id r := ⟨hr, c1, ha.2.1.symm, o, ha, c2⟩
            have oth : ∀ i, i ≠ o.id → ¬ Wd K i r := fun i hi hw => hi (by rw [ha.2.1, hw.2.2.1])
            refine Ret.bind (Ret.condT rfl (Ret.condT rfl (Ret.ok (Ret.bind (Ret.condT rfl (Ret.bind (Ret.ok (Ret.bind ?_))))))))
            have put : (s o.id = none ∨ ∃ y, s o.id = some y ∧ r.id < y) → ∀ i, Least (Wd K i) ((pre ++ [(xk, r)]).map (·.2)) (fput s o.id r.id i) := fun hz i => by
              rw [List.map_append]
              unfold fput
              by_cases e : i = o.id
              · subst e; rw [if_pos rfl]; exact ((hI _).push r).2.1 hw hz
              · rw [if_neg e]; exact ((hI i).push r).1 (oth i e)
            cases hz : s o.id with
            | none => exact Ret.condT rfl (Ret.ok (Ret.bind (Ret.condT rfl (Ret.ok (Ret.ok (Ret.ok (Ret.ok (put (.inl hz)))))))))
            | some y =>
              refine Ret.condF rfl (Ret.ok ?_)
              by_cases c3 : r.id < y
              · rw [decide_eq_true (show r.id < (some y).getD 0 from c3)]
                exact Ret.bind (Ret.condT rfl (Ret.ok (Ret.ok (Ret.ok (Ret.ok (put (.inr ⟨y, hz, c3⟩)))))))
              · rw [decide_eq_false (show ¬ r.id < (some y).getD 0 from c3)]
                refine Ret.bind (Ret.condF rfl (Ret.ok (Ret.ok (Ret.ok (Ret.ok fun i => ?_)))))
                rw [List.map_append]
                by_cases e : i = o.id
                · subst e; exact ((hI _).push r).2.2 hw y hz (by omega)
                · exact ((hI i).push r).1 (oth i e)
        · rw [decide_eq_false c1]
          exact Ret.bind (Ret.condF rfl (Ret.ok (Ret.bind (Ret.condF rfl (Ret.ok (Ret.ok (Ret.ok (no fun i hw => c1 hw.2.1))))))))
      · dsimp only
        have hn : ∀ i, ¬ Wd K i r := fun i hw => by
          obtain ⟨_, _, _, o2, ha2, _⟩ := hw
          exact hna o2 ha2
        refine Ret.bind (Ret.cond (fun _ => Ret.condF rfl (Ret.ok ?_)) fun _ => Ret.ok ?_) <;> exact Ret.bind (Ret.condF rfl (Ret.ok (Ret.ok (Ret.ok (no hn)))))
  refine Ret.bind (r_anyM hl0 (fun s : FMap Int Int => ∀ i, ∃ z : Option Report, s i = z.map (·.id) ∧ Latest (Co' K i) K z) (fun lx hlx => ?_) (fun s s' hs hs' => funext fun i => ?_) fun f hf => ?_)
  · refine Exists.imp (fun s (h : _ ∧ _) => ⟨h.1, fun i => (by
      obtain ⟨z, hz, hz2⟩ := h.2.2 i
      exact ⟨z, hz, hz2.congr fun r => by rw [List.nil_append, hm.mem hlx]⟩)⟩) (foldM_inv (fun (pre : List (Int × Report)) (s : FMap Int Int) => (∀ x ∈ pre, x.2 ∈ K) ∧ ∀ i, ∃ z : Option Report, s i = z.map (·.id) ∧ Latest (Co' K i) (pre.map (·.2)) z) lx [] (fnone : FMap Int Int) ⟨(fun x hx => by simp at hx), fun i => ⟨none, rfl, fun r hr => by simp at hr⟩⟩ (fun pre x s hx hI => ?_))
    · obtain ⟨xk, r⟩ := x
      have hr : r ∈ K := mem1 hlx _ hx
      obtain ⟨hpre, hI⟩ := hI
      have hpre' : ∀ x ∈ pre ++ [(xk, r)], x.2 ∈ K := fun x hx => by
        rcases List.mem_append.1 hx with h9 | h9
        · exact hpre x h9
        · have : x = (xk, r) := by simpa using h9
          rw [this]; exact hr
      have no : (∀ i, ¬ Co' K i r) → (∀ x ∈ pre ++ [(xk, r)], x.2 ∈ K) ∧ ∀ i, ∃ z : Option Report, s i = z.map (·.id) ∧ Latest (Co' K i) ((pre ++ [(xk, r)]).map (·.2)) z := fun hn => ⟨hpre', fun i => by
        obtain ⟨z, hz, hz2⟩ := hI i
        rw [List.map_append]
        exact ⟨z, hz, (hz2.push r).1 (hn i)⟩⟩
      show Ret _ fun s' : FMap Int Int => (∀ x ∈ pre ++ [(xk, r)], x.2 ∈ K) ∧ ∀ i, ∃ z : Option Report, s' i = z.map (·.id) ∧ Latest (Co' K i) ((pre ++ [(xk, r)]).map (·.2)) z
      refine Ret.bind (Ret.bind (r_aim hK hm (fun o ha => ?_) fun o' hna => ?_))
      · dsimp only
        have hov := hK.v o ha.1
        have one : ∀ {i o2}, o2 ∈ K → o2.id = i → Co K o2 r → o2 = o := fun h1 _ h3 => hK.one h1 ha.1 (by rw [h3.2.1.2.1, ha.2.1])
        by_cases c1 : r.kind = 8
        · rw [decide_eq_true c1]
          refine Ret.bind (Ret.condF rfl (Ret.condF rfl ?_))
          unfold P.account_fact
          refine Ret.bind (Ret.ok ?_)
          by_cases c2 : o.kind ≤ 7
          · refine Ret.condF (by simp; exact c2) (Ret.bind (Ret.val (p_glob hov.1) ?_))
            rw [p_in (by simp), bindS]
            by_cases c3 : 0 ≤ r.cents ∧ r.cents ≤ most o.kind
            · refine Ret.condF (by simp [inB, c3]) ?_
              unfold P.account_desk_away
              refine Ret.bind (Ret.bind (Ret.ok (Ret.ok ?_)))
              dsimp only
              have gs : ∀ i, (g i).isSome = true ↔ ¬ WdR K i none := fun i => by
                cases hq : g i with
                | none => simp; have := hg i; rw [hq] at this; exact this
                | some y => simp; intro h9; have := (hg i).uniq h9; rw [hq] at this; cases this
              by_cases c4 : (g r.id).isSome = true
              · rw [c4]
                exact Ret.condT rfl (Ret.ok (Ret.condT rfl (Ret.ok (Ret.ok (no fun i hc => by
                  obtain ⟨o2, _, _, _, _, h5⟩ := hc
                  exact (gs r.id).1 c4 h5.2.2.2)))))
              · have c4' : (g r.id).isSome = false := by simpa using c4
                rw [c4']
                refine Ret.condF rfl (Ret.bind (Ret.bind (Ret.ok (Ret.ok ?_))))
                by_cases c5 : (g o.id).isSome = true
                · rw [c5]
                  exact Ret.ok (Ret.condT rfl (Ret.ok (Ret.ok (no fun i hc => by
                    obtain ⟨o2, h1, h2, _, h4, h5⟩ := hc
                    have := one h1 h2 h5
                    subst this
                    exact (gs o2.id).1 c5 (h2 ▸ h4)))))
                · have c5' : (g o.id).isSome = false := by simpa using c5
                  rw [c5']
                  refine Ret.ok (Ret.condF rfl ?_)
                  have w1 : WdR K r.id none := Classical.byContradiction fun h9 => c4 ((gs r.id).2 h9)
                  have w2 : WdR K o.id none := Classical.byContradiction fun h9 => c5 ((gs o.id).2 h9)
                  have hc : Co' K o.id r := ⟨o, ha.1, rfl, c2, w2, c1, ha, c3, w1⟩
                  have oth : ∀ i, i ≠ o.id → ¬ Co' K i r := fun i hi hc => by
                    obtain ⟨o2, h1, h2, _, _, h5⟩ := hc
                    exact hi (by rw [← h2, one h1 h2 h5])
                  obtain ⟨z, hz, hz2⟩ := hI o.id
                  have put : (z = none ∨ ∃ y, z = some y ∧ (y.made < r.made ∨ y.made = r.made ∧ y.id < r.id)) → (∀ x ∈ pre ++ [(xk, r)], x.2 ∈ K) ∧ ∀ i, ∃ z : Option Report, (fput s o.id r.id) i = z.map (·.id) ∧ Latest (Co' K i) ((pre ++ [(xk, r)]).map (·.2)) z := fun h9 => ⟨hpre', fun i => by
                    rw [List.map_append]
                    unfold fput
                    by_cases e : i = o.id
                    · subst e; rw [if_pos rfl]; exact ⟨some r, rfl, (hz2.push r).2.1 hc h9⟩
                    · rw [if_neg e]
                      obtain ⟨z', hz', hz2'⟩ := hI i
                      exact ⟨z', hz', (hz2'.push r).1 (oth i e)⟩⟩
                  have keep : ∀ y, z = some y → ¬ (y.made < r.made ∨ y.made = r.made ∧ y.id < r.id) → (∀ x ∈ pre ++ [(xk, r)], x.2 ∈ K) ∧ ∀ i, ∃ z : Option Report, s i = z.map (·.id) ∧ Latest (Co' K i) ((pre ++ [(xk, r)]).map (·.2)) z := fun y hy h9 => ⟨hpre', fun i => by
                    rw [List.map_append]
                    by_cases e : i = o.id
                    · subst e; exact ⟨z, hz, (hz2.push r).2.2 hc y hy h9⟩
                    · obtain ⟨z', hz', hz2'⟩ := hI i
                      exact ⟨z', hz', (hz2'.push r).1 (oth i e)⟩⟩
                  refine Ret.bind (Ret.ok (Ret.bind (Ret.ok (Ret.bind ?_))))
                  rw [hz]
                  cases z with
                  | none => exact Ret.condT rfl (Ret.ok (Ret.bind (Ret.condT rfl (Ret.ok (Ret.ok (Ret.ok (put (.inl rfl))))))))
                  | some y =>
                    have hyK : y ∈ K := by
                      obtain ⟨q, hq, hq2⟩ := List.mem_map.1 hz2.1
                      rw [← hq2]; exact hpre q hq
                    have hmy : m y.id = some y := (hm _ _).2 ⟨hyK, rfl⟩
                    refine Ret.condF rfl (Ret.bind (Ret.val p_cmp (Ret.bind (Ret.val p_cmp (Ret.bind (r_Or ?_))))))
                    have hyid : ((some y).map (·.id)).getD 0 = y.id := rfl
                    rw [hyid, hmy]
                    simp only [Option.getD_some]
                    have bd : ∀ a b : Int, -1 ≤ cmpI a b ∧ cmpI a b ≤ 1 := fun a b => by unfold cmpI; split <;> (try split) <;> omega
                    have b1 := bd y.made r.made
                    have b2 := bd y.id r.id
                    refine Ret.bind (Ret.chk (by split <;> omega) (Ret.ok ?_))
                    have key : decide ((if cmpI y.made r.made = 0 then cmpI y.id r.id else cmpI y.made r.made) < 0) = decide (y.made < r.made ∨ y.made = r.made ∧ y.id < r.id) := by
                      rw [decide_eq_decide]
                      unfold cmpI
                      by_cases h1 : y.made < r.made
                      · simp [h1]
                      · by_cases h2 : r.made < y.made
                        · simp [h1, h2]; omega
                        · have : y.made = r.made := by omega
                          simp [this]
                          by_cases h3 : y.id < r.id
                          · simp [h3]
                          · simp [h3]; split <;> omega
                    rw [key]
                    by_cases c6 : y.made < r.made ∨ y.made = r.made ∧ y.id < r.id
                    · rw [decide_eq_true c6]
                      exact Ret.bind (Ret.condT rfl (Ret.ok (Ret.ok (Ret.ok (put (.inr ⟨y, rfl, c6⟩))))))
                    · rw [decide_eq_false c6]
                      exact Ret.bind (Ret.condF rfl (Ret.ok (Ret.ok (Ret.ok (keep y rfl c6)))))
            · have hx : ([r.cents].all (inB 0 (most o.kind))) = false := by simp only [List.all_cons, List.all_nil, Bool.and_true, inB]; exact decide_eq_false c3
              rw [hx]
              exact Ret.condT rfl (Ret.ok (Ret.condT rfl (Ret.ok (Ret.ok (no fun i hc => by
                obtain ⟨o2, h1, h2, _, _, h5⟩ := hc
                rw [one h1 h2 h5] at h5
                exact c3 h5.2.2.1)))))
          · refine Ret.condT (by simp; omega) (Ret.ok (Ret.condT rfl (Ret.ok (Ret.ok (no fun i hc => ?_)))))
            obtain ⟨o2, h1, h2, h3, _, h5⟩ := hc
            rw [one h1 h2 h5] at h3
            exact c2 h3
        · rw [decide_eq_false c1]
          exact Ret.bind (Ret.condT rfl (Ret.ok (Ret.condT rfl (Ret.ok (Ret.ok (no fun i hc => by
            obtain ⟨o2, _, _, _, _, h5⟩ := hc
            exact c1 h5.1))))))
      · dsimp only
        have hn : ∀ i, ¬ Co' K i r := fun i hc => by
          obtain ⟨o2, _, _, _, _, h5⟩ := hc
          exact hna o2 h5.2.1
        refine Ret.bind (Ret.cond (fun _ => Ret.ok ?_) fun _ => Ret.condT rfl (Ret.ok ?_)) <;> exact Ret.condT rfl (Ret.ok (Ret.ok (no hn)))
  · obtain ⟨z, hz, hz2⟩ := hs i
    obtain ⟨z', hz', hz2'⟩ := hs' i
    rw [hz, hz', Latest.uniq hK hz2 hz2']
  · exact Ret.ok (h _ ⟨hm, hg, hf⟩)
end S
end Go.Proofs.YtepjkmoipjeghaaDoor
namespace Go.Proofs.YtepjkmoipjeghaaDoor
open Go Go.Sx
namespace S
def lt (a b : Report) : Prop := a.about < b.about ∨ a.about = b.about ∧ a.id < b.id
instance (a b : Report) : Decidable (lt a b) := inferInstanceAs (Decidable (_ ∨ _))
def le (a b : Report) : Prop := a.about < b.about ∨ a.about = b.about ∧ a.id ≤ b.id
theorem two_one {l1 l2 : List Report} (hp : l1.Perm l2) (h1 : l1.Pairwise le) (h2 : l2.Pairwise le) (hn : (l1.map (·.id)).Nodup) : l1 = l2 := by
  refine List.Perm.eq_of_pairwise (fun a b ha hb hab hba => ?_) h1 h2 hp
  have hb' := hp.mem_iff.2 hb
  obtain ⟨i, hi⟩ := List.getElem?_of_mem ha
  obtain ⟨j, hj⟩ := List.getElem?_of_mem hb'
  have e : a.id = b.id := by unfold le at hab hba; omega
  have hi' : (l1.map (·.id))[i]? = some a.id := by simp [hi]
  have hj' : (l1.map (·.id))[j]? = some a.id := by simp [hj, e]
  have : i = j := (List.getElem?_inj (get_lt hi') hn).1 (hi'.trans hj'.symm)
  subst this
  rw [hi] at hj
  exact Option.some.inj hj
/-! Sorting. -/
def cf0 (a b : Report) : Int := if cmpI a.about b.about = 0 then cmpI a.id b.id else cmpI a.about b.about
theorem cf0_neg {a b : Report} : cf0 a b < 0 ↔ lt a b := by
  unfold cf0 cmpI lt
  by_cases h1 : a.about < b.about
  · simp [h1]
  · by_cases h2 : b.about < a.about
    · simp [h1, h2]; omega
    · have : a.about = b.about := by omega
      simp [this]
      by_cases h3 : a.id < b.id
      · simp [h3]
      · simp [h3]; split <;> omega
theorem p_ord {a b : Report} : P.account_ordered_api_Report_in1 a b [75, 76] = some (cf0 a b) := by
  obtain ⟨z, h1, h2⟩ : Ret (P.account_ordered_api_Report_in1 a b [75, 76]) fun z => z = cf0 a b := by
    unfold P.account_ordered_api_Report_in1
    have g1 : ∀ r : Report, P.fn135 75 (Report.mk r.id r.source r.account r.made r.about r.kind r.cents r.of_) = some r.about := fun r => rfl
    have g2 : ∀ r : Report, P.fn135 76 (Report.mk r.id r.source r.account r.made r.about r.kind r.cents r.of_) = some r.id := fun r => rfl
    refine Ret.bind (Ret.loop (fun t : Int => t = 0 ∨ t = 1 ∧ cmpI a.about b.about = 0 ∨ t = 2 ∧ cmpI a.about b.about = 0 ∧ cmpI a.id b.id = 0) (fun t => 2 - t.toNat) (.inl rfl) ?_)
    rintro _ (rfl | ⟨rfl, h0⟩ | ⟨rfl, h0, h1⟩)
    · refine Ret.condT rfl (Ret.bind (Ret.val (show ixo [75, 76] 0 = some 75 from rfl) (Ret.bind (Ret.val (g1 a) (Ret.bind (Ret.val (g1 b) (Ret.bind (Ret.val p_cmp ?_))))))))
      by_cases c : cmpI a.about b.about = 0
      · rw [decide_eq_true c]
        exact Ret.condF rfl (Ret.bind (Ret.chk (by omega) (Ret.next ⟨.inr (.inl ⟨rfl, c⟩), by decide⟩)))
      · rw [decide_eq_false c]
        refine Ret.condT rfl (Ret.done (Ret.elimR (Ret.ok ?_)))
        unfold cf0; rw [if_neg c]
    · refine Ret.condT rfl (Ret.bind (Ret.val (show ixo [75, 76] 1 = some 76 from rfl) (Ret.bind (Ret.val (g2 a) (Ret.bind (Ret.val (g2 b) (Ret.bind (Ret.val p_cmp ?_))))))))
      by_cases c : cmpI a.id b.id = 0
      · rw [decide_eq_true c]
        exact Ret.condF rfl (Ret.bind (Ret.chk (by omega) (Ret.next ⟨.inr (.inr ⟨rfl, h0, c⟩), by decide⟩)))
      · rw [decide_eq_false c]
        refine Ret.condT rfl (Ret.done (Ret.elimR (Ret.ok ?_)))
        unfold cf0; rw [if_pos h0]
    · refine Ret.condF rfl (Ret.done (Ret.elimL (Ret.ok ?_)))
      unfold cf0; rw [if_pos h0, h1]
  rw [h1, h2]
theorem r_ordered {x : List Report} (hn : (x.map (·.id)).Nodup) (hl : x.length ≤ 1000000) {Q : List Report → Prop} (h : ∀ out, out.Perm x → out.Pairwise le → Q out) : Ret (P.account_ordered_74 x [75, 76]) Q := by
  unfold P.account_ordered_74
  have one : ∀ a b, a ∈ x → b ∈ x → a.id = b.id → a = b := fun a b ha hb e => by
    obtain ⟨i, hi⟩ := List.getElem?_of_mem ha
    obtain ⟨j, hj⟩ := List.getElem?_of_mem hb
    have hi' : (x.map (·.id))[i]? = some a.id := by simp [hi]
    have hj' : (x.map (·.id))[j]? = some a.id := by simp [hj, e]
    have : i = j := (List.getElem?_inj (get_lt hi') hn).1 (hi'.trans hj'.symm)
    subst this
    rw [hi] at hj
    exact Option.some.inj hj
  have hok : SortOk x (fun x0_ x1_ => P.account_ordered_api_Report_in1 x0_ x1_ [75, 76]) cf0 := by
    refine ⟨fun a b _ _ => p_ord, ⟨fun a => ?_, fun a b c h1 h2 => ?_, fun a b c h1 h2 => ?_⟩, fun a b ha hb h1 h2 => ?_⟩
    · show decide (cf0 a.1 a.1 < 0) = false
      rw [decide_eq_false_iff_not, cf0_neg]; unfold lt; omega
    · have h1 := of_decide_eq_true h1
      have h2 := of_decide_eq_true h2
      refine decide_eq_true ?_
      rw [cf0_neg] at *
      unfold lt at *; omega
    · have h1 := of_decide_eq_false h1
      have h2 := of_decide_eq_false h2
      refine decide_eq_false ?_
      rw [cf0_neg] at *
      unfold lt at *; omega
    · rw [cf0_neg] at h1 h2
      exact one a b ha hb (by unfold lt at h1 h2; omega)
  have hex : x.length < 4611686018427387904 ∧ ∃ cf, SortOk x (fun x0_ x1_ => P.account_ordered_api_Report_in1 x0_ x1_ [75, 76]) cf := ⟨by omega, cf0, hok⟩
  have hs : P.slices_SortFunc_93 x (fun x0_ x1_ => P.account_ordered_api_Report_in1 x0_ x1_ [75, 76]) = some (x.mergeSort fun a b => !decide (hex.2.choose b a < 0)) := by
    unfold P.slices_SortFunc_93
    rw [dif_pos hex]
  refine Ret.bind (Ret.val hs (Ret.ok (h _ (List.mergeSort_perm _ _) ?_)))
  have hsp := hex.2.choose_spec.1
  have hm := List.map_mergeSort (r := fun a b => !decide (hex.2.choose b a < 0)) (s := fun a b => !decide (cf0 b a < 0)) (f := id) (l := x) fun a ha b hb => by
    have h1 : P.account_ordered_api_Report_in1 b a [75, 76] = some _ := hsp b a hb ha
    rw [p_ord] at h1
    rw [← Option.some.inj h1]; rfl
  simp only [List.map_id] at hm
  rw [hm]
  have hle : ∀ a b : Report, (!decide (cf0 b a < 0)) = true ↔ le a b := fun a b => by
    rw [Bool.not_eq_true', decide_eq_false_iff_not, cf0_neg]
    unfold lt le; omega
  refine (List.pairwise_mergeSort (fun a b c h1 h2 => ?_) (fun a b => ?_) x).imp fun h => (hle _ _).1 h
  · rw [hle] at *; unfold le at *; omega
  · rw [Bool.or_eq_true, hle, hle]; unfold le; omega
/-! What stands. -/
open Classical in
noncomputable def best (K : List Report) (o : Report) : Option Report := if h : ∃ r, Latest (Co K o) K (some r) then some h.choose else none
noncomputable def fix (K : List Report) (o : Report) : Report := match best K o with
  | none => o
  | some c => Report.mk o.id o.source o.account o.made c.about o.kind c.cents o.of_
open Classical in
noncomputable def T (K : List Report) : List Report := (K.filter fun o => decide (o.kind ≤ 7 ∧ WdR K o.id none)).map (fix K)
section
variable {K : List Report} (hK : Ok K)
include hK
theorem best_is {o : Report} {z : Option Report} (h : Latest (Co K o) K z) : best K o = z := by
  unfold best
  split
  · rename_i h1
    exact Latest.uniq hK h1.choose_spec h
  · rename_i h1
    cases z with
    | none => rfl
    | some r => exact absurd ⟨r, h⟩ h1
theorem fix_id (o : Report) : (fix K o).id = o.id := by
  unfold fix; split <;> rfl
theorem T_nd : ((T K).map (·.id)).Nodup := by
  unfold T
  rw [List.map_map]
  have : (fun r : Report => r.id) ∘ fix K = fun r => r.id := funext fun o => fix_id hK o
  rw [this]
  exact (List.Sublist.map _ List.filter_sublist).nodup hK.nd
theorem T_len : (T K).length ≤ 60 := by
  unfold T
  rw [List.length_map]
  exact Nat.le_trans (List.length_filter_le _ _) hK.len
theorem before_is {a b : Report} : P.ref03_before a b = some (decide (lt a b)) := by
  unfold P.ref03_before lt
  by_cases h1 : a.about < b.about
  · simp [h1]
  · by_cases h2 : a.about = b.about
    · simp [h2]
    · simp [h1, h2]
theorem r_standing {Q : List Report → Prop} (h : ∀ out, out.Perm (T K) → out.Pairwise le → Q out) : Ret (P.ref03_standing K) Q := by
  classical
  have hKl := hK.len
  unfold P.ref03_standing
  refine Ret.bind (Ret.loop (fun t : List Report × Int => ∃ n : Nat, t.2 = n ∧ n ≤ K.length ∧ t.1.Perm (((K.take n).filter fun o => decide (o.kind ≤ 7 ∧ WdR K o.id none)).map (fix K)) ∧ t.1.Pairwise le) (fun t => K.length - t.2.toNat) ⟨0, rfl, Nat.zero_le _, by simp, List.Pairwise.nil⟩ ?_)
  rintro ⟨X, _⟩ ⟨n, rfl, hn, hp, hs⟩
  dsimp only at hp hs ⊢
  refine Ret.cond (fun h1 => ?_) fun h1 => ?_
  · have hlt : n < K.length := by have := of_decide_eq_true h1; omega
    have g := List.getElem?_eq_getElem hlt
    have hr : K[n] ∈ K := List.getElem_mem hlt
    have hXl : X.length ≤ n := by
      rw [hp.length_eq, List.length_map]
      refine Nat.le_trans (List.length_filter_le _ _) ?_
      rw [List.length_take]; omega
    have fin : ∀ X', X'.Perm (((K.take (n + 1)).filter fun o => decide (o.kind ≤ 7 ∧ WdR K o.id none)).map (fix K)) → X'.Pairwise le → Ret (Option.bind (chk .i64 ((n : Int) + 1)) fun n277 => some (Sum.inl (X', n277) : (List Report × Int) ⊕ List Report)) (Nxt (fun s' : List Report × Int => (∃ n : Nat, s'.2 = n ∧ n ≤ K.length ∧ s'.1.Perm (((K.take n).filter fun o => decide (o.kind ≤ 7 ∧ WdR K o.id none)).map (fix K)) ∧ s'.1.Pairwise le) ∧ K.length - s'.2.toNat < K.length - (n : Int).toNat) fun a => Ret (some a) Q) := fun X' h1 h2 =>
      Ret.bind (Ret.chk (by omega) (Ret.next ⟨⟨n + 1, by dsimp only; omega, by omega, h1, h2⟩, by dsimp only; omega⟩))
    have hstep : (K.take (n + 1)).filter (fun o => decide (o.kind ≤ 7 ∧ WdR K o.id none)) = (K.take n).filter (fun o => decide (o.kind ≤ 7 ∧ WdR K o.id none)) ++ (if K[n].kind ≤ 7 ∧ WdR K K[n].id none then [K[n]] else []) := by
      rw [take_push hK hlt, List.filter_append]
      congr 1
      by_cases c : K[n].kind ≤ 7 ∧ WdR K K[n].id none
      · rw [if_pos c]; simp [c]
      · rw [if_neg c, List.filter_eq_nil_iff]
        intro a ha
        have : a = K[n] := by simpa using ha
        rw [this]; simpa using c
    have skip : ¬ (K[n].kind ≤ 7 ∧ WdR K K[n].id none) → X.Perm (((K.take (n + 1)).filter fun o => decide (o.kind ≤ 7 ∧ WdR K o.id none)).map (fix K)) := fun hc => by
      rw [hstep, if_neg hc, List.append_nil]; exact hp
    refine Ret.bind (Ret.bind (Ret.ixo g (Ret.bind ?_)))
    by_cases c1 : 7 < K[n].kind
    · rw [decide_eq_true c1]
      exact Ret.condT rfl (Ret.ok (Ret.condT rfl (Ret.ok (fin X (skip fun h9 => by omega) hs))))
    rw [decide_eq_false c1]
    refine Ret.condF rfl (Ret.bind (r_withdrawn hK hr fun w hw => Ret.ok ?_))
    by_cases c2 : w = none
    · subst c2
      have hc : K[n].kind ≤ 7 ∧ WdR K K[n].id none := ⟨by omega, hw⟩
      refine Ret.condF rfl (Ret.bind (Ret.bind (r_corrected hK hr hc.1 fun z hz => ?_)))
      have hb := best_is hK hz
      obtain ⟨y, hy⟩ : ∃ y, y = fix K K[n] := ⟨_, rfl⟩
      have hperm : (X ++ [y]).Perm (((K.take (n + 1)).filter fun o => decide (o.kind ≤ 7 ∧ WdR K o.id none)).map (fix K)) := by
        rw [hstep, if_pos hc, List.map_append, hy]
        exact hp.append (List.Perm.refl _)
      have rest : Ret (Option.bind (appo 64 X [y]) fun l119 => Option.bind (chk .i64 ((l119.length : Int) - 1)) fun n124 => Option.bind (loopM (S := Int × (List Report)) (R := ((List Report))) (fun (x125, x126) => Option.bind (cond (decide (0 < x125)) (Option.bind (ixo x126 x125) fun y128 => Option.bind (chk .i64 (x125 - 1)) fun n142 => Option.bind (ixo x126 n142) fun y143 => Option.bind (P.ref03_before y128 y143) fun z157 => some z157) (some false)) fun x167 => cond x167 (Option.bind (Option.bind (chk .i64 (x125 - 1)) fun n169 => Option.bind (ixo x126 n169) fun y170 => Option.bind (ixo x126 x125) fun y184 => Option.bind (ixo x126 x125) fun y198 => Option.bind (chk .i64 (x125 - 1)) fun n215 => Option.bind (seto x126 x125 (Report.mk y170.id y170.source y170.account y170.made y170.about y170.kind y170.cents y170.of_)) fun l231 => Option.bind (ixo l231 n215) fun y238 => Option.bind (seto l231 n215 (Report.mk y184.id y184.source y184.account y184.made y184.about y184.kind y184.cents y184.of_)) fun l266 => some l266) fun x273 => Option.bind (chk .i64 (x125 - 1)) fun n274 => some (.inl (n274, x273))) (some (.inr x126))) (n124, l119)) fun x275 => some x275) fun X' => X'.Perm (X ++ [y]) ∧ X'.Pairwise le := by
        refine Ret.bind (Ret.appo (by simp; omega) (by simp; omega) ?_)
        rw [show ((X ++ [y]).length : Int) - 1 = (X.length : Int) by simp]
        refine Ret.bind (Ret.chk (by omega) (Ret.bind (Ret.loop (fun t : Int × List Report => ∃ A B, t.1 = (A.length : Int) ∧ t.2 = A ++ y :: B ∧ X = A ++ B ∧ ∀ b ∈ B, lt y b) (fun t => t.1.toNat) ⟨X, [], rfl, rfl, by simp, fun b hb => by cases hb⟩ ?_)))
        rintro ⟨_, _⟩ ⟨A, B, rfl, rfl, hX, hB⟩
        dsimp only
        have hAl : A.length ≤ X.length := by rw [hX]; simp
        have stop : (∀ a ∈ A, le a y) → (A ++ y :: B).Perm (X ++ [y]) ∧ (A ++ y :: B).Pairwise le := fun ha => by
          rw [hX] at hs ⊢
          rw [List.pairwise_append] at hs
          refine ⟨?_, List.pairwise_append.2 ⟨hs.1, List.pairwise_cons.2 ⟨fun b hb => ?_, hs.2.1⟩, fun a h1 b h2 => ?_⟩⟩
          · rw [List.append_assoc]
            exact (List.Perm.refl A).append (List.perm_append_singleton y B).symm
          · have := hB b hb; unfold lt at this; unfold le; omega
          · rcases List.mem_cons.1 h2 with rfl | h2
            · exact ha a h1
            · exact hs.2.2 a h1 b h2
        have gy : (A ++ y :: B)[A.length]? = some y := by simp
        rcases List.eq_nil_or_concat A with rfl | ⟨A', a, rfl⟩
        · refine Ret.bind (Ret.condF rfl (Ret.ok (Ret.condF rfl (Ret.done ?_))))
          exact Ret.ok (stop fun a ha => by cases ha)
        · rw [List.concat_eq_append] at *
          have ga : ((A' ++ [a]) ++ y :: B)[A'.length]? = some a := by simp
          have hl1 : ((A' ++ [a]).length : Int) = (A'.length : Int) + 1 := by simp
          have hl2 : ((A'.length : Int) + 1 - 1) = (A'.length : Int) := by omega
          have gy' : ixo ((A' ++ [a]) ++ y :: B) ((A'.length : Int) + 1) = some y := by
            have := ixo_at gy
            rwa [hl1] at this
          rw [hl1, decide_eq_true (by omega)]
          simp only [List.length_append, List.length_singleton] at hAl
          refine Ret.bind (Ret.condT rfl (Ret.bind (Ret.val gy' (Ret.bind (Ret.chk (by omega) ?_)))))
          rw [hl2]
          refine Ret.bind (Ret.ixo ga (Ret.bind (Ret.val (before_is hK) (Ret.ok ?_))))
          by_cases c : lt y a
          · rw [decide_eq_true c]
            refine Ret.condT rfl (Ret.bind (Ret.bind (Ret.chk (by omega) ?_)))
            refine Ret.bind (Ret.ixo ga (Ret.bind (Ret.val gy' (Ret.bind (Ret.val gy' (Ret.bind (Ret.chk (by omega) ?_)))))))
            refine Ret.bind (Ret.setoI (by omega) (by simp; omega) ?_)
            have e1 : ((A' ++ [a]) ++ y :: B).set ((A'.length : Int) + 1).toNat a = A' ++ a :: a :: B := by
              rw [show ((A'.length : Int) + 1).toNat = A'.length + 1 by omega]
              simp
            show Ret (Option.bind (ixo (((A' ++ [a]) ++ y :: B).set ((A'.length : Int) + 1).toNat a) (A'.length : Int)) _) _
            rw [e1]
            refine Ret.bind (Ret.ixo (y := a) (by simp) (Ret.bind (Ret.seto (by simp) (Ret.ok (Ret.bind (Ret.chk (by omega) ?_))))))
            have e2 : (A' ++ a :: a :: B).set A'.length (Report.mk y.id y.source y.account y.made y.about y.kind y.cents y.of_) = A' ++ y :: a :: B := by
              show (A' ++ a :: a :: B).set A'.length y = _
              simp
            rw [e2]
            refine Ret.next ⟨⟨A', a :: B, rfl, rfl, by rw [hX]; simp, fun b hb => ?_⟩, by dsimp only; omega⟩
            rcases List.mem_cons.1 hb with rfl | hb
            · exact c
            · exact hB b hb
          · rw [decide_eq_false c]
            refine Ret.condF rfl (Ret.done (Ret.ok (stop fun x hx => ?_)))
            have hya : le a y := by unfold lt at c; unfold le; omega
            rcases List.mem_append.1 hx with hx | hx
            · rw [hX, List.pairwise_append, List.pairwise_append] at hs
              have := hs.1.2.2 x hx a (by simp)
              unfold le at *; omega
            · have : x = a := by simpa using hx
              rw [this]; exact hya
      have go : ∀ a c, y = Report.mk K[n].id K[n].source K[n].account K[n].made a K[n].kind c K[n].of_ → Ret (Option.bind (appo 64 X [Report.mk K[n].id K[n].source K[n].account K[n].made a K[n].kind c K[n].of_]) fun l119 => Option.bind (chk .i64 ((l119.length : Int) - 1)) fun n124 => Option.bind (loopM (S := Int × (List Report)) (R := ((List Report))) (fun (x125, x126) => Option.bind (cond (decide (0 < x125)) (Option.bind (ixo x126 x125) fun y128 => Option.bind (chk .i64 (x125 - 1)) fun n142 => Option.bind (ixo x126 n142) fun y143 => Option.bind (P.ref03_before y128 y143) fun z157 => some z157) (some false)) fun x167 => cond x167 (Option.bind (Option.bind (chk .i64 (x125 - 1)) fun n169 => Option.bind (ixo x126 n169) fun y170 => Option.bind (ixo x126 x125) fun y184 => Option.bind (ixo x126 x125) fun y198 => Option.bind (chk .i64 (x125 - 1)) fun n215 => Option.bind (seto x126 x125 (Report.mk y170.id y170.source y170.account y170.made y170.about y170.kind y170.cents y170.of_)) fun l231 => Option.bind (ixo l231 n215) fun y238 => Option.bind (seto l231 n215 (Report.mk y184.id y184.source y184.account y184.made y184.about y184.kind y184.cents y184.of_)) fun l266 => some l266) fun x273 => Option.bind (chk .i64 (x125 - 1)) fun n274 => some (.inl (n274, x273))) (some (.inr x126))) (n124, l119)) fun x275 => some x275) fun X' => Ret (Option.bind (chk .i64 ((n : Int) + 1)) fun n277 => some (Sum.inl (X', n277) : (List Report × Int) ⊕ List Report)) (Nxt (fun s' : List Report × Int => (∃ n : Nat, s'.2 = n ∧ n ≤ K.length ∧ s'.1.Perm (((K.take n).filter fun o => decide (o.kind ≤ 7 ∧ WdR K o.id none)).map (fix K)) ∧ s'.1.Pairwise le) ∧ K.length - s'.2.toNat < K.length - (n : Int).toNat) fun a => Ret (some a) Q) := fun a c hyy => by
        rw [← hyy]
        exact rest.mono fun X' hX' => fin X' (hX'.1.trans hperm) hX'.2
      cases z with
      | none =>
        refine Ret.bind (Ret.condF rfl (Ret.ok (Ret.ok (go _ _ ?_))))
        rw [hy]; unfold fix; rw [hb]
      | some c =>
        have hcK : c ∈ K := hz.1
        have hc0 := (hK.v c hcK).2.1.1
        refine Ret.bind (Ret.condT (decide_eq_true (show (0 : Int) ≤ c.id from hc0)) (Ret.bind (Ret.bind (r_At (by omega) (fun k c' hk he => ?_) fun hno => absurd rfl (hno c hcK)))))
        obtain rfl := hK.one (List.mem_of_getElem? hk) hcK he
        refine Ret.bind (Ret.ixo hk (Ret.bind (r_At (by omega) (fun k2 c2 hk2 he2 => ?_) fun hno => absurd rfl (hno c' hcK))))
        obtain rfl := hK.one (List.mem_of_getElem? hk2) hcK he2
        refine Ret.bind (Ret.ixo hk2 (Ret.ok (Ret.ok (Ret.ok (go _ _ ?_)))))
        rw [hy]; unfold fix; rw [hb]
    · refine Ret.condT (decide_eq_true ((wd_pos hK hw).2 c2)) (Ret.ok (fin X (skip fun h9 => c2 (hw.uniq h9.2)) hs))
  · have hge : n = K.length := by have := of_decide_eq_false h1; omega
    subst hge
    rw [List.take_length] at hp
    exact Ret.done (Ret.ok (h X hp hs))
end
end S
end Go.Proofs.YtepjkmoipjeghaaDoor
namespace Go.Proofs.YtepjkmoipjeghaaDoor
open Go Go.Sx
namespace S
/-- A fact with its correction, as the desk has it. -/
def cv (d : Desk) (o : Report) : Report := match d.fixed o.id with
  | none => o
  | some j => Report.mk o.id o.source o.account o.made ((d.store.reports j).getD (Report.mk 0 0 0 0 0 0 0 0)).about o.kind ((d.store.reports j).getD (Report.mk 0 0 0 0 0 0 0 0)).cents o.of_
theorem ite_c {α : Type} {p q : Prop} [Decidable p] [Decidable q] (h : p ↔ q) {a b : α} : (if p then a else b) = if q then a else b := by
  by_cases c : p
  · rw [if_pos c, if_pos (h.1 c)]
  · rw [if_neg c, if_neg fun c' => c (h.2 c')]
theorem nd_of {α β : Type} {f : α → β} {l : List α} (h : (l.map f).Nodup) : l.Nodup := (List.pairwise_map.1 h).imp fun h e => h (congrArg f e)
theorem fold_app : ∀ (l : List (Int × Report)) (pre : List Report), pre.length + l.length ≤ 1000000 → List.foldlM (fun (x158 : (List Report)) (y159 : Int × Report) => Option.bind (appo 64 x158 ([(Report.mk y159.2.id y159.2.source y159.2.account y159.2.made y159.2.about y159.2.kind y159.2.cents y159.2.of_)] : List Report)) fun l190 => some l190) pre l = some (pre ++ l.map (·.2))
  | [], pre, _ => by simp
  | x :: l, pre, h => by
    rw [List.length_cons] at h
    rw [List.foldlM_cons, appo_ok (by simp; omega) (by simp; omega)]
    show List.foldlM _ (pre ++ [x.2]) l = _
    rw [fold_app l (pre ++ [x.2]) (by simp; omega)]
    simp
section
variable {K : List Report} (hK : Ok K) {d : Desk} (hd : Dk K d)
include hK hd
theorem goneN {i : Int} : d.gone i = none ↔ WdR K i none := by
  constructor
  · intro h; have := hd.gone i; rwa [h] at this
  · intro h; exact (hd.gone i).uniq h
theorem co_iff {o : Report} (ho : o ∈ K) (h7 : o.kind ≤ 7) (hw : WdR K o.id none) (r : Report) : Co' K o.id r ↔ Co K o r := by
  constructor
  · rintro ⟨o2, h1, h2, _, _, h5⟩
    rwa [← hK.one h1 ho h2]
  · intro h; exact ⟨o, ho, rfl, h7, hw, h⟩
theorem fixed_is {o : Report} (ho : o ∈ K) (h7 : o.kind ≤ 7) (hw : WdR K o.id none) : ∃ z : Option Report, d.fixed o.id = z.map (·.id) ∧ Latest (Co K o) K z := by
  obtain ⟨z, h1, h2⟩ := hd.fixed o.id
  exact ⟨z, h1, h2.congr fun r => and_congr_right fun _ => co_iff hK hd ho h7 hw r⟩
theorem cv_fix {o : Report} (ho : o ∈ K) (h7 : o.kind ≤ 7) (hw : WdR K o.id none) : cv d o = fix K o := by
  obtain ⟨z, h1, h2⟩ := fixed_is hK hd ho h7 hw
  unfold cv fix
  rw [best_is hK h2, h1]
  cases z with
  | none => rfl
  | some c =>
    have hc : c ∈ K := h2.1
    simp only [Option.map_some, (hd.reports c.id c).2 ⟨hc, rfl⟩, Option.getD_some]
theorem goneL : Lists d.gone ((K.filter fun o => (d.gone o.id).isSome).map fun o => (o.id, (d.gone o.id).getD 0)) := by
  refine ⟨?_, fun a y => ?_⟩
  · rw [List.map_map]
    exact (List.Sublist.map _ List.filter_sublist).nodup hK.nd
  · rw [List.mem_map]
    constructor
    · rintro ⟨o, ho, e⟩
      rw [List.mem_filter] at ho
      obtain ⟨z, hz⟩ := Option.isSome_iff_exists.1 ho.2
      cases e
      rw [hz]; rfl
    · intro h
      have := hd.gone a
      rw [h] at this
      obtain ⟨r, _, ⟨_, _, h3, o, ha, _⟩, _⟩ := this
      have e : o.id = a := by rw [ha.2.1, h3]
      refine ⟨o, List.mem_filter.2 ⟨ha.1, by rw [e, h]; rfl⟩, by rw [e, h]; rfl⟩
open Classical in
theorem r_facts {Q : List Report → Prop} (h : ∀ out, out.Perm (T K) → out.Pairwise le → Q out) : Ret (P.account_facts d) Q := by
  have hl0 := hd.reports.lists hK
  have hKl := hK.len
  unfold P.account_facts
  refine Ret.bind (r_anyM hl0 (fun s : FMap Int Report => ∀ i r', s i = some r' ↔ ∃ o ∈ K, o.id = i ∧ o.kind ≤ 7 ∧ r' = cv d o) (fun lx hlx => ?_) (fun s s' hs hs' => funext fun i => Option.ext fun r' => (hs i r').trans (hs' i r').symm) fun m1 hm1 => ?_)
  · refine Exists.imp (fun s (h : _ ∧ _) => ⟨h.1, fun i r' => (h.2.2 i r').trans (by
      constructor
      · rintro ⟨o, ho, h9⟩; exact ⟨o, by rwa [List.nil_append, hd.reports.mem hlx] at ho, h9⟩
      · rintro ⟨o, ho, h9⟩; exact ⟨o, by rwa [List.nil_append, hd.reports.mem hlx], h9⟩)⟩) (foldM_inv (fun (pre : List (Int × Report)) (s : FMap Int Report) => (∀ x ∈ pre, x.2 ∈ K) ∧ ∀ i r', s i = some r' ↔ ∃ o ∈ pre.map (·.2), o.id = i ∧ o.kind ≤ 7 ∧ r' = cv d o) lx [] (fnone : FMap Int Report) ⟨(fun x hx => by simp at hx), fun i r' => by simp [fnone]⟩ (fun pre x s hx hI => ?_))
    obtain ⟨xk, o⟩ := x
    obtain ⟨ho, hok⟩ := (hd.reports xk o).1 ((hlx.2 _ _).1 hx)
    subst hok
    obtain ⟨hpre, hI⟩ := hI
    have hpre' : ∀ x ∈ pre ++ [(o.id, o)], x.2 ∈ K := fun x hx => by
      rcases List.mem_append.1 hx with h9 | h9
      · exact hpre x h9
      · have : x = (o.id, o) := by simpa using h9
        rw [this]; exact ho
    show Ret _ fun s' : FMap Int Report => (∀ x ∈ pre ++ [(o.id, o)], x.2 ∈ K) ∧ ∀ i r', s' i = some r' ↔ ∃ o' ∈ (pre ++ [(o.id, o)]).map (·.2), o'.id = i ∧ o'.kind ≤ 7 ∧ r' = cv d o'
    have fin : ∀ a c, cv d o = Report.mk o.id o.source o.account o.made a o.kind c o.of_ → Ret (Option.bind (P.account_fact (Report.mk o.id o.source o.account o.made a o.kind c o.of_)) fun z111 => Option.bind (cond z111 (some (fput s o.id (Report.mk o.id o.source o.account o.made a o.kind c o.of_))) (some s)) fun x120 => some x120) fun s' : FMap Int Report => (∀ x ∈ pre ++ [(o.id, o)], x.2 ∈ K) ∧ ∀ i r', s' i = some r' ↔ ∃ o' ∈ (pre ++ [(o.id, o)]).map (·.2), o'.id = i ∧ o'.kind ≤ 7 ∧ r' = cv d o' := fun a c e => by
      rw [← e]
      refine Ret.bind (Ret.val (show P.account_fact (cv d o) = some (decide (o.kind ≤ 7)) by rw [e]; rfl) (Ret.bind (Ret.cond (fun h1 => Ret.ok (Ret.ok ⟨hpre', fun i r' => ?_⟩)) fun h1 => Ret.ok (Ret.ok ⟨hpre', fun i r' => ?_⟩))))
      · have h1 := of_decide_eq_true h1
        rw [List.map_append]
        unfold fput
        by_cases ei : i = o.id
        · subst ei
          rw [if_pos rfl]
          constructor
          · intro h9
            exact ⟨o, List.mem_append.2 (.inr (by simp)), rfl, h1, (Option.some.inj h9).symm⟩
          · rintro ⟨o', h2, h3, h4, h5⟩
            have : o' = o := by
              rcases List.mem_append.1 h2 with h9 | h9
              · obtain ⟨x, hx1, rfl⟩ := List.mem_map.1 h9
                exact hK.one (hpre x hx1) ho h3
              · simpa using h9
            rw [h5, this]
        · rw [if_neg ei, hI]
          constructor
          · rintro ⟨o', h2, h3⟩; exact ⟨o', List.mem_append.2 (.inl h2), h3⟩
          · rintro ⟨o', h2, h3⟩
            rcases List.mem_append.1 h2 with h9 | h9
            · exact ⟨o', h9, h3⟩
            · have : o' = o := by simpa using h9
              exact absurd (by rw [← h3.1, this]) ei
      · have h1 := of_decide_eq_false h1
        rw [List.map_append, hI]
        constructor
        · rintro ⟨o', h2, h3⟩; exact ⟨o', List.mem_append.2 (.inl h2), h3⟩
        · rintro ⟨o', h2, h3⟩
          rcases List.mem_append.1 h2 with h9 | h9
          · exact ⟨o', h9, h3⟩
          · have : o' = o := by simpa using h9
            exact absurd (this ▸ h3.2.1) h1
    dsimp only
    cases hf : d.fixed o.id with
    | none =>
      refine Ret.bind (Ret.mono (Ret.bind (Ret.bind (Ret.ok (Ret.bind (Ret.condF rfl (Ret.ok (Ret.ok (fin _ _ ?_)))))))) fun a ha => Ret.ok ha)
      unfold cv; rw [hf]
    | some j =>
      refine Ret.bind (Ret.mono ?_ fun a ha => Ret.ok ha)
      refine Ret.bind (Ret.bind (Ret.ok (Ret.bind (Ret.condT rfl ?_))))
      refine Ret.bind (Ret.bind (Ret.ok (Ret.bind (Ret.ok (Ret.ok (Ret.ok (Ret.ok (fin _ _ ?_))))))))
      unfold cv; rw [hf]; rfl
  refine Ret.bind (r_anyM (goneL hK hd) (fun s : FMap Int Report => ∀ i, s i = if (d.gone i).isSome then none else m1 i) (fun lx hlx => ?_) (fun s s' hs hs' => funext fun i => (hs i).trans (hs' i).symm) fun m2 hm2 => ?_)
  · classical
    refine Exists.imp (fun s (h : _ ∧ _) => ⟨h.1, fun i => (h.2 i).trans (ite_c ?_)⟩) (foldM_inv (fun (pre : List (Int × Int)) (s : FMap Int Report) => ∀ i, s i = if ∃ y, (i, y) ∈ pre then none else m1 i) lx [] m1 (fun i => by simp) (fun pre x s hx hI => ⟨_, rfl, fun i => ?_⟩))
    · unfold fdel
      by_cases e : i = x.1
      · rw [if_pos e, if_pos ⟨x.2, List.mem_append.2 (.inr (by rw [e]; simp))⟩]
      · rw [if_neg e, hI]
        refine ite_c (exists_congr fun y => ?_)
        rw [List.mem_append]
        constructor
        · exact .inl
        · rintro (h9 | h9)
          · exact h9
          · have : (i, y) = x := by simpa using h9
            exact absurd (by rw [← this]) e
    · rw [List.nil_append, Option.isSome_iff_exists]
      exact exists_congr fun y => hlx.2 i y
  have hlT : Lists m2 ((T K).map fun r => (r.id, r)) := by
    refine ⟨by rw [List.map_map]; exact T_nd hK, fun a y => ?_⟩
    rw [hm2, List.mem_map]
    constructor
    · rintro ⟨r, hr, e⟩
      cases e
      unfold T at hr
      obtain ⟨o, ho, rfl⟩ := List.mem_map.1 hr
      rw [List.mem_filter] at ho
      have h9 := of_decide_eq_true ho.2
      rw [fix_id hK, (goneN hK hd).2 h9.2]
      refine (hm1 _ _).2 ⟨o, ho.1, rfl, h9.1, (cv_fix hK hd ho.1 h9.1 h9.2).symm⟩
    · intro h1
      split at h1
      · cases h1
      rename_i h2
      obtain ⟨o, ho, rfl, h7, rfl⟩ := (hm1 _ _).1 h1
      have hw : WdR K o.id none := (goneN hK hd).1 (by simpa using h2)
      rw [cv_fix hK hd ho h7 hw]
      refine ⟨fix K o, ?_, by rw [fix_id hK]⟩
      unfold T
      exact List.mem_map.2 ⟨o, List.mem_filter.2 ⟨ho, decide_eq_true ⟨h7, hw⟩⟩, rfl⟩
  have hper : ∀ l, Lists m2 l → (l.map (·.2)).Perm (T K) := fun l hl => by
    have : l.Perm ((T K).map fun r => (r.id, r)) := by
      refine (List.perm_ext_iff_of_nodup ?_ ?_).2 fun p => ?_
      · exact nd_of hl.1
      · exact nd_of hlT.1
      · obtain ⟨a, y⟩ := p
        exact (hl.2 a y).trans (hlT.2 a y).symm
    have := this.map (·.2)
    rwa [List.map_map, show ((fun p : Int × Report => p.2) ∘ fun r : Report => (r.id, r)) = id from rfl, List.map_id] at this
  have hone : ∀ l, Lists m2 l → Ret (Option.bind (List.foldlM (fun (x158 : (List Report)) (y159 : Int × Report) => Option.bind (appo 64 x158 ([(Report.mk y159.2.id y159.2.source y159.2.account y159.2.made y159.2.about y159.2.kind y159.2.cents y159.2.of_)] : List Report)) fun l190 => some l190) [] l) fun x195 => Option.bind (P.account_ordered_74 x195 ([75, 76] : List Nat)) fun z202 => some z202) fun out => out.Perm (T K) ∧ out.Pairwise le := fun l hl => by
    have hp := hper l hl
    have hlen := hp.length_eq
    have := T_len hK
    rw [List.length_map] at hlen
    rw [fold_app l [] (by simp; omega), List.nil_append, bindS]
    refine Ret.bind (r_ordered ((hp.map _).nodup_iff.2 (T_nd hK)) (by rw [List.length_map]; omega) fun out h1 h2 => Ret.ok ⟨h1.trans hp, h2⟩)
  obtain ⟨out, h1, h2, h3⟩ := hone _ hlT
  refine ⟨out, anyK_of hlT fun l hl => ?_, h out h2 h3⟩
  obtain ⟨out', h4, h5, h6⟩ := hone l hl
  rw [h4, two_one (h2.trans h5.symm) h3 h6 ((h2.map _).nodup_iff.2 (T_nd hK))]
theorem r_collect (hin : ∀ r ∈ K, InR r) {Q : List Report → Prop} (h : ∀ out, out.Perm (T K) → out.Pairwise le → Q out) : Ret (P.slices_Collect_36 d) Q := by
  classical
  unfold P.slices_Collect_36
  refine Ret.bind (r_facts hK hd fun out h1 h2 => ?_)
  have hlen := h1.length_eq
  have := T_len hK
  rw [if_pos]
  · exact Ret.ok (h out h1 h2)
  refine ⟨by omega, fun r hr => ?_⟩
  have hr := h1.mem_iff.1 hr
  unfold T at hr
  obtain ⟨o, ho, rfl⟩ := List.mem_map.1 hr
  rw [List.mem_filter] at ho
  have h9 := of_decide_eq_true ho.2
  obtain ⟨z, _, hz⟩ := fixed_is hK hd ho.1 h9.1 h9.2
  have hb := best_is hK hz
  unfold fix
  rw [hb]
  have h1 := hin o ho.1
  cases z with
  | none => exact h1
  | some c =>
    have h2 := hin c hz.1
    exact ⟨h1.1, h1.2.1, h1.2.2.1, h1.2.2.2.1, h2.2.2.2.2.1, h1.2.2.2.2.2.1, h2.2.2.2.2.2.2.1, h1.2.2.2.2.2.2.2⟩
end
theorem r_same {a : List Report} (hl : a.length ≤ 1000000) {Q : Bool → Prop} (h : Q true) : Ret (P.ref03_SameReports a a) Q := by
  unfold P.ref03_SameReports
  refine Ret.condF (by simp) (Ret.bind (Ret.loop (fun t : Int => ∃ n : Nat, t = n ∧ n ≤ a.length) (fun t => a.length - t.toNat) ⟨0, rfl, Nat.zero_le _⟩ ?_))
  rintro _ ⟨n, rfl, hn⟩
  refine Ret.cond (fun h1 => ?_) fun h1 => ?_
  · have hlt : n < a.length := by have := of_decide_eq_true h1; omega
    have g := List.getElem?_eq_getElem hlt
    exact Ret.bind (Ret.ixo g (Ret.bind (Ret.ixo g (Ret.condF (by simp) (Ret.bind (Ret.chk (by omega) (Ret.next ⟨⟨n + 1, by omega, by omega⟩, by omega⟩)))))))
  · exact Ret.done (Ret.elimL (Ret.ok h))
end S
end Go.Proofs.YtepjkmoipjeghaaDoor
namespace Go.Proofs.YtepjkmoipjeghaaDoor
open Go Go.Sx
namespace S
theorem chk0 {l : List Report} (h : chkE l = 0) : l.length ≤ 60 ∧ (∀ r ∈ l, V r) ∧ Cons l := by
  unfold chkE at h
  split at h
  · exact absurd h (by decide)
  split at h
  · exact absurd h (by decide)
  split at h
  · exact absurd h (by decide)
  rename_i h1 h2 h3
  exact ⟨by omega, fun r hr => Classical.byContradiction fun h9 => h2 ⟨r, hr, h9⟩, Classical.not_not.1 h3⟩
theorem p_ain {known : Int} : P.account_in 0 100000 [known] = some (inB 0 100000 known) := by
  rw [p_in (by simp)]; simp
section
variable {l : List Report} (hin : ∀ r ∈ l, InR r) {known : Int}
include hin
/-- The answers of both. -/
def StA (l : List Report) (known : Int) (z : List Report × Int) : Prop := (chkE l ≠ 0 ∧ z = ([], chkE l)) ∨ (chkE l = 0 ∧ inB 0 100000 known = false ∧ z = ([], 2)) ∨ (chkE l = 0 ∧ inB 0 100000 known = true ∧ ∃ K, Kn l known K ∧ z.1.Perm (T K) ∧ z.1.Pairwise le ∧ z.2 = 0)
omit hin in
theorem ok_of {K : List Report} (h0 : chkE l = 0) (hk : Kn l known K) : Ok K := by
  obtain ⟨h1, h2, h3⟩ := chk0 h0
  exact ⟨fun r hr => h2 r ((hk.mem r).1 hr).1, hk.nd, Nat.le_trans hk.len h1⟩
theorem r_aStanding {Q : List Report × Int → Prop} (h : ∀ z, StA l known z → Q z) : Ret (P.account_Standing l known) Q := by
  unfold P.account_Standing
  refine Ret.bind (r_acheck hin ?_)
  by_cases c : chkE l = 0
  · obtain ⟨h1, h2, h3⟩ := chk0 c
    refine Ret.condF (by simp [c]) ?_
    rw [p_ain, bindS]
    cases ci : inB 0 100000 known with
    | false => exact Ret.condT rfl (Ret.ok (h _ (.inr (.inl ⟨c, ci, rfl⟩))))
    | true =>
      refine Ret.condF rfl ?_
      obtain ⟨K, _, hk⟩ : Ret (P.ref03_Known l known) (Kn l known) := r_Known h1 h3 fun K hk => hk
      refine Ret.bind (r_open h2 h1 h3 hk fun d hd => Ret.bind (Ret.ok (Ret.bind (r_collect (ok_of c hk) hd (fun r hr => hin r ((hk.mem r).1 hr).1) fun out h4 h5 => Ret.ok (h _ (.inr (.inr ⟨c, ci, K, hk, h4, h5, rfl⟩)))))))
  · exact Ret.condT (by simp [c]) (Ret.ok (h _ (.inl ⟨c, rfl⟩)))
theorem r_rStanding {Q : List Report × Int → Prop} (h : ∀ z, StA l known z → Q z) : Ret (P.ref03_Standing l known) Q := by
  unfold P.ref03_Standing
  refine Ret.bind (r_rcheck hin ?_)
  by_cases c : chkE l = 0
  · obtain ⟨h1, h2, h3⟩ := chk0 c
    refine Ret.condF (by simp [c]) ?_
    rw [p_within, bindS]
    cases ci : inB 0 100000 known with
    | false => exact Ret.condT rfl (Ret.ok (h _ (.inr (.inl ⟨c, ci, rfl⟩))))
    | true =>
      refine Ret.condF rfl (Ret.bind (r_Known h1 h3 fun K hk => Ret.bind (r_standing (ok_of c hk) fun out h4 h5 => Ret.ok (h _ (.inr (.inr ⟨c, ci, K, hk, h4, h5, rfl⟩))))))
  · exact Ret.condT (by simp [c]) (Ret.ok (h _ (.inl ⟨c, rfl⟩)))
omit hin in
theorem Kn.perm {K K' : List Report} (h : Kn l known K) (h' : Kn l known K') : K.Perm K' :=
  (List.perm_ext_iff_of_nodup (nd_of h.nd) (nd_of h'.nd)).2 fun r => (h.mem r).trans (h'.mem r).symm
omit hin in
theorem Aim.pm {K K' : List Report} (hp : K.Perm K') (r o : Report) : Aim K r o ↔ Aim K' r o := and_congr_left fun _ => hp.mem_iff
omit hin in
theorem Wd.pm {K K' : List Report} (hp : K.Perm K') (i : Int) (r : Report) : Wd K i r ↔ Wd K' i r := by
  unfold Wd
  rw [hp.mem_iff]
  refine and_congr_right fun _ => and_congr_right fun _ => and_congr_right fun _ => exists_congr fun o => and_congr_left fun _ => Aim.pm hp r o
omit hin in
theorem WdR.pm {K K' : List Report} (hp : K.Perm K') {i : Int} {z : Option Int} (h : WdR K i z) : WdR K' i z :=
  Least.congr h fun r => and_congr hp.mem_iff (Wd.pm hp i r)
omit hin in
theorem WdR.pi {K K' : List Report} (hp : K.Perm K') {i : Int} {z : Option Int} : WdR K i z ↔ WdR K' i z := ⟨WdR.pm hp, WdR.pm hp.symm⟩
omit hin in
theorem Co.pm {K K' : List Report} (hp : K.Perm K') (o r : Report) : Co K o r ↔ Co K' o r := by
  unfold Co
  rw [Aim.pm hp, WdR.pi hp]
omit hin in
theorem T_perm {K K' : List Report} (hK : Ok K) (hK' : Ok K') (hp : K.Perm K') : (T K).Perm (T K') := by
  have hf : fix K = fix K' := funext fun o => by
    have hb : best K o = best K' o := by
      unfold best
      classical
      have e : ∀ z, Latest (Co K o) K z ↔ Latest (Co K' o) K' z := fun z => ⟨fun h => h.congr fun r => and_congr hp.mem_iff (Co.pm hp o r), fun h => h.congr fun r => and_congr hp.symm.mem_iff (Co.pm hp.symm o r)⟩
      have h1 : ∀ p q : Report → Prop, p = q → (if h : ∃ r, p r then some h.choose else none) = (if h : ∃ r, q r then some h.choose else none) := by
        rintro p q rfl; rfl
      exact h1 (fun r => Latest (Co K o) K (some r)) (fun r => Latest (Co K' o) K' (some r)) (funext fun r => propext (e (some r)))
    unfold fix
    rw [hb]
  unfold T
  rw [hf]
  refine List.Perm.map _ ?_
  exact (List.Perm.of_eq (List.filter_congr fun o _ => decide_eq_decide.2 (and_congr_right fun _ => WdR.pi hp))).trans (hp.filter _)
omit hin in
theorem StA.uniq {z z' : List Report × Int} (h : StA l known z) (h' : StA l known z') : z = z' ∧ z.1.length ≤ 60 := by
  rcases h with ⟨c, rfl⟩ | ⟨c, ci, rfl⟩ | ⟨c, ci, K, hk, hp, hs, h0⟩ <;> rcases h' with ⟨c', rfl⟩ | ⟨c', ci', rfl⟩ | ⟨c', ci', K', hk', hp', hs', h0'⟩
  · exact ⟨rfl, by simp⟩
  · exact absurd c' c
  · exact absurd c' c
  · exact absurd c c'
  · exact ⟨rfl, by simp⟩
  · rw [ci] at ci'; cases ci'
  · exact absurd c c'
  · rw [ci] at ci'; cases ci'
  · have hKo := ok_of c hk
    have hKo' := ok_of c hk'
    refine ⟨Prod.ext (two_one (hp.trans ((T_perm hKo hKo' (hk.perm hk')).trans hp'.symm)) hs hs' ((hp.map _).nodup_iff.2 (T_nd hKo))) (h0.trans h0'.symm), ?_⟩
    rw [hp.length_eq]; exact T_len hKo
end
end S
end Go.Proofs.YtepjkmoipjeghaaDoor
namespace Go.Proofs.YtepjkmoipjeghaaDoor
open Go Go.Sx
namespace S
open Classical in
/-- The withdrawal of a report. -/
noncomputable def wd (K : List Report) (i : Int) : Option Int := if h : ∃ w, WdR K i (some w) then some h.choose else none
theorem wd_is {K : List Report} {i : Int} {z : Option Int} (h : WdR K i z) : wd K i = z := by
  unfold wd
  split
  · rename_i h1
    exact h1.choose_spec.uniq h
  · rename_i h1
    cases z with
    | none => rfl
    | some w => exact absurd ⟨w, h⟩ h1
/-- The report of an Id. -/
def atI (K : List Report) (i : Int) : Option Report := K.find? fun r => decide (r.id = i)
open Classical in
noncomputable def ftOf (K : List Report) (i : Int) : Int × Int × Int :=
  match atI K i with
  | none => (0, 0, 6)
  | some r =>
    if r.kind = 9 then (if ∃ o, Aim K r o ∧ o.kind ≠ 9 then (4, -1, 0) else (3, -1, 0))
    else match wd K i with
    | some w => (2, w, 0)
    | none =>
      if r.kind = 8 then (if ∃ o ∈ K, o.id = r.of_ ∧ o.kind ≤ 7 ∧ wd K o.id = none ∧ best K o = some r then (4, -1, 0) else (3, -1, 0))
      else match best K r with
      | none => (0, -1, 0)
      | some c => (1, c.id, 0)
section
variable {K : List Report} (hK : Ok K)
include hK
theorem atI_some {r : Report} (h : r ∈ K) : atI K r.id = some r := by
  unfold atI
  cases hq : K.find? fun x => decide (x.id = r.id) with
  | none => exact absurd (decide_eq_true rfl) (List.find?_eq_none.1 hq r h)
  | some s =>
    have h1 := List.mem_of_find?_eq_some hq
    have h2 := of_decide_eq_true (p := s.id = r.id) (List.find?_some (p := fun x : Report => decide (x.id = r.id)) hq)
    rw [hK.one h1 h h2]
theorem atI_none {i : Int} (h : ∀ r ∈ K, r.id ≠ i) : atI K i = none := by
  unfold atI
  rw [List.find?_eq_none]
  intro r hr
  simpa using h r hr
theorem wd_nine {r : Report} (hr : r ∈ K) (h9 : r.kind = 9) : WdR K r.id none := fun s hs hw => by
  obtain ⟨_, _, h3, o, ha, ho⟩ := hw
  exact ho (by rw [hK.one ha.1 hr (by rw [ha.2.1, h3])]; exact h9)
theorem r_aFate0 {l : List Report} (hinr : ∀ r ∈ l, InR r) (h0 : chkE l = 0) {known : Int} (hi : inB 0 100000 known = true) (hk : Kn l known K) {n : Int} {Q : Int × Int × Int → Prop} (h : Q (ftOf K n)) : Ret (P.account_Fate l n known) Q := by
  obtain ⟨hl, hin, hC⟩ := chk0 h0
  unfold P.account_Fate
  refine Ret.bind (r_acheck hinr ?_)
  refine Ret.condF (by simp [h0]) ?_
  rw [p_ain, bindS, hi]
  refine Ret.condF rfl (Ret.bind (r_open hin hl hC hk fun d hd => ?_))
  classical
  refine Ret.bind (Ret.ok ?_)
  have hrep := hd.reports
  cases hq : d.store.reports n with
  | none =>
    refine Ret.condT rfl (Ret.ok ?_)
    have : atI K n = none := atI_none hK fun r hr e => by
      rw [(hrep n r).2 ⟨hr, e⟩] at hq; cases hq
    unfold ftOf at h
    rw [this] at h
    exact h
  | some r =>
    obtain ⟨hr, rfl⟩ := (hrep n r).1 hq
    have hat := atI_some hK hr
    unfold ftOf at h
    rw [hat] at h
    dsimp only at h
    refine Ret.condF rfl (Ret.bind (Ret.ok (Ret.bind (Ret.ok ?_))))
    simp only [Option.getD_some]
    have hwd := wd_is (hd.gone r.id)
    have hv := (hK.v r hr).1
    refine Ret.bind (r_aim hK hrep (r := Report.mk r.id r.source r.account r.made r.about r.kind r.cents r.of_) (fun o ha => ?_) fun o' hna => ?_)
    all_goals dsimp only
    · have ha : Aim K r o := ha
      by_cases c9 : r.kind = 9
      · have hg : d.gone r.id = none := (hd.gone r.id).uniq (wd_nine hK hr c9)
        rw [if_pos c9] at h
        rw [decide_eq_true c9, decide_eq_false (show ¬ r.kind = 8 by omega), hg]
        refine Ret.bind (Ret.condT rfl (Ret.condT rfl (Ret.ok (Ret.bind (Ret.bind (Ret.condF rfl (Ret.ok (Ret.ok ?_))))))))
        refine Ret.condF rfl ?_
        by_cases c : o.kind = 9
        · rw [if_neg (fun ⟨o2, h1, h2⟩ => h2 (by rw [hK.one h1.1 ha.1 (by rw [h1.2.1, ha.2.1])]; exact c))] at h
          rw [decide_eq_true c]
          refine Ret.condF rfl (Ret.bind (Ret.val (show P.account_fact _ = some (decide (r.kind ≤ 7)) from rfl) ?_))
          rw [decide_eq_false (show ¬ r.kind ≤ 7 by omega)]
          exact Ret.condT rfl (Ret.ok h)
        · rw [if_pos ⟨o, ha, c⟩] at h
          rw [decide_eq_false c]
          exact Ret.condT rfl (Ret.ok h)
      · rw [if_neg c9, hwd] at h
        rw [decide_eq_false c9]
        refine Ret.bind (Ret.condF rfl (Ret.ok ?_))
        cases hg : d.gone r.id with
        | some w =>
          rw [hg] at h
          refine Ret.bind (Ret.mono (Q := fun _ => True) ?_ fun _ _ => Ret.condT rfl (Ret.ok h))
          by_cases c8 : r.kind = 8
          · rw [decide_eq_true c8]
            refine Ret.bind (Ret.condT rfl (Ret.bind (Ret.ok (Ret.bind (Ret.cond (fun _ => Ret.ok (Ret.ok (Ret.ok trivial))) fun _ => Ret.ok (Ret.ok (Ret.ok trivial)))))))
          · rw [decide_eq_false c8]
            exact Ret.bind (Ret.condF rfl (Ret.ok (Ret.ok trivial)))
        | none =>
          rw [hg] at h
          dsimp only at h
          by_cases c8 : r.kind = 8
          · rw [if_pos c8] at h
            rw [decide_eq_true c8]
            obtain ⟨z, hz, hz2⟩ := hd.fixed r.of_
            have hiff : (∃ o ∈ K, o.id = r.of_ ∧ o.kind ≤ 7 ∧ wd K o.id = none ∧ best K o = some r) ↔ z = some r := by
              constructor
              · rintro ⟨o1, h1, h2, h3, h4, h5⟩
                have hw : WdR K o1.id none := by
                  have := hd.gone o1.id
                  have e := wd_is this
                  rw [h4] at e
                  rwa [← e] at this
                have : Latest (Co K o1) K z := hz2.congr fun s => and_congr_right fun _ => by
                  rw [← h2]; exact co_iff hK hd h1 h3 hw s
                have := best_is hK this
                rw [← this, h5]
              · rintro rfl
                obtain ⟨o1, h1, h2, h3, h4, h5⟩ := hz2.2.1
                have h4' : WdR K o1.id none := by rw [h2]; exact h4
                refine ⟨o1, h1, h2, h3, wd_is h4', ?_⟩
                refine best_is hK (hz2.congr fun s => and_congr_right fun _ => ?_)
                rw [← h2]; exact co_iff hK hd h1 h3 h4' s
            refine Ret.bind (Ret.bind (Ret.condT rfl (Ret.bind (Ret.ok ?_))))
            rw [hz]
            have fin : ∀ b : Bool, (b = true ↔ z = some r) → Ret (cond (none : Option Int).isSome (some ((2 : Int), (none : Option Int).getD 0, (0 : Int))) (cond b (some (4, (-1), 0)) (Option.bind (P.account_fact (Report.mk r.id r.source r.account r.made r.about r.kind r.cents r.of_)) fun z109 => cond (!z109) (some (3, (-1), 0)) (cond ((d.fixed r.id).isSome) (some (1, (d.fixed r.id).getD 0, 0)) (some (0, (-1), 0)))))) Q := fun b hb => by
              refine Ret.condF rfl ?_
              cases b with
              | true =>
                rw [if_pos (hiff.2 (hb.1 rfl))] at h
                exact Ret.condT rfl (Ret.ok h)
              | false =>
                rw [if_neg (fun h9 => by have := hb.2 (hiff.1 h9); cases this)] at h
                refine Ret.condF rfl (Ret.bind (Ret.val (show P.account_fact _ = some (decide (r.kind ≤ 7)) from rfl) ?_))
                rw [decide_eq_false (show ¬ r.kind ≤ 7 by omega)]
                exact Ret.condT rfl (Ret.ok h)
            cases z with
            | none =>
              exact Ret.bind (Ret.condF rfl (Ret.ok (Ret.ok (Ret.ok (fin false (by simp))))))
            | some s =>
              refine Ret.bind (Ret.condT rfl (Ret.ok (Ret.ok (Ret.ok ?_))))
              have hs : s ∈ K := hz2.1
              refine fin (decide (s.id = r.id)) ?_
              rw [decide_eq_true_eq]
              constructor
              · intro e; rw [hK.one hs hr e]
              · intro e; rw [Option.some.inj e]
          · rw [if_neg c8] at h
            rw [decide_eq_false c8]
            refine Ret.bind (Ret.bind (Ret.condF rfl (Ret.ok (Ret.ok (Ret.condF rfl (Ret.condF rfl ?_))))))
            refine Ret.bind (Ret.val (show P.account_fact _ = some (decide (r.kind ≤ 7)) from rfl) ?_)
            have h7 : r.kind ≤ 7 := by omega
            rw [decide_eq_true h7]
            have hw : WdR K r.id none := by have := hd.gone r.id; rwa [hg] at this
            obtain ⟨z, hz, hz2⟩ := fixed_is hK hd hr h7 hw
            rw [best_is hK hz2] at h
            refine Ret.condF rfl ?_
            rw [hz]
            cases z with
            | none => exact Ret.condF rfl (Ret.ok h)
            | some c => exact Ret.condT rfl (Ret.ok h)
    · have hna : ∀ o, ¬ Aim K r o := hna
      by_cases c9 : r.kind = 9
      · have hg : d.gone r.id = none := (hd.gone r.id).uniq (wd_nine hK hr c9)
        rw [if_pos c9, if_neg (fun ⟨o2, h1, _⟩ => hna o2 h1)] at h
        rw [decide_eq_true c9, decide_eq_false (show ¬ r.kind = 8 by omega), hg]
        refine Ret.bind (Ret.condT rfl (Ret.condF rfl (Ret.ok (Ret.bind (Ret.bind (Ret.condF rfl (Ret.ok (Ret.ok ?_))))))))
        refine Ret.condF rfl (Ret.condF rfl (Ret.bind (Ret.val (show P.account_fact _ = some (decide (r.kind ≤ 7)) from rfl) ?_)))
        rw [decide_eq_false (show ¬ r.kind ≤ 7 by omega)]
        exact Ret.condT rfl (Ret.ok h)
      · rw [if_neg c9, hwd] at h
        rw [decide_eq_false c9]
        refine Ret.bind (Ret.condF rfl (Ret.ok ?_))
        cases hg : d.gone r.id with
        | some w =>
          rw [hg] at h
          refine Ret.bind (Ret.mono (Q := fun _ => True) ?_ fun _ _ => Ret.condT rfl (Ret.ok h))
          by_cases c8 : r.kind = 8
          · rw [decide_eq_true c8]
            refine Ret.bind (Ret.condT rfl (Ret.bind (Ret.ok (Ret.bind (Ret.cond (fun _ => Ret.ok (Ret.ok (Ret.ok trivial))) fun _ => Ret.ok (Ret.ok (Ret.ok trivial)))))))
          · rw [decide_eq_false c8]
            exact Ret.bind (Ret.condF rfl (Ret.ok (Ret.ok trivial)))
        | none =>
          rw [hg] at h
          dsimp only at h
          by_cases c8 : r.kind = 8
          · rw [if_pos c8] at h
            rw [decide_eq_true c8]
            obtain ⟨z, hz, hz2⟩ := hd.fixed r.of_
            have hno : ∀ s, z ≠ some s ∨ s ≠ r := fun s => by
              by_cases e : z = some s ∧ s = r
              · obtain ⟨rfl, rfl⟩ := e
                obtain ⟨o1, h1, h2, h3, h4, h5⟩ := hz2.2.1
                exact absurd h5.2.1 (hna o1)
              · by_cases e1 : z = some s
                · exact .inr fun e2 => e ⟨e1, e2⟩
                · exact .inl e1
            rw [if_neg (fun ⟨o1, h1, h2, h3, h4, h5⟩ => by
              have hb : best K o1 = some r := h5
              have hw : WdR K o1.id none := by
                have := hd.gone o1.id
                have e := wd_is this
                rw [h4] at e
                rwa [← e] at this
              obtain ⟨z1, _, hz1⟩ := fixed_is hK hd h1 h3 hw
              rw [best_is hK hz1] at hb
              subst hb
              exact hna o1 hz1.2.1.2.1)] at h
            refine Ret.bind (Ret.bind (Ret.condT rfl (Ret.bind (Ret.ok ?_))))
            rw [hz]
            have fin : Ret (cond (none : Option Int).isSome (some ((2 : Int), (none : Option Int).getD 0, (0 : Int))) (cond false (some (4, (-1), 0)) (Option.bind (P.account_fact (Report.mk r.id r.source r.account r.made r.about r.kind r.cents r.of_)) fun z109 => cond (!z109) (some (3, (-1), 0)) (cond ((d.fixed r.id).isSome) (some (1, (d.fixed r.id).getD 0, 0)) (some (0, (-1), 0)))))) Q := by
              refine Ret.condF rfl (Ret.condF rfl (Ret.bind (Ret.val (show P.account_fact _ = some (decide (r.kind ≤ 7)) from rfl) ?_)))
              rw [decide_eq_false (show ¬ r.kind ≤ 7 by omega)]
              exact Ret.condT rfl (Ret.ok h)
            cases z with
            | none => exact Ret.bind (Ret.condF rfl (Ret.ok (Ret.ok (Ret.ok fin))))
            | some s =>
              refine Ret.bind (Ret.condT rfl (Ret.ok (Ret.ok (Ret.ok ?_))))
              have hne : ¬ s.id = r.id := fun e => by
                rcases hno s with h9 | h9
                · exact h9 rfl
                · exact h9 (hK.one hz2.1 hr e)
              rw [decide_eq_false (show ¬ ((some s).map (·.id)).getD 0 = r.id from hne)]
              exact fin
          · rw [if_neg c8] at h
            rw [decide_eq_false c8]
            refine Ret.bind (Ret.bind (Ret.condF rfl (Ret.ok (Ret.ok (Ret.condF rfl (Ret.condF rfl ?_))))))
            refine Ret.bind (Ret.val (show P.account_fact _ = some (decide (r.kind ≤ 7)) from rfl) ?_)
            have h7 : r.kind ≤ 7 := by omega
            rw [decide_eq_true h7]
            have hw : WdR K r.id none := by have := hd.gone r.id; rwa [hg] at this
            obtain ⟨z, hz, hz2⟩ := fixed_is hK hd hr h7 hw
            rw [best_is hK hz2] at h
            refine Ret.condF rfl ?_
            rw [hz]
            cases z with
            | none => exact Ret.condF rfl (Ret.ok h)
            | some c => exact Ret.condT rfl (Ret.ok h)
theorem r_rFate0 {l : List Report} (hinr : ∀ r ∈ l, InR r) (h0 : chkE l = 0) {known : Int} (hi : inB 0 100000 known = true) (hkn : P.ref03_Known l known = some K) {n : Int} {Q : Int × Int × Int → Prop} (h : Q (ftOf K n)) : Ret (P.ref03_Fate l n known) Q := by
  classical
  have hKl := hK.len
  unfold P.ref03_Fate
  refine Ret.bind (r_rcheck hinr ?_)
  refine Ret.condF (by simp [h0]) ?_
  rw [p_within, bindS, hi]
  refine Ret.condF rfl (Ret.bind (Ret.val hkn (Ret.bind (r_At (by omega) (fun k r hk he => ?_) fun hno => ?_))))
  · refine Ret.condF (decide_eq_false (by omega)) (Ret.bind (Ret.ixo hk ?_))
    have hr := List.mem_of_getElem? hk
    subst he
    have hv := (hK.v r hr).1
    unfold ftOf at h
    rw [atI_some hK hr] at h
    dsimp only at h
    by_cases c9 : r.kind = 9
    · rw [if_pos c9] at h
      rw [decide_eq_true c9]
      refine Ret.condT rfl (Ret.bind (Ret.bind (r_aims hK (r := Report.mk r.id r.source r.account r.made r.about r.kind r.cents r.of_) (fun o ha => ?_) fun hna => ?_)))
      · have ha : Aim K r o := ha
        refine Ret.condT rfl (Ret.bind (r_At (by omega) (fun k2 o2 hk2 he2 => ?_) fun hno => absurd ha.2.1 (hno o ha.1)))
        obtain rfl := hK.one (List.mem_of_getElem? hk2) ha.1 (by rw [he2, ha.2.1])
        refine Ret.bind (Ret.ixo hk2 (Ret.ok ?_))
        by_cases c : o2.kind = 9
        · rw [if_neg (fun ⟨o3, h1, h2⟩ => h2 (by rw [hK.one h1.1 ha.1 (by rw [h1.2.1, ha.2.1])]; exact c))] at h
          rw [decide_eq_true c]; exact Ret.condF rfl (Ret.ok h)
        · rw [if_pos ⟨o2, ha, c⟩] at h
          rw [decide_eq_false c]; exact Ret.condT rfl (Ret.ok h)
      · have hna : ∀ o, ¬ Aim K r o := hna
        rw [if_neg (fun ⟨o3, h1, _⟩ => hna o3 h1)] at h
        exact Ret.condF rfl (Ret.ok (Ret.condF rfl (Ret.ok h)))
    · rw [if_neg c9] at h
      rw [decide_eq_false c9]
      refine Ret.condF rfl (Ret.bind (r_withdrawn hK hr fun w hw => ?_))
      rw [wd_is hw] at h
      cases w with
      | some w =>
        exact Ret.condT (decide_eq_true ((wd_pos hK hw).2 (by simp))) (Ret.ok h)
      | none =>
        refine Ret.condF rfl ?_
        dsimp only at h
        by_cases c8 : r.kind = 8
        · rw [if_pos c8] at h
          rw [decide_eq_true c8]
          have no : (¬ ∃ o ∈ K, o.id = r.of_ ∧ o.kind ≤ 7 ∧ wd K o.id = none ∧ best K o = some r) → Q (3, -1, 0) := fun hn => by rw [if_neg hn] at h; exact h
          refine Ret.condT rfl (Ret.bind (r_At (by omega) (fun k2 o hk2 he2 => ?_) fun hno => ?_))
          · have ho := List.mem_of_getElem? hk2
            rw [decide_eq_true (show (0 : Int) ≤ k2 by omega)]
            have one : ∀ o' ∈ K, o'.id = r.of_ → o' = o := fun o' h1 h2 => hK.one h1 ho (by rw [h2, he2])
            refine Ret.bind (Ret.condT rfl (Ret.bind (Ret.ixo hk2 ?_)))
            by_cases c7 : o.kind ≤ 7
            · rw [decide_eq_true c7, ← he2]
              refine Ret.condT rfl (Ret.bind (r_withdrawn hK ho fun w2 hw2 => ?_))
              cases w2 with
              | some w2 =>
                have : ¬ (some w2).getD (-1) < 0 := by have := (wd_pos hK hw2).2 (by simp); omega
                rw [decide_eq_false this]
                refine Ret.condF rfl (Ret.ok (Ret.condF rfl (Ret.ok (no ?_))))
                rintro ⟨o', h1, h2, _, h4, _⟩
                rw [one o' h1 h2, wd_is hw2] at h4; cases h4
              | none =>
                refine Ret.condT rfl (Ret.bind (r_corrected hK ho c7 fun z hz => Ret.ok ?_))
                have hb := best_is hK hz
                cases z with
                | none =>
                  have : ¬ ((none : Option Report).map (·.id)).getD (-1) = r.id := by
                    have := (hK.v r hr).2.1.1
                    show ¬ (-1 : Int) = r.id
                    omega
                  rw [decide_eq_false this]
                  refine Ret.condF rfl (Ret.ok (no ?_))
                  rintro ⟨o', h1, h2, _, _, h5⟩
                  rw [one o' h1 h2, hb] at h5; cases h5
                | some c =>
                  by_cases e : c.id = r.id
                  · obtain rfl := hK.one hz.1 hr e
                    rw [if_pos ⟨o, ho, he2, c7, wd_is hw2, hb⟩] at h
                    rw [decide_eq_true (show ((some c).map (·.id)).getD (-1) = c.id from rfl)]
                    exact Ret.condT rfl (Ret.ok h)
                  · rw [decide_eq_false (show ¬ ((some c).map (·.id)).getD (-1) = r.id from e)]
                    refine Ret.condF rfl (Ret.ok (no ?_))
                    rintro ⟨o', h1, h2, _, _, h5⟩
                    rw [one o' h1 h2, hb] at h5
                    exact e (by rw [Option.some.inj h5])
            · rw [decide_eq_false c7]
              refine Ret.condF rfl (Ret.ok (Ret.condF rfl (Ret.ok (no ?_))))
              rintro ⟨o', h1, h2, h3, _, _⟩
              rw [one o' h1 h2] at h3; exact c7 h3
          · refine Ret.bind (Ret.condF (decide_eq_false (by omega)) (Ret.ok (Ret.condF rfl (Ret.ok (no ?_)))))
            rintro ⟨o', h1, h2, _⟩
            exact hno o' h1 h2
        · rw [if_neg c8] at h
          rw [decide_eq_false c8]
          have h7 : r.kind ≤ 7 := by omega
          refine Ret.condF rfl (Ret.bind (r_corrected hK hr h7 fun z hz => ?_))
          rw [best_is hK hz] at h
          cases z with
          | none => exact Ret.condF rfl (Ret.ok h)
          | some c => exact Ret.condT (decide_eq_true (hK.v c hz.1).2.1.1) (Ret.ok h)
  · refine Ret.condT (decide_eq_true (by omega)) (Ret.ok ?_)
    unfold ftOf at h
    rw [atI_none hK hno] at h
    exact h
end
section
variable {l : List Report} (hin : ∀ r ∈ l, InR r) {known : Int}
include hin
/-- What both say of a report. -/
def FtA (l : List Report) (n known : Int) (z : Int × Int × Int) : Prop := (chkE l ≠ 0 ∧ z = (0, 0, chkE l)) ∨ (chkE l = 0 ∧ inB 0 100000 known = false ∧ z = (0, 0, 2)) ∨ (chkE l = 0 ∧ inB 0 100000 known = true ∧ ∃ K, P.ref03_Known l known = some K ∧ Kn l known K ∧ z = ftOf K n)
omit hin in
theorem known_is (h0 : chkE l = 0) : ∃ K, P.ref03_Known l known = some K ∧ Kn l known K := by
  obtain ⟨h1, h2, h3⟩ := chk0 h0
  exact r_Known h1 h3 fun K hk => hk
omit hin in
theorem FtA.uniq {n : Int} {z z' : Int × Int × Int} (h : FtA l n known z) (h' : FtA l n known z') : z = z' := by
  rcases h with ⟨c, rfl⟩ | ⟨c, ci, rfl⟩ | ⟨c, ci, K, hk, _, rfl⟩ <;> rcases h' with ⟨c', rfl⟩ | ⟨c', ci', rfl⟩ | ⟨c', ci', K', hk', _, rfl⟩
  · rfl
  · exact absurd c' c
  · exact absurd c' c
  · exact absurd c c'
  · rfl
  · rw [ci] at ci'; cases ci'
  · exact absurd c c'
  · rw [ci] at ci'; cases ci'
  · rw [hk] at hk'; rw [Option.some.inj hk']
theorem r_aFate {n : Int} {Q : Int × Int × Int → Prop} (h : ∀ z, FtA l n known z → Q z) : Ret (P.account_Fate l n known) Q := by
  by_cases c : chkE l = 0
  · cases ci : inB 0 100000 known with
    | false =>
      unfold P.account_Fate
      refine Ret.bind (r_acheck hin ?_)
      refine Ret.condF (by simp [c]) ?_
      rw [p_ain, bindS, ci]
      exact Ret.condT rfl (Ret.ok (h _ (.inr (.inl ⟨c, ci, rfl⟩))))
    | true =>
      obtain ⟨K, hk, hk2⟩ := known_is (known := known) c
      exact r_aFate0 (ok_of c hk2) hin c ci hk2 (h _ (.inr (.inr ⟨c, ci, K, hk, hk2, rfl⟩)))
  · unfold P.account_Fate
    exact Ret.bind (r_acheck hin (Ret.condT (by simp [c]) (Ret.ok (h _ (.inl ⟨c, rfl⟩)))))
theorem r_rFate {n : Int} {Q : Int × Int × Int → Prop} (h : ∀ z, FtA l n known z → Q z) : Ret (P.ref03_Fate l n known) Q := by
  by_cases c : chkE l = 0
  · cases ci : inB 0 100000 known with
    | false =>
      unfold P.ref03_Fate
      refine Ret.bind (r_rcheck hin ?_)
      refine Ret.condF (by simp [c]) ?_
      rw [p_within, bindS, ci]
      exact Ret.condT rfl (Ret.ok (h _ (.inr (.inl ⟨c, ci, rfl⟩))))
    | true =>
      obtain ⟨K, hk, hk2⟩ := known_is (known := known) c
      exact r_rFate0 (ok_of c hk2) hin c ci hk (h _ (.inr (.inr ⟨c, ci, K, hk, hk2, rfl⟩)))
  · unfold P.ref03_Fate
    exact Ret.bind (r_rcheck hin (Ret.condT (by simp [c]) (Ret.ok (h _ (.inl ⟨c, rfl⟩)))))
end
theorem p_AccountStands {l : List Report} (hin : ∀ r ∈ l, InR r) {id known : Int} : P.law03_AccountStands l id known = some true := by
  apply Ret.yes
  unfold P.law03_AccountStands
  refine Ret.cond (fun _ => Ret.ok rfl) fun h0 => ?_
  have hl : l.length ≤ 80 := by have := of_decide_eq_false h0; omega
  refine Ret.bind (Ret.appo (by simp; omega) (by simp; omega) ?_)
  rw [List.nil_append]
  refine Ret.bind (r_aStanding hin fun z hz => Ret.bind (r_rStanding hin fun z' hz' => ?_))
  obtain ⟨rfl, hzl⟩ := hz.uniq hz'
  refine Ret.bind (r_aFate hin fun y hy => Ret.bind (r_rFate hin fun y' hy' => ?_))
  obtain rfl := hy.uniq hy'
  obtain ⟨a, e⟩ := z
  obtain ⟨y1, y2, y3⟩ := y
  dsimp only at hzl ⊢
  refine Ret.bind (Ret.bind (r_acheck hin (Ret.bind (r_rcheck hin ?_))))
  refine Ret.condT (decide_eq_true rfl) (Ret.bind (r_same (by omega) (Ret.condT rfl (Ret.condT (decide_eq_true rfl) (Ret.condT (decide_eq_true rfl) (Ret.condT (decide_eq_true rfl) (Ret.condT (decide_eq_true rfl) (Ret.bind (r_same (by omega) (Ret.ok (Ret.ok rfl)))))))))))
end S
end Go.Proofs.YtepjkmoipjeghaaDoor
