/-
  The statement on RingShort: its walk and its plain law, joined in the row's frame.
-/
import Derived.Test.YtdbogmmdogjhpaaRows
import Derived.WalkKit
import Derived.ProofKit
import Derived.OpenShut
import Derived.ChangeOld
import Derived.Below
import Derived.Test.YtdbogmmdogjhpaaRdRingShort1
set_option linter.unusedVariables false
set_option linter.unusedSectionVars false
set_option maxRecDepth 100000
set_option maxHeartbeats 4000000
set_option linter.unusedVariables false
namespace Go.Proofs.Ytdbogmmdogjhpaa.ringShortDone
open Go Go.Sx Go.Rx Go.ChangeShapes Go.WideShapes Go.ChangeAt Go.RowKit
theorem own : ownKnob Try.prog.godebug = none := by kernel_rfl
theorem laidOut : laidOutB Try.prog = true := by kernel_rfl
theorem bI3 : Bridge Try.prog 3 (intE .i64) := bridge_int Try.underlying3
theorem bT23 : Bridge Try.prog 23 HuntE := bridge_map (fun a => ⟨a.1, a.2.1, a.2.2⟩) (fun _ => rfl) (bridge_struct Try.underlying23 rfl (fb_cons bI3 (by kernel_rfl) (fb_cons bI3 (by kernel_rfl) (fb_last bI3 (by kernel_rfl)))))
theorem bS42 : Bridge Try.prog 42 (sliceE (intE .i64)) := bridge_slice Try.underlying42 (by kernel_rfl) bI3
theorem bT65 : Bridge Try.prog 65 FilingE := bridge_map (fun a => ⟨a.1, a.2.1, a.2.2⟩) (fun _ => rfl) (bridge_struct Try.underlying65 rfl (fb_cons bI3 (by kernel_rfl) (fb_cons bI3 (by kernel_rfl) (fb_last bS42 (by kernel_rfl)))))
theorem bS24 : Bridge Try.prog 24 (sliceE FilingE) := bridge_slice Try.underlying24 (by kernel_rfl) bT65
theorem bI5 : Bridge Try.prog 5 (intE .u8) := bridge_int Try.underlying5
theorem bS73 : Bridge Try.prog 73 (sliceE (intE .u8)) := bridge_slice Try.underlying73 (by kernel_rfl) bI5
theorem lifted (os : Os) (started : os.Started) (H : Type) (enc : TypeId × Value → H) :
    ReturnsInHanded {} Try.checked os 7 .any (Rows.ringShortSpec.pre6 enc Try.prog Try.f7 Rows.ringShortRow.domain false) (Rows.ringShortSpec.post enc Try.prog Try.f7 false true false false) := by
  refine returnsInHanded_of_change (C := Try.checked) own started (by kernel_rfl) Try.func7
    (ChangeSpec.witness6 (enc := enc) (C := Try.checked) false ⟨#[], #[.agg #[.int .i64 0, .int .i64 0, .int .i64 0], .slice none 0 0, .int .u8 0, .int .u8 0, .slice none 0 0], []⟩ 8 (by kernel_rfl) (by kernel_rfl) (by kernel_rfl) (by kernel_rfl)) ?_
  intro W base args ds gs before hval0 hW hcnd _
  have hval : ∀ (j : Nat) t v, Try.f7.params[j]? = some t → args[j]? = some v → Value.okWide Try.prog W .any base t v := hval0
  have hW' := hW
  obtain ⟨p, q, hA0, hV, rfl, hfz, hnd⟩ := hW
  have hA : DataW.TrodAll enc Try.prog W 0 (fun _ => true) true Try.f7.params.toList args.toList ds p := hA0
  rw [Try.params7] at hA hval
  obtain ⟨v0, vs0, d0, ds0, p0, q0, hargs, rfl, rfl, h0, r0⟩ := trodAll_cons hA
  obtain ⟨v1, vs1, d1, ds1, p1, q1, rfl, rfl, rfl, h1, r1⟩ := trodAll_cons r0
  obtain ⟨v2, vs2, d2, ds2, p2, q2, rfl, rfl, rfl, h2, r2⟩ := trodAll_cons r1
  obtain ⟨v3, vs3, d3, ds3, p3, q3, rfl, rfl, rfl, h3, r3⟩ := trodAll_cons r2
  obtain ⟨v4, vs4, d4, ds4, p4, q4, rfl, rfl, rfl, h4, r4⟩ := trodAll_cons r3
  obtain ⟨rfl, rfl, rfl⟩ := trodAll_nil r4
  obtain rfl : args = #[v0, v1, v2, v3, v4] := by cases args; simp_all
  obtain ⟨rfl, rfl⟩ := trodVars_none hV
  have k0 := h0
  have lt0 : ∀ x ∈ p0, x.block < W.heap.size := by obtain ⟨m, hm⟩ := k0; exact DataW.trod_lt m _ _ _ hm
  have k1 := h1
  have lt1 : ∀ x ∈ p1, x.block < W.heap.size := by obtain ⟨m, hm⟩ := k1; exact DataW.trod_lt m _ _ _ hm
  have k2 := h2
  have lt2 : ∀ x ∈ p2, x.block < W.heap.size := by obtain ⟨m, hm⟩ := k2; exact DataW.trod_lt m _ _ _ hm
  have k3 := h3
  have lt3 : ∀ x ∈ p3, x.block < W.heap.size := by obtain ⟨m, hm⟩ := k3; exact DataW.trod_lt m _ _ _ hm
  have k4 := h4
  have lt4 : ∀ x ∈ p4, x.block < W.heap.size := by obtain ⟨m, hm⟩ := k4; exact DataW.trod_lt m _ _ _ hm
  obtain ⟨x0, hx0⟩ := open_arg bT23 h0
  obtain ⟨cs0, rfl, _⟩ := okWide_struct Try.underlying23 (hval 0 23 v0 rfl rfl)
  have e0 : OkD (P := Try.prog) [] W (.st 0) x0 (.agg cs0) := ⟨cs0.toList, hx0, .inl ⟨rfl, rfl⟩⟩
  obtain ⟨x1, hx1⟩ := open_arg bS24 h1
  obtain ⟨a1, n1, c1, rfl⟩ := okWide_slice Try.underlying24 (hval 1 24 v1 rfl rfl)
  have e1 : OkD (P := Try.prog) [] W (.sl (.st 1)) x1 (.slice a1 n1 c1) := ⟨_, hx1, .inr ⟨rfl, rfl⟩⟩
  obtain ⟨x2, hx2⟩ := open_arg bI5 h2
  obtain ⟨n2, rfl⟩ := okWide_int Try.underlying5 (hval 2 5 v2 rfl rfl)
  have e2 : OkD (P := Try.prog) [] W (.int .u8) x2 (.int .u8 n2) := ⟨_, hx2, .inr ⟨rfl, rfl⟩⟩
  have b2 : InK .u8 x2 := hx2.2
  obtain ⟨x3, hx3⟩ := open_arg bI5 h3
  obtain ⟨n3, rfl⟩ := okWide_int Try.underlying5 (hval 3 5 v3 rfl rfl)
  have e3 : OkD (P := Try.prog) [] W (.int .u8) x3 (.int .u8 n3) := ⟨_, hx3, .inr ⟨rfl, rfl⟩⟩
  have b3 : InK .u8 x3 := hx3.2
  obtain ⟨x4, hx4⟩ := open_arg bS73 h4
  obtain ⟨a4, n4, c4, rfl⟩ := okWide_slice Try.underlying73 (hval 4 73 v4 rfl rfl)
  have e4 : OkD (P := Try.prog) [] W (.sl (.int .u8)) x4 (.slice a4 n4 c4) := ⟨_, hx4, .inr ⟨rfl, rfl⟩⟩
  have b4 := slice_in hx4
  clear hA0 hval0
  refine (ok7.2 [] W (x0, x1, x2, x3, x4, ()) _ true (fun b hb => by cases hb) ⟨_, _, rfl, e0, ⟨_, _, rfl, e1, ⟨_, _, rfl, e2, ⟨_, _, rfl, e3, ⟨_, _, rfl, e4, rfl⟩⟩⟩⟩⟩ (p_RingShort x0 x1 x2 x3 x4 b2 b3 b4)).mono fun e W' ⟨vs, he, hk, ext⟩ => ?_
  obtain ⟨v, rfl, hv⟩ := hk
  obtain ⟨cs, hb, h9 | ⟨_, rfl⟩⟩ := hv
  · cases h9.1
  have hb : [v] = [Value.bool true] := hb
  obtain rfl : v = Value.bool true := by simpa using hb
  subst he
  have bel := ext.below
  exact ⟨_, rfl, _, _, _, [], _, [], hW', trodAll_mk1 (shut_bool Try.underlying4 _), (trodAll_cons_mk (Below.trod laidOut (by kernel_rfl) (of_decide_eq_true (by kernel_rfl)) k0 bel lt0) (trodAll_cons_mk (Below.trod laidOut (by kernel_rfl) (of_decide_eq_true (by kernel_rfl)) k1 bel lt1) (trodAll_cons_mk (Below.trod laidOut (by kernel_rfl) (of_decide_eq_true (by kernel_rfl)) k2 bel lt2) (trodAll_cons_mk (Below.trod laidOut (by kernel_rfl) (of_decide_eq_true (by kernel_rfl)) k3 bel lt3) (trodAll_cons_mk (Below.trod laidOut (by kernel_rfl) (of_decide_eq_true (by kernel_rfl)) k4 bel lt4) trodAll_mk0))))), rfl, bel.frame _, fun h => by cases h⟩
theorem over : Rows.ringShortRow.holds Try.pinned (OpenSpec.ofChange Rows.ringShortSpec) :=
  OpenClaim.holds_of_wide 7 Try.f7 rfl rfl rfl rfl rfl rfl rfl ⟨rfl, rfl, rfl, rfl, rfl⟩ rfl rfl rfl rfl rfl (by kernel_rfl) Try.func7 (by kernel_rfl)
    (of_decide_eq_true (by kernel_rfl)) (by unfold Func.isWrapper; first | (rw [if_pos (by decide +kernel)]; kernel_rfl) | (rw [if_neg (by decide +kernel)]; exact ⟨rfl, rfl⟩))
    (fun os started H enc _ => lifted os started H enc)
theorem proved : Rows.RingShortSaid := over
end Go.Proofs.Ytdbogmmdogjhpaa.ringShortDone
