/-
  The statement on ScoreWhy: its walk and its plain law, joined in the row's frame.
-/
import Derived.Test.YtecmlmngcnionaaRows
import Derived.WalkKit
import Derived.ProofKit
import Derived.OpenShut
import Derived.ChangeOld
import Derived.Below
import Derived.Test.YtecmlmngcnionaaScScoreWhy1
set_option linter.unusedVariables false
namespace Go.Proofs.Ytecmlmngcnionaa.scoreWhyDone
open Go Go.Sx Go.ChangeShapes Go.WideShapes Go.ChangeAt Go.RowKit
set_option linter.unusedVariables false
theorem own : ownKnob Try.prog.godebug = none := by kernel_rfl
theorem laidOut : laidOutB Try.prog = true := by kernel_rfl
theorem bInt : Bridge Try.prog 3 (intE .i64) := bridge_int Try.underlying3
theorem bInts : Bridge Try.prog 26 (sliceE (intE .i64)) := bridge_slice Try.underlying26 (by kernel_rfl) bInt
theorem bScale : Bridge Try.prog 56 ScaleE := bridge_map (fun a => ⟨a.1, a.2.1, a.2.2⟩) (fun _ => rfl) (bridge_struct Try.underlying56 rfl (fb_cons bInts (by kernel_rfl) (fb_cons bInts (by kernel_rfl) (fb_last bInt (by kernel_rfl)))))
theorem bScales : Bridge Try.prog 52 (sliceE ScaleE) := bridge_slice Try.underlying52 (by kernel_rfl) bScale
theorem bCard : Bridge Try.prog 54 CardE := bridge_map (fun a => ⟨a.1, a.2.1, a.2.2⟩) (fun _ => rfl) (bridge_struct Try.underlying54 rfl (fb_cons bInt (by kernel_rfl) (fb_cons bInt (by kernel_rfl) (fb_last bScales (by kernel_rfl)))))
theorem bCards : Bridge Try.prog 22 (sliceE CardE) := bridge_slice Try.underlying22 (by kernel_rfl) bCard
theorem bNode : Bridge Try.prog 62 NodeE := bridge_map (fun a => ⟨a.1, a.2.1, a.2.2.1, a.2.2.2.1, a.2.2.2.2⟩) (fun _ => rfl) (bridge_struct Try.underlying62 rfl (fb_cons bInt (by kernel_rfl) (fb_cons bInt (by kernel_rfl) (fb_cons bInt (by kernel_rfl) (fb_cons bInt (by kernel_rfl) (fb_last bInt (by kernel_rfl)))))))
theorem bNodes : Bridge Try.prog 57 (sliceE NodeE) := bridge_slice Try.underlying57 (by kernel_rfl) bNode
theorem bTree : Bridge Try.prog 59 TreeE := bridge_map (fun a => ⟨a.1, a.2⟩) (fun _ => rfl) (bridge_struct Try.underlying59 rfl (fb_cons bInt (by kernel_rfl) (fb_last bNodes (by kernel_rfl))))
theorem bTrees : Bridge Try.prog 23 (sliceE TreeE) := bridge_slice Try.underlying23 (by kernel_rfl) bTree
theorem bModel : Bridge Try.prog 25 ModelE := bridge_map (fun a => ⟨a.1, a.2.1, a.2.2.1, a.2.2.2⟩) (fun _ => rfl) (bridge_struct Try.underlying25 rfl (fb_cons bInt (by kernel_rfl) (fb_cons bCards (by kernel_rfl) (fb_cons bTrees (by kernel_rfl) (fb_last bInt (by kernel_rfl))))))
theorem bSpan : Bridge Try.prog 45 SpanE := bridge_map (fun a => ⟨a.1, a.2⟩) (fun _ => rfl) (bridge_struct Try.underlying45 rfl (fb_cons bInt (by kernel_rfl) (fb_last bInt (by kernel_rfl))))
theorem bSpans : Bridge Try.prog 43 (sliceE SpanE) := bridge_slice Try.underlying43 (by kernel_rfl) bSpan
theorem bU32 : Bridge Try.prog 65 (intE .u32) := bridge_int Try.underlying65
theorem bU32s : Bridge Try.prog 63 (sliceE (intE .u32)) := bridge_slice Try.underlying63 (by kernel_rfl) bU32
theorem allU {M : List Nat} {w : World} {v : Value} {xs : List Int} (h : RdS (intE .u32) M w v xs) : S.U32 xs := fun x hx => by
  obtain ⟨a, c, _, _, _, h4⟩ := h
  rcases h4 with rfl | ⟨b, o, _, _, _, h5⟩
  · cases hx
  · obtain ⟨i, hi, rfl⟩ := List.getElem_of_mem hx
    obtain ⟨cs, hR, _⟩ := h5 i hi
    exact InK.u32.1 hR.2
theorem bU8 : Bridge Try.prog 5 (intE .u8) := bridge_int Try.underlying5
set_option maxRecDepth 100000 in
theorem lifted (os : Os) (started : os.Started) (H : Type) (enc : TypeId × Value → H) :
    ReturnsInHanded {} Try.checked os 7 .any (Rows.scoreWhySpec.pre6 enc Try.prog Try.f7 Rows.scoreWhyRow.domain false) (Rows.scoreWhySpec.post enc Try.prog Try.f7 false true false false) := by
  refine returnsInHanded_of_change (C := Try.checked) own started (by kernel_rfl) Try.func7
    (ChangeSpec.witness6 (enc := enc) (C := Try.checked) false ⟨#[], #[.agg #[.int .i64 0, .slice none 0 0, .slice none 0 0, .int .i64 0], .slice none 0 0, .int .u8 0, .slice none 0 0], []⟩ 8 (by kernel_rfl) (by kernel_rfl) (by kernel_rfl) (by kernel_rfl)) ?_
  intro W base args ds gs before hval0 hW hcnd _
  have hval : ∀ (j : Nat) t v, Try.f7.params[j]? = some t → args[j]? = some v → Value.okWide Try.prog W .any base t v := hval0
  have hW' := hW
  obtain ⟨p, q, hA0, hV, rfl, hfz, hnd⟩ := hW
  have hA : DataW.TrodAll enc Try.prog W 0 (fun _ => true) true Try.f7.params.toList args.toList ds p := hA0
  rw [Try.params7] at hA hval
  obtain ⟨v0, vs0, d0, ds0, p0, q0, hargs, rfl, rfl, h0, r0⟩ := trodAll_cons hA
  obtain ⟨v1, vs1, d1, ds1, p1, q1, rfl, rfl, rfl, h1, r1⟩ := trodAll_cons r0
  obtain ⟨v2, vs2, d2, ds2, p2, q2, rfl, rfl, rfl, h2, r2⟩ := trodAll_cons r1
  obtain ⟨v3, vs3, d3, ds3, p3, q3, rfl, rfl, rfl, h3, r3⟩ := trodAll_cons r2
  obtain ⟨rfl, rfl, rfl⟩ := trodAll_nil r3
  obtain rfl : args = #[v0, v1, v2, v3] := by cases args; simp_all
  obtain ⟨rfl, rfl⟩ := trodVars_none hV
  have k0 := h0
  have lt0 : ∀ x ∈ p0, x.block < W.heap.size := by obtain ⟨m, hm⟩ := k0; exact DataW.trod_lt m _ _ _ hm
  have k1 := h1
  have lt1 : ∀ x ∈ p1, x.block < W.heap.size := by obtain ⟨m, hm⟩ := k1; exact DataW.trod_lt m _ _ _ hm
  have k2 := h2
  have lt2 : ∀ x ∈ p2, x.block < W.heap.size := by obtain ⟨m, hm⟩ := k2; exact DataW.trod_lt m _ _ _ hm
  have k3 := h3
  have lt3 : ∀ x ∈ p3, x.block < W.heap.size := by obtain ⟨m, hm⟩ := k3; exact DataW.trod_lt m _ _ _ hm
  obtain ⟨m, hm⟩ := open_arg bModel h0
  obtain ⟨cs, rfl, _⟩ := okWide_struct Try.underlying25 (hval 0 25 v0 rfl rfl)
  obtain ⟨u1, u2, hcs, f0, f1, f2, f3⟩ := ModelE_R.1 hm
  have hcs2 : cs.toList = [Value.int IntKind.i64 m.traits, u1, u2, Value.int IntKind.i64 m.need] := hcs
  obtain rfl : cs = (List.toArray [Value.int IntKind.i64 m.traits, u1, u2, Value.int IntKind.i64 m.need]) := by rw [← hcs2]
  obtain ⟨a1, n1, c1, rfl⟩ := okWide_slice Try.underlying26 (hval 1 26 v1 rfl rfl)
  obtain ⟨x1, hx1⟩ := open_arg bInts h1
  obtain ⟨u10, hu10, g1⟩ := (sliceE_R).1 hx1
  have hu11 : [Value.slice a1 n1 c1] = [u10] := hu10
  obtain rfl : Value.slice a1 n1 c1 = u10 := by simpa using hu11
  obtain ⟨n2, rfl⟩ := okWide_int Try.underlying5 (hval 2 5 v2 rfl rfl)
  obtain ⟨x2, hx2⟩ := open_arg bU8 h2
  obtain ⟨e2, g2⟩ := hx2
  have e21 : [Value.int .u8 n2] = [Value.int .u8 x2] := e2
  obtain rfl : n2 = x2 := by simpa using e21
  have gb2 : 0 ≤ n2 ∧ n2 ≤ 255 := InK.u8.1 g2
  obtain ⟨a3, n3, c3, rfl⟩ := okWide_slice Try.underlying63 (hval 3 63 v3 rfl rfl)
  obtain ⟨x3, hx3⟩ := open_arg bU32s h3
  obtain ⟨u30, hu30, g3⟩ := (sliceE_R).1 hx3
  have hu31 : [Value.slice a3 n3 c3] = [u30] := hu30
  obtain rfl : Value.slice a3 n3 c3 = u30 := by simpa using hu31
  clear hA0 hval0
  refine (C_law06_ScoreWhy (M := []) (fun b hb => by cases hb) f0 f1 f2 f3 g1 g2 g3 (S.p_ScoreWhy m x1 n2 x3 gb2 (allU g3))).mono fun e W' ⟨he, ext⟩ => ?_
  subst he
  have bel := ext.below
  exact ⟨_, rfl, _, _, _, [], _, [], hW', trodAll_mk1 (shut_bool Try.underlying4 _), (trodAll_cons_mk (Below.trod laidOut (by kernel_rfl) (of_decide_eq_true (by kernel_rfl)) k0 bel lt0) (trodAll_cons_mk (Below.trod laidOut (by kernel_rfl) (of_decide_eq_true (by kernel_rfl)) k1 bel lt1) (trodAll_cons_mk (Below.trod laidOut (by kernel_rfl) (of_decide_eq_true (by kernel_rfl)) k2 bel lt2) (trodAll_cons_mk (Below.trod laidOut (by kernel_rfl) (of_decide_eq_true (by kernel_rfl)) k3 bel lt3) trodAll_mk0)))), rfl, bel.frame _, fun h => by cases h⟩
theorem over : Rows.scoreWhyRow.holds Try.pinned (OpenSpec.ofChange Rows.scoreWhySpec) :=
  OpenClaim.holds_of_wide 7 Try.f7 rfl rfl rfl rfl rfl rfl rfl ⟨rfl, rfl, rfl, rfl, rfl⟩ rfl rfl rfl rfl rfl (by kernel_rfl) Try.func7 (by kernel_rfl)
    (of_decide_eq_true (by kernel_rfl)) (by unfold Func.isWrapper; first | (rw [if_pos (by decide +kernel)]; kernel_rfl) | (rw [if_neg (by decide +kernel)]; exact ⟨rfl, rfl⟩))
    (fun os started H enc _ => lifted os started H enc)
theorem proved : Rows.ScoreWhySaid := over
end Go.Proofs.Ytecmlmngcnionaa.scoreWhyDone
