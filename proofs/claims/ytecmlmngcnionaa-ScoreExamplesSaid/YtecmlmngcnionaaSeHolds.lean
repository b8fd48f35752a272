/-
  The statement on ScoreExamples: its walk and its plain law, joined in the row's frame.
-/
import Derived.Test.YtecmlmngcnionaaRows
import Derived.WalkKit
import Derived.ProofKit
import Derived.OpenShut
import Derived.ChangeOld
import Derived.Below
import Derived.Test.YtecmlmngcnionaaSe8
set_option linter.unusedVariables false
namespace Go.Proofs.Ytecmlmngcnionaa.scoreExamplesDone
open Go Go.Sx Go.ChangeShapes Go.WideShapes Go.ChangeAt Go.RowKit
set_option linter.unusedVariables false
theorem own : ownKnob Try.prog.godebug = none := by kernel_rfl
theorem laidOut : laidOutB Try.prog = true := by kernel_rfl
theorem bInt : Bridge Try.prog 3 (intE .i64) := bridge_int Try.underlying3
theorem bInts : Bridge Try.prog 26 (sliceE (intE .i64)) := bridge_slice Try.underlying26 (by kernel_rfl) bInt
theorem bScale : Bridge Try.prog 56 ScaleE := bridge_map (fun a => ⟨a.1, a.2.1, a.2.2⟩) (fun _ => rfl) (bridge_struct Try.underlying56 rfl (fb_cons bInts (by kernel_rfl) (fb_cons bInts (by kernel_rfl) (fb_last bInt (by kernel_rfl)))))
theorem bScales : Bridge Try.prog 52 (sliceE ScaleE) := bridge_slice Try.underlying52 (by kernel_rfl) bScale
theorem bCard : Bridge Try.prog 54 CardE := bridge_map (fun a => ⟨a.1, a.2.1, a.2.2⟩) (fun _ => rfl) (bridge_struct Try.underlying54 rfl (fb_cons bInt (by kernel_rfl) (fb_cons bInt (by kernel_rfl) (fb_last bScales (by kernel_rfl)))))
theorem bCards : Bridge Try.prog 22 (sliceE CardE) := bridge_slice Try.underlying22 (by kernel_rfl) bCard
theorem bNode : Bridge Try.prog 62 NodeE := bridge_map (fun a => ⟨a.1, a.2.1, a.2.2.1, a.2.2.2.1, a.2.2.2.2⟩) (fun _ => rfl) (bridge_struct Try.underlying62 rfl (fb_cons bInt (by kernel_rfl) (fb_cons bInt (by kernel_rfl) (fb_cons bInt (by kernel_rfl) (fb_cons bInt (by kernel_rfl) (fb_last bInt (by kernel_rfl)))))))
theorem bNodes : Bridge Try.prog 57 (sliceE NodeE) := bridge_slice Try.underlying57 (by kernel_rfl) bNode
theorem bTree : Bridge Try.prog 59 TreeE := bridge_map (fun a => ⟨a.1, a.2⟩) (fun _ => rfl) (bridge_struct Try.underlying59 rfl (fb_cons bInt (by kernel_rfl) (fb_last bNodes (by kernel_rfl))))
theorem bTrees : Bridge Try.prog 23 (sliceE TreeE) := bridge_slice Try.underlying23 (by kernel_rfl) bTree
theorem bModel : Bridge Try.prog 25 ModelE := bridge_map (fun a => ⟨a.1, a.2.1, a.2.2.1, a.2.2.2⟩) (fun _ => rfl) (bridge_struct Try.underlying25 rfl (fb_cons bInt (by kernel_rfl) (fb_cons bCards (by kernel_rfl) (fb_cons bTrees (by kernel_rfl) (fb_last bInt (by kernel_rfl))))))
theorem bSpan : Bridge Try.prog 45 SpanE := bridge_map (fun a => ⟨a.1, a.2⟩) (fun _ => rfl) (bridge_struct Try.underlying45 rfl (fb_cons bInt (by kernel_rfl) (fb_last bInt (by kernel_rfl))))
theorem bSpans : Bridge Try.prog 43 (sliceE SpanE) := bridge_slice Try.underlying43 (by kernel_rfl) bSpan
set_option maxRecDepth 100000 in
theorem lifted (os : Os) (started : os.Started) (H : Type) (enc : TypeId × Value → H) :
    ReturnsInHanded {} Try.checked os 11 .any (Rows.scoreExamplesSpec.pre6 enc Try.prog Try.f11 Rows.scoreExamplesRow.domain false) (Rows.scoreExamplesSpec.post enc Try.prog Try.f11 false true false false) := by
  refine returnsInHanded_of_change (C := Try.checked) own started (by kernel_rfl) Try.func11
    (ChangeSpec.witness6 (enc := enc) (C := Try.checked) false ⟨#[], #[], []⟩ 8 (by kernel_rfl) (by kernel_rfl) (by kernel_rfl) (by kernel_rfl)) ?_
  intro W base args ds gs before hval0 hW hcnd _
  have hval : ∀ (j : Nat) t v, Try.f11.params[j]? = some t → args[j]? = some v → Value.okWide Try.prog W .any base t v := hval0
  have hW' := hW
  obtain ⟨p, q, hA0, hV, rfl, hfz, hnd⟩ := hW
  have hA : DataW.TrodAll enc Try.prog W 0 (fun _ => true) true Try.f11.params.toList args.toList ds p := hA0
  rw [Try.params11] at hA hval
  obtain ⟨hargs, rfl, rfl⟩ := trodAll_nil hA
  obtain rfl : args = #[] := by cases args; simp_all
  obtain ⟨rfl, rfl⟩ := trodVars_none hV
  clear hA0 hval0
  refine (C_law06_ScoreExamples (M := []) (fun b hb => by cases hb)  (S.p_ScoreExamples)).mono fun e W' ⟨he, ext⟩ => ?_
  subst he
  have bel := ext.below
  exact ⟨_, rfl, _, _, _, [], _, [], hW', trodAll_mk1 (shut_bool Try.underlying4 _), trodAll_mk0, rfl, bel.frame _, fun h => by cases h⟩
theorem over : Rows.scoreExamplesRow.holds Try.pinned (OpenSpec.ofChange Rows.scoreExamplesSpec) :=
  OpenClaim.holds_of_wide 11 Try.f11 rfl rfl rfl rfl rfl rfl rfl ⟨rfl, rfl, rfl, rfl, rfl⟩ rfl rfl rfl rfl rfl (by kernel_rfl) Try.func11 (by kernel_rfl)
    (of_decide_eq_true (by kernel_rfl)) (by unfold Func.isWrapper; first | (rw [if_pos (by decide +kernel)]; kernel_rfl) | (rw [if_neg (by decide +kernel)]; exact ⟨rfl, rfl⟩))
    (fun os started H enc _ => lifted os started H enc)
theorem proved : Rows.ScoreExamplesSaid := over
end Go.Proofs.Ytecmlmngcnionaa.scoreExamplesDone
