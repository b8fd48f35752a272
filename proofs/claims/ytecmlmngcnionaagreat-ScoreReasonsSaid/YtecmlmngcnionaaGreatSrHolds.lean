/-
  The statement on ScoreReasons: its walk and its plain law, joined in the row's frame.
-/
import Derived.Test.YtecmlmngcnionaaGreatRows
import Derived.WalkKit
import Derived.ProofKit
import Derived.OpenShut
import Derived.ChangeOld
import Derived.Below
import Derived.Test.YtecmlmngcnionaaGreatSr10
set_option linter.unusedVariables false
namespace Go.Proofs.YtecmlmngcnionaaGreat.scoreReasonsDone
open Go Go.Sx Go.ChangeShapes Go.WideShapes Go.ChangeAt Go.RowKit
set_option linter.unusedVariables false
theorem own : ownKnob Tryz.prog.godebug = none := by kernel_rfl
theorem laidOut : laidOutB Tryz.prog = true := by kernel_rfl
theorem bInt : Bridge Tryz.prog  3 (intE .i64) := bridge_int Tryz.underlying3
theorem bInts : Bridge Tryz.prog  26 (sliceE (intE .i64)) := bridge_slice Tryz.underlying26 (by kernel_rfl) bInt
theorem bScale : Bridge Tryz.prog  41 ScaleE := bridge_map (fun a => ⟨a.1, a.2.1, a.2.2⟩) (fun _ => rfl) (bridge_struct Tryz.underlying41 rfl (fb_cons bInts (by kernel_rfl) (fb_cons bInts (by kernel_rfl) (fb_last bInt (by kernel_rfl)))))
theorem bScales : Bridge Tryz.prog  37 (sliceE ScaleE) := bridge_slice Tryz.underlying37 (by kernel_rfl) bScale
theorem bCard : Bridge Tryz.prog  39 CardE := bridge_map (fun a => ⟨a.1, a.2.1, a.2.2⟩) (fun _ => rfl) (bridge_struct Tryz.underlying39 rfl (fb_cons bInt (by kernel_rfl) (fb_cons bInt (by kernel_rfl) (fb_last bScales (by kernel_rfl)))))
theorem bCards : Bridge Tryz.prog  22 (sliceE CardE) := bridge_slice Tryz.underlying22 (by kernel_rfl) bCard
theorem bNode : Bridge Tryz.prog  66 NodeE := bridge_map (fun a => ⟨a.1, a.2.1, a.2.2.1, a.2.2.2.1, a.2.2.2.2⟩) (fun _ => rfl) (bridge_struct Tryz.underlying66 rfl (fb_cons bInt (by kernel_rfl) (fb_cons bInt (by kernel_rfl) (fb_cons bInt (by kernel_rfl) (fb_cons bInt (by kernel_rfl) (fb_last bInt (by kernel_rfl)))))))
theorem bNodes : Bridge Tryz.prog  42 (sliceE NodeE) := bridge_slice Tryz.underlying42 (by kernel_rfl) bNode
theorem bTree : Bridge Tryz.prog  44 TreeE := bridge_map (fun a => ⟨a.1, a.2⟩) (fun _ => rfl) (bridge_struct Tryz.underlying44 rfl (fb_cons bInt (by kernel_rfl) (fb_last bNodes (by kernel_rfl))))
theorem bTrees : Bridge Tryz.prog  23 (sliceE TreeE) := bridge_slice Tryz.underlying23 (by kernel_rfl) bTree
theorem bModel : Bridge Tryz.prog  25 ModelE := bridge_map (fun a => ⟨a.1, a.2.1, a.2.2.1, a.2.2.2⟩) (fun _ => rfl) (bridge_struct Tryz.underlying25 rfl (fb_cons bInt (by kernel_rfl) (fb_cons bCards (by kernel_rfl) (fb_cons bTrees (by kernel_rfl) (fb_last bInt (by kernel_rfl))))))
set_option maxRecDepth 100000 in
theorem lifted (os : Os) (started : os.Started) (H : Type) (enc : TypeId × Value → H) :
    ReturnsInHanded {} Tryz.checked os 3 .any (Rows.scoreReasonsSpec.pre6 enc Tryz.prog Tryz.f3 Rows.scoreReasonsRow.domain false) (Rows.scoreReasonsSpec.post enc Tryz.prog Tryz.f3 false true false false) := by
  refine returnsInHanded_of_change (C := Tryz.checked) own started (by kernel_rfl) Tryz.func3
    (ChangeSpec.witness6 (enc := enc) (C := Tryz.checked) false ⟨#[], #[.agg #[.int .i64 0, .slice none 0 0, .slice none 0 0, .int .i64 0], .slice none 0 0], []⟩ 8 (by kernel_rfl) (by kernel_rfl) (by kernel_rfl) (by kernel_rfl)) ?_
  intro W base args ds gs before hval0 hW hcnd _
  have hval : ∀ (j : Nat) t v, Tryz.f3.params[j]? = some t → args[j]? = some v → Value.okWide Tryz.prog W .any base t v := hval0
  have hW' := hW
  obtain ⟨p, q, hA0, hV, rfl, hfz, hnd⟩ := hW
  have hA : DataW.TrodAll enc Tryz.prog W 0 (fun _ => true) true Tryz.f3.params.toList args.toList ds p := hA0
  rw [Tryz.params3] at hA hval
  obtain ⟨v0, vs0, d0, ds0, p0, q0, hargs, rfl, rfl, h0, r0⟩ := trodAll_cons hA
  obtain ⟨v1, vs1, d1, ds1, p1, q1, rfl, rfl, rfl, h1, r1⟩ := trodAll_cons r0
  obtain ⟨rfl, rfl, rfl⟩ := trodAll_nil r1
  obtain rfl : args = #[v0, v1] := by cases args; simp_all
  obtain ⟨rfl, rfl⟩ := trodVars_none hV
  have k0 := h0
  have lt0 : ∀ x ∈ p0, x.block < W.heap.size := by obtain ⟨m, hm⟩ := k0; exact DataW.trod_lt m _ _ _ hm
  have k1 := h1
  have lt1 : ∀ x ∈ p1, x.block < W.heap.size := by obtain ⟨m, hm⟩ := k1; exact DataW.trod_lt m _ _ _ hm
  obtain ⟨m, hm⟩ := open_arg bModel h0
  obtain ⟨cs, rfl, _⟩ := okWide_struct Tryz.underlying25 (hval 0 25 v0 rfl rfl)
  obtain ⟨u1, u2, hcs, f0, f1, f2, f3⟩ := ModelE_R.1 hm
  have hcs2 : cs.toList = [Value.int IntKind.i64 m.traits, u1, u2, Value.int IntKind.i64 m.need] := hcs
  obtain rfl : cs = (List.toArray [Value.int IntKind.i64 m.traits, u1, u2, Value.int IntKind.i64 m.need]) := by rw [← hcs2]
  obtain ⟨a1, n1, c1, rfl⟩ := okWide_slice Tryz.underlying26 (hval 1 26 v1 rfl rfl)
  obtain ⟨x, hx⟩ := open_arg bInts h1
  obtain ⟨u3, hu3, g1⟩ := (sliceE_R).1 hx
  have hu4 : [Value.slice a1 n1 c1] = [u3] := hu3
  obtain rfl : Value.slice a1 n1 c1 = u3 := by simpa using hu4
  clear hA0 hval0
  refine (C_law06_ScoreReasons (M := []) (fun b hb => by cases hb) f0 f1 f2 f3 g1 (S.p_ScoreReasons m x)).mono fun e W' ⟨he, ext⟩ => ?_
  subst he
  have bel := ext.below
  exact ⟨_, rfl, _, _, _, [], _, [], hW', trodAll_mk1 (shut_bool Tryz.underlying4 _), (trodAll_cons_mk (Below.trod laidOut (by kernel_rfl) (of_decide_eq_true (by kernel_rfl)) k0 bel lt0) (trodAll_cons_mk (Below.trod laidOut (by kernel_rfl) (of_decide_eq_true (by kernel_rfl)) k1 bel lt1) trodAll_mk0)), rfl, bel.frame _, fun h => by cases h⟩
theorem over : Rows.scoreReasonsRow.holds Tryz.pinned (OpenSpec.ofChange Rows.scoreReasonsSpec) :=
  OpenClaim.holds_of_wide 3 Tryz.f3 rfl rfl rfl rfl rfl rfl rfl ⟨rfl, rfl, rfl, rfl, rfl⟩ rfl rfl rfl rfl rfl (by kernel_rfl) Tryz.func3 (by kernel_rfl)
    (of_decide_eq_true (by kernel_rfl)) (by unfold Func.isWrapper; first | (rw [if_pos (by decide +kernel)]; kernel_rfl) | (rw [if_neg (by decide +kernel)]; exact ⟨rfl, rfl⟩))
    (fun os started H enc _ => lifted os started H enc)
theorem proved : Rows.ScoreReasonsSaid := over
end Go.Proofs.YtecmlmngcnionaaGreat.scoreReasonsDone
