/-
  No cell of these rows narrows 'for every input' (looked for: loops, veiled, ifaces, maps, wideKeys, modest, calm, conditions, laid).
  DERIVED. THE GIVEN ROWS OF THIS SEAT. 10 by the template 'for every input the law returns true; each argument reads behind the call as it read before'; 0 by the template 'total and deterministic' (their statements: YtdbogmmdogjhpaaTotals.lean).
  GIVEN WITH THE SEED: the statements are not yours to turn. If you find one false, say at which input.
  Laid BY PROGRAM, IN A SANDBOX (cutbox-rows.mjs): the forced cells as the released guide's own fill.sh prints them over the translation ee35eb58a9768854… (all of the seat's roots in one cut). By AI agents, Wed Nov 11 2026. No macro, syntax, notation, axiom, sorry.
-/
import Derived.Test.YtdbogmmdogjhpaaChecked
import GoSem.Claim
import GoSem.ClaimJoined
import GoSem.ClaimMapViews
import Derived.JoinedTies
import Derived.KernelRfl
namespace Go.Proofs.Ytdbogmmdogjhpaa
/- THE CELL 'sum', in the pinned program and in every row, IS THE sha256 OF THE DUMP (.gsa) THAT YtdbogmmdogjhpaaProg.lean LOADS. Nothing in Lean hashes anything: it is a label: what it is worth is what the hold of that sum in a sandbox is worth. -/
noncomputable def Try.pinned : Pinned := { name := "ytdbogmmdogjhpaa", sum := "ee35eb58a9768854dc56e86e211144c8e0e77e6c1e2c6ec567e376c0eae8a770", checked := Try.checked }
namespace Rows
def none {H : Type} : Left H := { results := [], args := [] }

/-- 'goodnamelaw08.RingWeights': WHATEVER THE INPUT: true; the input reads as it did. -/
def ringWeightsSpec : ChangeSpec := { name := "ringWeights", fn := fun _ => fun
  | [d1, d2, d3, d4] => { results := [.lit (.bool true)], args := [d1, d2, d3, d4] }
  | _ => none }
def ringWeightsRow : OpenClaim := { program := "ytdbogmmdogjhpaa", sum := "ee35eb58a9768854dc56e86e211144c8e0e77e6c1e2c6ec567e376c0eae8a770", func := "goodname/goodnamelaw08.RingWeights", spec := "ringWeights", unfollowed := true, recurses := true, apart := false }
def RingWeightsSaid : Prop := ringWeightsRow.holds Try.pinned (OpenSpec.ofChange ringWeightsSpec)

/-- ITS FALSE NEIGHBOUR: 'it returns false'. Refute it at one input. -/
def ringWeightsWrong : ChangeSpec := { name := "ringWeights", fn := fun _ => fun
  | [d1, d2, d3, d4] => { results := [.lit (.bool false)], args := [d1, d2, d3, d4] }
  | _ => none }
def RingWeightsWrongFalsely : Prop := ringWeightsRow.holds Try.pinned (OpenSpec.ofChange ringWeightsWrong)

/-- 'goodnamelaw08.RingGroups': WHATEVER THE INPUT: true; the input reads as it did. -/
def ringGroupsSpec : ChangeSpec := { name := "ringGroups", fn := fun _ => fun
  | [d1, d2, d3, d4, d5, d6] => { results := [.lit (.bool true)], args := [d1, d2, d3, d4, d5, d6] }
  | _ => none }
def ringGroupsRow : OpenClaim := { program := "ytdbogmmdogjhpaa", sum := "ee35eb58a9768854dc56e86e211144c8e0e77e6c1e2c6ec567e376c0eae8a770", func := "goodname/goodnamelaw08.RingGroups", spec := "ringGroups", unfollowed := true, recurses := true, apart := false }
def RingGroupsSaid : Prop := ringGroupsRow.holds Try.pinned (OpenSpec.ofChange ringGroupsSpec)

/-- ITS FALSE NEIGHBOUR: 'it returns false'. Refute it at one input. -/
def ringGroupsWrong : ChangeSpec := { name := "ringGroups", fn := fun _ => fun
  | [d1, d2, d3, d4, d5, d6] => { results := [.lit (.bool false)], args := [d1, d2, d3, d4, d5, d6] }
  | _ => none }
def RingGroupsWrongFalsely : Prop := ringGroupsRow.holds Try.pinned (OpenSpec.ofChange ringGroupsWrong)

/-- 'goodnamelaw08.RingExamples': WHATEVER THE INPUT: true; the input reads as it did. -/
def ringExamplesSpec : ChangeSpec := { name := "ringExamples", fn := fun _ => fun
  | [] => { results := [.lit (.bool true)], args := [] }
  | _ => none }
def ringExamplesRow : OpenClaim := { program := "ytdbogmmdogjhpaa", sum := "ee35eb58a9768854dc56e86e211144c8e0e77e6c1e2c6ec567e376c0eae8a770", func := "goodname/goodnamelaw08.RingExamples", spec := "ringExamples", unfollowed := true, recurses := true, apart := false }
def RingExamplesSaid : Prop := ringExamplesRow.holds Try.pinned (OpenSpec.ofChange ringExamplesSpec)

/-- ITS FALSE NEIGHBOUR: 'it returns false'. Refute it at one input. -/
def ringExamplesWrong : ChangeSpec := { name := "ringExamples", fn := fun _ => fun
  | [] => { results := [.lit (.bool false)], args := [] }
  | _ => none }
def RingExamplesWrongFalsely : Prop := ringExamplesRow.holds Try.pinned (OpenSpec.ofChange ringExamplesWrong)

/-- 'goodnamelaw08.RingProved': WHATEVER THE INPUT: true; the input reads as it did. -/
def ringProvedSpec : ChangeSpec := { name := "ringProved", fn := fun _ => fun
  | [d1, d2, d3, d4, d5] => { results := [.lit (.bool true)], args := [d1, d2, d3, d4, d5] }
  | _ => none }
def ringProvedRow : OpenClaim := { program := "ytdbogmmdogjhpaa", sum := "ee35eb58a9768854dc56e86e211144c8e0e77e6c1e2c6ec567e376c0eae8a770", func := "goodname/goodnamelaw08.RingProved", spec := "ringProved", unfollowed := true, recurses := true, apart := false }
def RingProvedSaid : Prop := ringProvedRow.holds Try.pinned (OpenSpec.ofChange ringProvedSpec)

/-- ITS FALSE NEIGHBOUR: 'it returns false'. Refute it at one input. -/
def ringProvedWrong : ChangeSpec := { name := "ringProved", fn := fun _ => fun
  | [d1, d2, d3, d4, d5] => { results := [.lit (.bool false)], args := [d1, d2, d3, d4, d5] }
  | _ => none }
def RingProvedWrongFalsely : Prop := ringProvedRow.holds Try.pinned (OpenSpec.ofChange ringProvedWrong)

/-- 'goodnamelaw08.RingShort': WHATEVER THE INPUT: true; the input reads as it did. -/
def ringShortSpec : ChangeSpec := { name := "ringShort", fn := fun _ => fun
  | [d1, d2, d3, d4, d5] => { results := [.lit (.bool true)], args := [d1, d2, d3, d4, d5] }
  | _ => none }
def ringShortRow : OpenClaim := { program := "ytdbogmmdogjhpaa", sum := "ee35eb58a9768854dc56e86e211144c8e0e77e6c1e2c6ec567e376c0eae8a770", func := "goodname/goodnamelaw08.RingShort", spec := "ringShort", unfollowed := true, recurses := true, apart := false }
def RingShortSaid : Prop := ringShortRow.holds Try.pinned (OpenSpec.ofChange ringShortSpec)

/-- ITS FALSE NEIGHBOUR: 'it returns false'. Refute it at one input. -/
def ringShortWrong : ChangeSpec := { name := "ringShort", fn := fun _ => fun
  | [d1, d2, d3, d4, d5] => { results := [.lit (.bool false)], args := [d1, d2, d3, d4, d5] }
  | _ => none }
def RingShortWrongFalsely : Prop := ringShortRow.holds Try.pinned (OpenSpec.ofChange ringShortWrong)

/-- 'goodnamelaw08.RingNested': WHATEVER THE INPUT: true; the input reads as it did. -/
def ringNestedSpec : ChangeSpec := { name := "ringNested", fn := fun _ => fun
  | [d1, d2, d3, d4] => { results := [.lit (.bool true)], args := [d1, d2, d3, d4] }
  | _ => none }
def ringNestedRow : OpenClaim := { program := "ytdbogmmdogjhpaa", sum := "ee35eb58a9768854dc56e86e211144c8e0e77e6c1e2c6ec567e376c0eae8a770", func := "goodname/goodnamelaw08.RingNested", spec := "ringNested", unfollowed := true, recurses := true, apart := false }
def RingNestedSaid : Prop := ringNestedRow.holds Try.pinned (OpenSpec.ofChange ringNestedSpec)

/-- ITS FALSE NEIGHBOUR: 'it returns false'. Refute it at one input. -/
def ringNestedWrong : ChangeSpec := { name := "ringNested", fn := fun _ => fun
  | [d1, d2, d3, d4] => { results := [.lit (.bool false)], args := [d1, d2, d3, d4] }
  | _ => none }
def RingNestedWrongFalsely : Prop := ringNestedRow.holds Try.pinned (OpenSpec.ofChange ringNestedWrong)

/-- 'goodnamelaw08.RingApart': WHATEVER THE INPUT: true; the input reads as it did. -/
def ringApartSpec : ChangeSpec := { name := "ringApart", fn := fun _ => fun
  | [d1, d2, d3, d4, d5] => { results := [.lit (.bool true)], args := [d1, d2, d3, d4, d5] }
  | _ => none }
def ringApartRow : OpenClaim := { program := "ytdbogmmdogjhpaa", sum := "ee35eb58a9768854dc56e86e211144c8e0e77e6c1e2c6ec567e376c0eae8a770", func := "goodname/goodnamelaw08.RingApart", spec := "ringApart", unfollowed := true, recurses := true, apart := false }
def RingApartSaid : Prop := ringApartRow.holds Try.pinned (OpenSpec.ofChange ringApartSpec)

/-- ITS FALSE NEIGHBOUR: 'it returns false'. Refute it at one input. -/
def ringApartWrong : ChangeSpec := { name := "ringApart", fn := fun _ => fun
  | [d1, d2, d3, d4, d5] => { results := [.lit (.bool false)], args := [d1, d2, d3, d4, d5] }
  | _ => none }
def RingApartWrongFalsely : Prop := ringApartRow.holds Try.pinned (OpenSpec.ofChange ringApartWrong)

/-- 'goodnamelaw08.RingTuned': WHATEVER THE INPUT: true; the input reads as it did. -/
def ringTunedSpec : ChangeSpec := { name := "ringTuned", fn := fun _ => fun
  | [d1, d2, d3, d4, d5] => { results := [.lit (.bool true)], args := [d1, d2, d3, d4, d5] }
  | _ => none }
def ringTunedRow : OpenClaim := { program := "ytdbogmmdogjhpaa", sum := "ee35eb58a9768854dc56e86e211144c8e0e77e6c1e2c6ec567e376c0eae8a770", func := "goodname/goodnamelaw08.RingTuned", spec := "ringTuned", unfollowed := true, recurses := true, apart := false }
def RingTunedSaid : Prop := ringTunedRow.holds Try.pinned (OpenSpec.ofChange ringTunedSpec)

/-- ITS FALSE NEIGHBOUR: 'it returns false'. Refute it at one input. -/
def ringTunedWrong : ChangeSpec := { name := "ringTuned", fn := fun _ => fun
  | [d1, d2, d3, d4, d5] => { results := [.lit (.bool false)], args := [d1, d2, d3, d4, d5] }
  | _ => none }
def RingTunedWrongFalsely : Prop := ringTunedRow.holds Try.pinned (OpenSpec.ofChange ringTunedWrong)

/-- 'goodnamelaw08.RingNames': WHATEVER THE INPUT: true; the input reads as it did. -/
def ringNamesSpec : ChangeSpec := { name := "ringNames", fn := fun _ => fun
  | [d1, d2, d3, d4, d5, d6] => { results := [.lit (.bool true)], args := [d1, d2, d3, d4, d5, d6] }
  | _ => none }
def ringNamesRow : OpenClaim := { program := "ytdbogmmdogjhpaa", sum := "ee35eb58a9768854dc56e86e211144c8e0e77e6c1e2c6ec567e376c0eae8a770", func := "goodname/goodnamelaw08.RingNames", spec := "ringNames", unfollowed := true, recurses := true, apart := false }
def RingNamesSaid : Prop := ringNamesRow.holds Try.pinned (OpenSpec.ofChange ringNamesSpec)

/-- ITS FALSE NEIGHBOUR: 'it returns false'. Refute it at one input. -/
def ringNamesWrong : ChangeSpec := { name := "ringNames", fn := fun _ => fun
  | [d1, d2, d3, d4, d5, d6] => { results := [.lit (.bool false)], args := [d1, d2, d3, d4, d5, d6] }
  | _ => none }
def RingNamesWrongFalsely : Prop := ringNamesRow.holds Try.pinned (OpenSpec.ofChange ringNamesWrong)

/-- 'goodnamelaw08.RingWider': WHATEVER THE INPUT: true; the input reads as it did. -/
def ringWiderSpec : ChangeSpec := { name := "ringWider", fn := fun _ => fun
  | [d1, d2, d3, d4, d5, d6, d7] => { results := [.lit (.bool true)], args := [d1, d2, d3, d4, d5, d6, d7] }
  | _ => none }
def ringWiderRow : OpenClaim := { program := "ytdbogmmdogjhpaa", sum := "ee35eb58a9768854dc56e86e211144c8e0e77e6c1e2c6ec567e376c0eae8a770", func := "goodname/goodnamelaw08.RingWider", spec := "ringWider", unfollowed := true, recurses := true, apart := false }
def RingWiderSaid : Prop := ringWiderRow.holds Try.pinned (OpenSpec.ofChange ringWiderSpec)

/-- ITS FALSE NEIGHBOUR: 'it returns false'. Refute it at one input. -/
def ringWiderWrong : ChangeSpec := { name := "ringWider", fn := fun _ => fun
  | [d1, d2, d3, d4, d5, d6, d7] => { results := [.lit (.bool false)], args := [d1, d2, d3, d4, d5, d6, d7] }
  | _ => none }
def RingWiderWrongFalsely : Prop := ringWiderRow.holds Try.pinned (OpenSpec.ofChange ringWiderWrong)

/- THE SECOND FORM. 'bulk': how many values and letters a reading holds, each counted each time it is reached (what is shared counts as often as it is met; a slice's spare places count too). A statement '..UptoSaid' is the law's where the arguments, and the package variables that the reading takes, are together of bulk at most 1048576: NARROWER than '..Said'. Prove '..Said' where nothing that the law and all that it calls make is longer than what came in: it says more and counts as full. Else prove '..UptoSaid'. A law counts once. -/
mutual
def uptoBulk {H : Type} : DataW H → Nat
  | .lit (.string bytes) => bytes.length + 1
  | .lit _ => 1
  | .nil => 1
  | .ptr d => uptoBulk d + 1
  | .slice elems spare => uptoBulkAll elems + uptoBulkAll spare + 1
  | .agg parts => uptoBulkAll parts + 1
  | .iface _ d => uptoBulk d + 1
  | .map entries => uptoBulkEntries entries + 1
  | .held _ => 1
def uptoBulkAll {H : Type} : List (DataW H) → Nat
  | [] => 0
  | d :: r => uptoBulk d + uptoBulkAll r
def uptoBulkEntries {H : Type} : List (Lit × DataW H) → Nat
  | [] => 0
  | x :: r => uptoBulkEntry x + uptoBulkEntries r
def uptoBulkEntry {H : Type} : Lit × DataW H → Nat
  | (.string bytes, d) => bytes.length + uptoBulk d + 1
  | (_, d) => uptoBulk d + 1
 end
def uptoSmall : (H : Type) → List (DataW H) → Bool := fun _ ds => decide (uptoBulkAll ds ≤ 1048576)
def OpenSpec.upto (s : _root_.Go.ChangeSpec) : _root_.Go.OpenSpec := { _root_.Go.OpenSpec.ofChange s with cond := some uptoSmall }

/-- 'goodnamelaw08.RingWeights', WHERE WHAT IT READS IS OF BULK AT MOST 1048576: true; the input reads as it did. -/
def ringWeightsUptoRow : OpenClaim := { program := "ytdbogmmdogjhpaa", sum := "ee35eb58a9768854dc56e86e211144c8e0e77e6c1e2c6ec567e376c0eae8a770", func := "goodname/goodnamelaw08.RingWeights", spec := "ringWeights", unfollowed := true, recurses := true, apart := false, narrowed := true }
def RingWeightsUptoSaid : Prop := ringWeightsUptoRow.holds Try.pinned (OpenSpec.upto ringWeightsSpec)

/-- 'goodnamelaw08.RingGroups', WHERE WHAT IT READS IS OF BULK AT MOST 1048576: true; the input reads as it did. -/
def ringGroupsUptoRow : OpenClaim := { program := "ytdbogmmdogjhpaa", sum := "ee35eb58a9768854dc56e86e211144c8e0e77e6c1e2c6ec567e376c0eae8a770", func := "goodname/goodnamelaw08.RingGroups", spec := "ringGroups", unfollowed := true, recurses := true, apart := false, narrowed := true }
def RingGroupsUptoSaid : Prop := ringGroupsUptoRow.holds Try.pinned (OpenSpec.upto ringGroupsSpec)

/-- 'goodnamelaw08.RingExamples', WHERE WHAT IT READS IS OF BULK AT MOST 1048576: true; the input reads as it did. -/
def ringExamplesUptoRow : OpenClaim := { program := "ytdbogmmdogjhpaa", sum := "ee35eb58a9768854dc56e86e211144c8e0e77e6c1e2c6ec567e376c0eae8a770", func := "goodname/goodnamelaw08.RingExamples", spec := "ringExamples", unfollowed := true, recurses := true, apart := false, narrowed := true }
def RingExamplesUptoSaid : Prop := ringExamplesUptoRow.holds Try.pinned (OpenSpec.upto ringExamplesSpec)

/-- 'goodnamelaw08.RingProved', WHERE WHAT IT READS IS OF BULK AT MOST 1048576: true; the input reads as it did. -/
def ringProvedUptoRow : OpenClaim := { program := "ytdbogmmdogjhpaa", sum := "ee35eb58a9768854dc56e86e211144c8e0e77e6c1e2c6ec567e376c0eae8a770", func := "goodname/goodnamelaw08.RingProved", spec := "ringProved", unfollowed := true, recurses := true, apart := false, narrowed := true }
def RingProvedUptoSaid : Prop := ringProvedUptoRow.holds Try.pinned (OpenSpec.upto ringProvedSpec)

/-- 'goodnamelaw08.RingShort', WHERE WHAT IT READS IS OF BULK AT MOST 1048576: true; the input reads as it did. -/
def ringShortUptoRow : OpenClaim := { program := "ytdbogmmdogjhpaa", sum := "ee35eb58a9768854dc56e86e211144c8e0e77e6c1e2c6ec567e376c0eae8a770", func := "goodname/goodnamelaw08.RingShort", spec := "ringShort", unfollowed := true, recurses := true, apart := false, narrowed := true }
def RingShortUptoSaid : Prop := ringShortUptoRow.holds Try.pinned (OpenSpec.upto ringShortSpec)

/-- 'goodnamelaw08.RingNested', WHERE WHAT IT READS IS OF BULK AT MOST 1048576: true; the input reads as it did. -/
def ringNestedUptoRow : OpenClaim := { program := "ytdbogmmdogjhpaa", sum := "ee35eb58a9768854dc56e86e211144c8e0e77e6c1e2c6ec567e376c0eae8a770", func := "goodname/goodnamelaw08.RingNested", spec := "ringNested", unfollowed := true, recurses := true, apart := false, narrowed := true }
def RingNestedUptoSaid : Prop := ringNestedUptoRow.holds Try.pinned (OpenSpec.upto ringNestedSpec)

/-- 'goodnamelaw08.RingApart', WHERE WHAT IT READS IS OF BULK AT MOST 1048576: true; the input reads as it did. -/
def ringApartUptoRow : OpenClaim := { program := "ytdbogmmdogjhpaa", sum := "ee35eb58a9768854dc56e86e211144c8e0e77e6c1e2c6ec567e376c0eae8a770", func := "goodname/goodnamelaw08.RingApart", spec := "ringApart", unfollowed := true, recurses := true, apart := false, narrowed := true }
def RingApartUptoSaid : Prop := ringApartUptoRow.holds Try.pinned (OpenSpec.upto ringApartSpec)

/-- 'goodnamelaw08.RingTuned', WHERE WHAT IT READS IS OF BULK AT MOST 1048576: true; the input reads as it did. -/
def ringTunedUptoRow : OpenClaim := { program := "ytdbogmmdogjhpaa", sum := "ee35eb58a9768854dc56e86e211144c8e0e77e6c1e2c6ec567e376c0eae8a770", func := "goodname/goodnamelaw08.RingTuned", spec := "ringTuned", unfollowed := true, recurses := true, apart := false, narrowed := true }
def RingTunedUptoSaid : Prop := ringTunedUptoRow.holds Try.pinned (OpenSpec.upto ringTunedSpec)

/-- 'goodnamelaw08.RingNames', WHERE WHAT IT READS IS OF BULK AT MOST 1048576: true; the input reads as it did. -/
def ringNamesUptoRow : OpenClaim := { program := "ytdbogmmdogjhpaa", sum := "ee35eb58a9768854dc56e86e211144c8e0e77e6c1e2c6ec567e376c0eae8a770", func := "goodname/goodnamelaw08.RingNames", spec := "ringNames", unfollowed := true, recurses := true, apart := false, narrowed := true }
def RingNamesUptoSaid : Prop := ringNamesUptoRow.holds Try.pinned (OpenSpec.upto ringNamesSpec)

/-- 'goodnamelaw08.RingWider', WHERE WHAT IT READS IS OF BULK AT MOST 1048576: true; the input reads as it did. -/
def ringWiderUptoRow : OpenClaim := { program := "ytdbogmmdogjhpaa", sum := "ee35eb58a9768854dc56e86e211144c8e0e77e6c1e2c6ec567e376c0eae8a770", func := "goodname/goodnamelaw08.RingWider", spec := "ringWider", unfollowed := true, recurses := true, apart := false, narrowed := true }
def RingWiderUptoSaid : Prop := ringWiderUptoRow.holds Try.pinned (OpenSpec.upto ringWiderSpec)

end Rows
end Go.Proofs.Ytdbogmmdogjhpaa
