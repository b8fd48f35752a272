/-
  No cell of these rows narrows 'for every input' (looked for: loops, veiled, ifaces, maps, wideKeys, modest, calm, conditions, laid).
  DERIVED. THE GIVEN ROWS OF THIS SEAT. 9 by the template 'for every input the law returns true; each argument reads behind the call as it read before'; 0 by the template 'total and deterministic' (their statements: YtecmlmngcnionaaTotals.lean).
  GIVEN WITH THE SEED: the statements are not yours to turn. If you find one false, say at which input.
  Laid BY PROGRAM, IN A SANDBOX (cutbox-rows.mjs): the forced cells as the released guide's own fill.sh prints them over the translation 4c24682bc8ce7235… (all of the seat's roots in one cut). By AI agents, Wed Nov 11 2026. No macro, syntax, notation, axiom, sorry.
-/
import Derived.Test.YtecmlmngcnionaaChecked
import GoSem.Claim
import GoSem.ClaimJoined
import GoSem.ClaimMapViews
import Derived.JoinedTies
import Derived.KernelRfl
namespace Go.Proofs.Ytecmlmngcnionaa
/- THE CELL 'sum', in the pinned program and in every row, IS THE sha256 OF THE DUMP (.gsa) THAT YtecmlmngcnionaaProg.lean LOADS. Nothing in Lean hashes anything: it is a label: what it is worth is what the hold of that sum in a sandbox is worth. -/
noncomputable def Try.pinned : Pinned := { name := "ytecmlmngcnionaa", sum := "4c24682bc8ce7235f2004eba896b6d09a52fac6f619cf46aa15565f1e1ed571c", checked := Try.checked }
namespace Rows
def none {H : Type} : Left H := { results := [], args := [] }

/-- 'goodnamelaw06.ScoreScores': WHATEVER THE INPUT: true; the input reads as it did. -/
def scoreScoresSpec : ChangeSpec := { name := "scoreScores", fn := fun _ => fun
  | [d1, d2] => { results := [.lit (.bool true)], args := [d1, d2] }
  | _ => none }
def scoreScoresRow : OpenClaim := { program := "ytecmlmngcnionaa", sum := "4c24682bc8ce7235f2004eba896b6d09a52fac6f619cf46aa15565f1e1ed571c", func := "goodname/goodnamelaw06.ScoreScores", spec := "scoreScores", unfollowed := true, recurses := true, apart := false }
def ScoreScoresSaid : Prop := scoreScoresRow.holds Try.pinned (OpenSpec.ofChange scoreScoresSpec)

/-- ITS FALSE NEIGHBOUR: 'it returns false'. Refute it at one input. -/
def scoreScoresWrong : ChangeSpec := { name := "scoreScores", fn := fun _ => fun
  | [d1, d2] => { results := [.lit (.bool false)], args := [d1, d2] }
  | _ => none }
def ScoreScoresWrongFalsely : Prop := scoreScoresRow.holds Try.pinned (OpenSpec.ofChange scoreScoresWrong)

/-- 'goodnamelaw06.ScoreSpans': WHATEVER THE INPUT: true; the input reads as it did. -/
def scoreSpansSpec : ChangeSpec := { name := "scoreSpans", fn := fun _ => fun
  | [d1, d2] => { results := [.lit (.bool true)], args := [d1, d2] }
  | _ => none }
def scoreSpansRow : OpenClaim := { program := "ytecmlmngcnionaa", sum := "4c24682bc8ce7235f2004eba896b6d09a52fac6f619cf46aa15565f1e1ed571c", func := "goodname/goodnamelaw06.ScoreSpans", spec := "scoreSpans", unfollowed := true, recurses := true, apart := false }
def ScoreSpansSaid : Prop := scoreSpansRow.holds Try.pinned (OpenSpec.ofChange scoreSpansSpec)

/-- ITS FALSE NEIGHBOUR: 'it returns false'. Refute it at one input. -/
def scoreSpansWrong : ChangeSpec := { name := "scoreSpans", fn := fun _ => fun
  | [d1, d2] => { results := [.lit (.bool false)], args := [d1, d2] }
  | _ => none }
def ScoreSpansWrongFalsely : Prop := scoreSpansRow.holds Try.pinned (OpenSpec.ofChange scoreSpansWrong)

/-- 'goodnamelaw06.ScoreTrue': WHATEVER THE INPUT: true; the input reads as it did. -/
def scoreTrueSpec : ChangeSpec := { name := "scoreTrue", fn := fun _ => fun
  | [d1, d2] => { results := [.lit (.bool true)], args := [d1, d2] }
  | _ => none }
def scoreTrueRow : OpenClaim := { program := "ytecmlmngcnionaa", sum := "4c24682bc8ce7235f2004eba896b6d09a52fac6f619cf46aa15565f1e1ed571c", func := "goodname/goodnamelaw06.ScoreTrue", spec := "scoreTrue", unfollowed := true, recurses := true, apart := false }
def ScoreTrueSaid : Prop := scoreTrueRow.holds Try.pinned (OpenSpec.ofChange scoreTrueSpec)

/-- ITS FALSE NEIGHBOUR: 'it returns false'. Refute it at one input. -/
def scoreTrueWrong : ChangeSpec := { name := "scoreTrue", fn := fun _ => fun
  | [d1, d2] => { results := [.lit (.bool false)], args := [d1, d2] }
  | _ => none }
def ScoreTrueWrongFalsely : Prop := scoreTrueRow.holds Try.pinned (OpenSpec.ofChange scoreTrueWrong)

/-- 'goodnamelaw06.ScoreBins': WHATEVER THE INPUT: true; the input reads as it did. -/
def scoreBinsSpec : ChangeSpec := { name := "scoreBins", fn := fun _ => fun
  | [d1, d2, d3] => { results := [.lit (.bool true)], args := [d1, d2, d3] }
  | _ => none }
def scoreBinsRow : OpenClaim := { program := "ytecmlmngcnionaa", sum := "4c24682bc8ce7235f2004eba896b6d09a52fac6f619cf46aa15565f1e1ed571c", func := "goodname/goodnamelaw06.ScoreBins", spec := "scoreBins", unfollowed := true, recurses := true, apart := false }
def ScoreBinsSaid : Prop := scoreBinsRow.holds Try.pinned (OpenSpec.ofChange scoreBinsSpec)

/-- ITS FALSE NEIGHBOUR: 'it returns false'. Refute it at one input. -/
def scoreBinsWrong : ChangeSpec := { name := "scoreBins", fn := fun _ => fun
  | [d1, d2, d3] => { results := [.lit (.bool false)], args := [d1, d2, d3] }
  | _ => none }
def ScoreBinsWrongFalsely : Prop := scoreBinsRow.holds Try.pinned (OpenSpec.ofChange scoreBinsWrong)

/-- 'goodnamelaw06.ScoreWhy': WHATEVER THE INPUT: true; the input reads as it did. -/
def scoreWhySpec : ChangeSpec := { name := "scoreWhy", fn := fun _ => fun
  | [d1, d2, d3, d4] => { results := [.lit (.bool true)], args := [d1, d2, d3, d4] }
  | _ => none }
def scoreWhyRow : OpenClaim := { program := "ytecmlmngcnionaa", sum := "4c24682bc8ce7235f2004eba896b6d09a52fac6f619cf46aa15565f1e1ed571c", func := "goodname/goodnamelaw06.ScoreWhy", spec := "scoreWhy", unfollowed := true, recurses := true, apart := false }
def ScoreWhySaid : Prop := scoreWhyRow.holds Try.pinned (OpenSpec.ofChange scoreWhySpec)

/-- ITS FALSE NEIGHBOUR: 'it returns false'. Refute it at one input. -/
def scoreWhyWrong : ChangeSpec := { name := "scoreWhy", fn := fun _ => fun
  | [d1, d2, d3, d4] => { results := [.lit (.bool false)], args := [d1, d2, d3, d4] }
  | _ => none }
def ScoreWhyWrongFalsely : Prop := scoreWhyRow.holds Try.pinned (OpenSpec.ofChange scoreWhyWrong)

/-- 'goodnamelaw06.ScoreInside': WHATEVER THE INPUT: true; the input reads as it did. -/
def scoreInsideSpec : ChangeSpec := { name := "scoreInside", fn := fun _ => fun
  | [d1, d2, d3] => { results := [.lit (.bool true)], args := [d1, d2, d3] }
  | _ => none }
def scoreInsideRow : OpenClaim := { program := "ytecmlmngcnionaa", sum := "4c24682bc8ce7235f2004eba896b6d09a52fac6f619cf46aa15565f1e1ed571c", func := "goodname/goodnamelaw06.ScoreInside", spec := "scoreInside", unfollowed := true, recurses := true, apart := false }
def ScoreInsideSaid : Prop := scoreInsideRow.holds Try.pinned (OpenSpec.ofChange scoreInsideSpec)

/-- ITS FALSE NEIGHBOUR: 'it returns false'. Refute it at one input. -/
def scoreInsideWrong : ChangeSpec := { name := "scoreInside", fn := fun _ => fun
  | [d1, d2, d3] => { results := [.lit (.bool false)], args := [d1, d2, d3] }
  | _ => none }
def ScoreInsideWrongFalsely : Prop := scoreInsideRow.holds Try.pinned (OpenSpec.ofChange scoreInsideWrong)

/-- 'goodnamelaw06.ScoreReached': WHATEVER THE INPUT: true; the input reads as it did. -/
def scoreReachedSpec : ChangeSpec := { name := "scoreReached", fn := fun _ => fun
  | [d1, d2, d3, d4] => { results := [.lit (.bool true)], args := [d1, d2, d3, d4] }
  | _ => none }
def scoreReachedRow : OpenClaim := { program := "ytecmlmngcnionaa", sum := "4c24682bc8ce7235f2004eba896b6d09a52fac6f619cf46aa15565f1e1ed571c", func := "goodname/goodnamelaw06.ScoreReached", spec := "scoreReached", unfollowed := true, recurses := true, apart := false }
def ScoreReachedSaid : Prop := scoreReachedRow.holds Try.pinned (OpenSpec.ofChange scoreReachedSpec)

/-- ITS FALSE NEIGHBOUR: 'it returns false'. Refute it at one input. -/
def scoreReachedWrong : ChangeSpec := { name := "scoreReached", fn := fun _ => fun
  | [d1, d2, d3, d4] => { results := [.lit (.bool false)], args := [d1, d2, d3, d4] }
  | _ => none }
def ScoreReachedWrongFalsely : Prop := scoreReachedRow.holds Try.pinned (OpenSpec.ofChange scoreReachedWrong)

/-- 'goodnamelaw06.ScoreMore': WHATEVER THE INPUT: true; the input reads as it did. -/
def scoreMoreSpec : ChangeSpec := { name := "scoreMore", fn := fun _ => fun
  | [d1, d2, d3] => { results := [.lit (.bool true)], args := [d1, d2, d3] }
  | _ => none }
def scoreMoreRow : OpenClaim := { program := "ytecmlmngcnionaa", sum := "4c24682bc8ce7235f2004eba896b6d09a52fac6f619cf46aa15565f1e1ed571c", func := "goodname/goodnamelaw06.ScoreMore", spec := "scoreMore", unfollowed := true, recurses := true, apart := false }
def ScoreMoreSaid : Prop := scoreMoreRow.holds Try.pinned (OpenSpec.ofChange scoreMoreSpec)

/-- ITS FALSE NEIGHBOUR: 'it returns false'. Refute it at one input. -/
def scoreMoreWrong : ChangeSpec := { name := "scoreMore", fn := fun _ => fun
  | [d1, d2, d3] => { results := [.lit (.bool false)], args := [d1, d2, d3] }
  | _ => none }
def ScoreMoreWrongFalsely : Prop := scoreMoreRow.holds Try.pinned (OpenSpec.ofChange scoreMoreWrong)

/-- 'goodnamelaw06.ScoreExamples': WHATEVER THE INPUT: true; the input reads as it did. -/
def scoreExamplesSpec : ChangeSpec := { name := "scoreExamples", fn := fun _ => fun
  | [] => { results := [.lit (.bool true)], args := [] }
  | _ => none }
def scoreExamplesRow : OpenClaim := { program := "ytecmlmngcnionaa", sum := "4c24682bc8ce7235f2004eba896b6d09a52fac6f619cf46aa15565f1e1ed571c", func := "goodname/goodnamelaw06.ScoreExamples", spec := "scoreExamples", unfollowed := true, recurses := true, apart := false }
def ScoreExamplesSaid : Prop := scoreExamplesRow.holds Try.pinned (OpenSpec.ofChange scoreExamplesSpec)

/-- ITS FALSE NEIGHBOUR: 'it returns false'. Refute it at one input. -/
def scoreExamplesWrong : ChangeSpec := { name := "scoreExamples", fn := fun _ => fun
  | [] => { results := [.lit (.bool false)], args := [] }
  | _ => none }
def ScoreExamplesWrongFalsely : Prop := scoreExamplesRow.holds Try.pinned (OpenSpec.ofChange scoreExamplesWrong)

/- THE SECOND FORM. 'bulk': how many values and letters a reading holds, each counted each time it is reached (what is shared counts as often as it is met; a slice's spare places count too). A statement '..UptoSaid' is the law's where the arguments, and the package variables that the reading takes, are together of bulk at most 1048576: NARROWER than '..Said'. Prove '..Said' where nothing that the law and all that it calls make is longer than what came in: it says more and counts as full. Else prove '..UptoSaid'. A law counts once. -/
mutual
def uptoBulk {H : Type} : DataW H → Nat
  | .lit (.string bytes) => bytes.length + 1
  | .lit _ => 1
  | .nil => 1
  | .ptr d => uptoBulk d + 1
  | .slice elems spare => uptoBulkAll elems + uptoBulkAll spare + 1
  | .agg parts => uptoBulkAll parts + 1
  | .iface _ d => uptoBulk d + 1
  | .map entries => uptoBulkEntries entries + 1
  | .held _ => 1
def uptoBulkAll {H : Type} : List (DataW H) → Nat
  | [] => 0
  | d :: r => uptoBulk d + uptoBulkAll r
def uptoBulkEntries {H : Type} : List (Lit × DataW H) → Nat
  | [] => 0
  | x :: r => uptoBulkEntry x + uptoBulkEntries r
def uptoBulkEntry {H : Type} : Lit × DataW H → Nat
  | (.string bytes, d) => bytes.length + uptoBulk d + 1
  | (_, d) => uptoBulk d + 1
 end
def uptoSmall : (H : Type) → List (DataW H) → Bool := fun _ ds => decide (uptoBulkAll ds ≤ 1048576)
def OpenSpec.upto (s : _root_.Go.ChangeSpec) : _root_.Go.OpenSpec := { _root_.Go.OpenSpec.ofChange s with cond := some uptoSmall }

/-- 'goodnamelaw06.ScoreScores', WHERE WHAT IT READS IS OF BULK AT MOST 1048576: true; the input reads as it did. -/
def scoreScoresUptoRow : OpenClaim := { program := "ytecmlmngcnionaa", sum := "4c24682bc8ce7235f2004eba896b6d09a52fac6f619cf46aa15565f1e1ed571c", func := "goodname/goodnamelaw06.ScoreScores", spec := "scoreScores", unfollowed := true, recurses := true, apart := false, narrowed := true }
def ScoreScoresUptoSaid : Prop := scoreScoresUptoRow.holds Try.pinned (OpenSpec.upto scoreScoresSpec)

/-- 'goodnamelaw06.ScoreSpans', WHERE WHAT IT READS IS OF BULK AT MOST 1048576: true; the input reads as it did. -/
def scoreSpansUptoRow : OpenClaim := { program := "ytecmlmngcnionaa", sum := "4c24682bc8ce7235f2004eba896b6d09a52fac6f619cf46aa15565f1e1ed571c", func := "goodname/goodnamelaw06.ScoreSpans", spec := "scoreSpans", unfollowed := true, recurses := true, apart := false, narrowed := true }
def ScoreSpansUptoSaid : Prop := scoreSpansUptoRow.holds Try.pinned (OpenSpec.upto scoreSpansSpec)

/-- 'goodnamelaw06.ScoreTrue', WHERE WHAT IT READS IS OF BULK AT MOST 1048576: true; the input reads as it did. -/
def scoreTrueUptoRow : OpenClaim := { program := "ytecmlmngcnionaa", sum := "4c24682bc8ce7235f2004eba896b6d09a52fac6f619cf46aa15565f1e1ed571c", func := "goodname/goodnamelaw06.ScoreTrue", spec := "scoreTrue", unfollowed := true, recurses := true, apart := false, narrowed := true }
def ScoreTrueUptoSaid : Prop := scoreTrueUptoRow.holds Try.pinned (OpenSpec.upto scoreTrueSpec)

/-- 'goodnamelaw06.ScoreBins', WHERE WHAT IT READS IS OF BULK AT MOST 1048576: true; the input reads as it did. -/
def scoreBinsUptoRow : OpenClaim := { program := "ytecmlmngcnionaa", sum := "4c24682bc8ce7235f2004eba896b6d09a52fac6f619cf46aa15565f1e1ed571c", func := "goodname/goodnamelaw06.ScoreBins", spec := "scoreBins", unfollowed := true, recurses := true, apart := false, narrowed := true }
def ScoreBinsUptoSaid : Prop := scoreBinsUptoRow.holds Try.pinned (OpenSpec.upto scoreBinsSpec)

/-- 'goodnamelaw06.ScoreWhy', WHERE WHAT IT READS IS OF BULK AT MOST 1048576: true; the input reads as it did. -/
def scoreWhyUptoRow : OpenClaim := { program := "ytecmlmngcnionaa", sum := "4c24682bc8ce7235f2004eba896b6d09a52fac6f619cf46aa15565f1e1ed571c", func := "goodname/goodnamelaw06.ScoreWhy", spec := "scoreWhy", unfollowed := true, recurses := true, apart := false, narrowed := true }
def ScoreWhyUptoSaid : Prop := scoreWhyUptoRow.holds Try.pinned (OpenSpec.upto scoreWhySpec)

/-- 'goodnamelaw06.ScoreInside', WHERE WHAT IT READS IS OF BULK AT MOST 1048576: true; the input reads as it did. -/
def scoreInsideUptoRow : OpenClaim := { program := "ytecmlmngcnionaa", sum := "4c24682bc8ce7235f2004eba896b6d09a52fac6f619cf46aa15565f1e1ed571c", func := "goodname/goodnamelaw06.ScoreInside", spec := "scoreInside", unfollowed := true, recurses := true, apart := false, narrowed := true }
def ScoreInsideUptoSaid : Prop := scoreInsideUptoRow.holds Try.pinned (OpenSpec.upto scoreInsideSpec)

/-- 'goodnamelaw06.ScoreReached', WHERE WHAT IT READS IS OF BULK AT MOST 1048576: true; the input reads as it did. -/
def scoreReachedUptoRow : OpenClaim := { program := "ytecmlmngcnionaa", sum := "4c24682bc8ce7235f2004eba896b6d09a52fac6f619cf46aa15565f1e1ed571c", func := "goodname/goodnamelaw06.ScoreReached", spec := "scoreReached", unfollowed := true, recurses := true, apart := false, narrowed := true }
def ScoreReachedUptoSaid : Prop := scoreReachedUptoRow.holds Try.pinned (OpenSpec.upto scoreReachedSpec)

/-- 'goodnamelaw06.ScoreMore', WHERE WHAT IT READS IS OF BULK AT MOST 1048576: true; the input reads as it did. -/
def scoreMoreUptoRow : OpenClaim := { program := "ytecmlmngcnionaa", sum := "4c24682bc8ce7235f2004eba896b6d09a52fac6f619cf46aa15565f1e1ed571c", func := "goodname/goodnamelaw06.ScoreMore", spec := "scoreMore", unfollowed := true, recurses := true, apart := false, narrowed := true }
def ScoreMoreUptoSaid : Prop := scoreMoreUptoRow.holds Try.pinned (OpenSpec.upto scoreMoreSpec)

/-- 'goodnamelaw06.ScoreExamples', WHERE WHAT IT READS IS OF BULK AT MOST 1048576: true; the input reads as it did. -/
def scoreExamplesUptoRow : OpenClaim := { program := "ytecmlmngcnionaa", sum := "4c24682bc8ce7235f2004eba896b6d09a52fac6f619cf46aa15565f1e1ed571c", func := "goodname/goodnamelaw06.ScoreExamples", spec := "scoreExamples", unfollowed := true, recurses := true, apart := false, narrowed := true }
def ScoreExamplesUptoSaid : Prop := scoreExamplesUptoRow.holds Try.pinned (OpenSpec.upto scoreExamplesSpec)

end Rows
end Go.Proofs.Ytecmlmngcnionaa
