/-
  NARROWER THAN 'FOR EVERY INPUT', by the rows' own cells (each row's printed sentence says how): DisputeFollows: laid · DisputeDecided: laid · DisputeLate: laid · DisputeTold: laid · DisputeMarks: laid · DisputeExamples: laid · DisputeFates: laid · DisputeAnyOrder: laid · DisputeBefore: laid.
  DERIVED. THE GIVEN ROWS OF THIS SEAT. 9 by the template 'for every input the law returns true; each argument reads behind the call as it read before'; 0 by the template 'total and deterministic' (their statements: YtgioiejbphljoaaGreatDoorTotals.lean).
  GIVEN WITH THE SEED: the statements are not yours to turn. If you find one false, say at which input.
  Laid BY PROGRAM, IN A SANDBOX (cutbox-rows.mjs): the forced cells as the released guide's own fill.sh prints them over the translation 3f295eb50a0372ee… (all of the seat's roots in one cut). By AI agents, Wed Nov 11 2026. No macro, syntax, notation, axiom, sorry.
-/
import Derived.Test.YtgioiejbphljoaaGreatDoorChecked
import GoSem.Claim
import GoSem.ClaimJoined
import GoSem.ClaimMapViews
import Derived.JoinedTies
import Derived.KernelRfl
namespace Go.Proofs.YtgioiejbphljoaaGreatDoor
/- THE CELL 'sum', in the pinned program and in every row, IS THE sha256 OF THE DUMP (.gsa) THAT YtgioiejbphljoaaGreatDoorProg.lean LOADS. Nothing in Lean hashes anything: it is a label: what it is worth is what the hold of that sum in a sandbox is worth. -/
noncomputable def Tryz.pinned : Pinned := { name := "ytgioiejbphljoaagreatdoor", sum := "3f295eb50a0372ee0380412d642b8bc059e05def185f054b007047246e5ef16f", checked := Tryz.checked }
namespace Rows
def none {H : Type} : Left H := { results := [], args := [] }

/- WHAT THE LISTED PACKAGE-LEVEL VARIABLES READ AS WHEN THE CALL BEGINS. Each datum BY PROGRAM (the guide's laid-datum.mjs) off the statement by which the dump's own 'gosem.cut.vars' lays the variable. In a bare row this is a premise. The card (YtgioiejbphljoaaGreatDoorCards.lean) ties it to the program's text. -/
def laid_goodname_account_most {H : Type} : DataW H := .agg [.lit (.int .i64 0), .lit (.int .i64 0), .lit (.int .i64 1000000000000), .lit (.int .i64 1000000000000), .lit (.int .i64 1000000000000), .lit (.int .i64 10000), .lit (.int .i64 1000000000000), .lit (.int .i64 0), .lit (.int .i64 1000000000000), .lit (.int .i64 0)]
def laid_goodname_dispute_steps {H : Type} : DataW H := .iface "func table" (.agg [.iface "func" (.lit (.string [103, 111, 111, 100, 110, 97, 109, 101, 47, 100, 105, 115, 112, 117, 116, 101, 46, 115, 116, 101, 112, 115, 36, 49])), .iface "func" (.lit (.string [103, 111, 111, 100, 110, 97, 109, 101, 47, 100, 105, 115, 112, 117, 116, 101, 46, 115, 116, 101, 112, 115, 36, 50])), .iface "func" (.lit (.string [103, 111, 111, 100, 110, 97, 109, 101, 47, 100, 105, 115, 112, 117, 116, 101, 46, 115, 116, 101, 112, 115, 36, 51])), .iface "func" (.lit (.string [103, 111, 111, 100, 110, 97, 109, 101, 47, 100, 105, 115, 112, 117, 116, 101, 46, 115, 116, 101, 112, 115, 36, 52]))])
def laid_goodname_dispute_outcomes {H : Type} : DataW H := .map [(.int .u8 1, .lit (.int .u8 2)), (.int .u8 2, .lit (.int .u8 3)), (.int .u8 3, .lit (.int .u8 4))]

/-- 'goodnamelaw05.DisputeFollows': WHATEVER THE INPUT: true; the input reads as it did. -/
def disputeFollowsSpec : ChangeSpec := { name := "disputeFollows", fn := fun _ => fun
  | [d1, d2, d3] => { results := [.lit (.bool true)], args := [d1, d2, d3] }
  | _ => none }
def disputeFollowsRow : OpenClaim := { program := "ytgioiejbphljoaagreatdoor", sum := "3f295eb50a0372ee0380412d642b8bc059e05def185f054b007047246e5ef16f", func := "goodname/goodnamelaw05.DisputeFollows", spec := "disputeFollows", unfollowed := true, recurses := true, named := ["goodname/dispute.steps", "goodname/dispute.outcomes", "goodname/account.most"], plainKeys := false, apart := false, laid := [("goodname/account.most", laid_goodname_account_most), ("goodname/dispute.steps", laid_goodname_dispute_steps), ("goodname/dispute.outcomes", laid_goodname_dispute_outcomes)] }
def DisputeFollowsSaid : Prop := disputeFollowsRow.holds Tryz.pinned (OpenSpec.ofChange disputeFollowsSpec)

/-- ITS FALSE NEIGHBOUR: 'it returns false'. Refute it at one input. -/
def disputeFollowsWrong : ChangeSpec := { name := "disputeFollows", fn := fun _ => fun
  | [d1, d2, d3] => { results := [.lit (.bool false)], args := [d1, d2, d3] }
  | _ => none }
def DisputeFollowsWrongFalsely : Prop := disputeFollowsRow.holds Tryz.pinned (OpenSpec.ofChange disputeFollowsWrong)

/-- 'goodnamelaw05.DisputeDecided': WHATEVER THE INPUT: true; the input reads as it did. -/
def disputeDecidedSpec : ChangeSpec := { name := "disputeDecided", fn := fun _ => fun
  | [d1, d2, d3] => { results := [.lit (.bool true)], args := [d1, d2, d3] }
  | _ => none }
def disputeDecidedRow : OpenClaim := { program := "ytgioiejbphljoaagreatdoor", sum := "3f295eb50a0372ee0380412d642b8bc059e05def185f054b007047246e5ef16f", func := "goodname/goodnamelaw05.DisputeDecided", spec := "disputeDecided", unfollowed := true, recurses := true, named := ["goodname/dispute.steps", "goodname/dispute.outcomes", "goodname/account.most"], plainKeys := false, apart := false, laid := [("goodname/account.most", laid_goodname_account_most), ("goodname/dispute.steps", laid_goodname_dispute_steps), ("goodname/dispute.outcomes", laid_goodname_dispute_outcomes)] }
def DisputeDecidedSaid : Prop := disputeDecidedRow.holds Tryz.pinned (OpenSpec.ofChange disputeDecidedSpec)

/-- ITS FALSE NEIGHBOUR: 'it returns false'. Refute it at one input. -/
def disputeDecidedWrong : ChangeSpec := { name := "disputeDecided", fn := fun _ => fun
  | [d1, d2, d3] => { results := [.lit (.bool false)], args := [d1, d2, d3] }
  | _ => none }
def DisputeDecidedWrongFalsely : Prop := disputeDecidedRow.holds Tryz.pinned (OpenSpec.ofChange disputeDecidedWrong)

/-- 'goodnamelaw05.DisputeLate': WHATEVER THE INPUT: true; the input reads as it did. -/
def disputeLateSpec : ChangeSpec := { name := "disputeLate", fn := fun _ => fun
  | [d1, d2, d3, d4, d5] => { results := [.lit (.bool true)], args := [d1, d2, d3, d4, d5] }
  | _ => none }
def disputeLateRow : OpenClaim := { program := "ytgioiejbphljoaagreatdoor", sum := "3f295eb50a0372ee0380412d642b8bc059e05def185f054b007047246e5ef16f", func := "goodname/goodnamelaw05.DisputeLate", spec := "disputeLate", unfollowed := true, recurses := true, named := ["goodname/dispute.steps", "goodname/dispute.outcomes", "goodname/account.most"], plainKeys := false, apart := false, laid := [("goodname/account.most", laid_goodname_account_most), ("goodname/dispute.steps", laid_goodname_dispute_steps), ("goodname/dispute.outcomes", laid_goodname_dispute_outcomes)] }
def DisputeLateSaid : Prop := disputeLateRow.holds Tryz.pinned (OpenSpec.ofChange disputeLateSpec)

/-- ITS FALSE NEIGHBOUR: 'it returns false'. Refute it at one input. -/
def disputeLateWrong : ChangeSpec := { name := "disputeLate", fn := fun _ => fun
  | [d1, d2, d3, d4, d5] => { results := [.lit (.bool false)], args := [d1, d2, d3, d4, d5] }
  | _ => none }
def DisputeLateWrongFalsely : Prop := disputeLateRow.holds Tryz.pinned (OpenSpec.ofChange disputeLateWrong)

/-- 'goodnamelaw05.DisputeTold': WHATEVER THE INPUT: true; the input reads as it did. -/
def disputeToldSpec : ChangeSpec := { name := "disputeTold", fn := fun _ => fun
  | [d1, d2, d3] => { results := [.lit (.bool true)], args := [d1, d2, d3] }
  | _ => none }
def disputeToldRow : OpenClaim := { program := "ytgioiejbphljoaagreatdoor", sum := "3f295eb50a0372ee0380412d642b8bc059e05def185f054b007047246e5ef16f", func := "goodname/goodnamelaw05.DisputeTold", spec := "disputeTold", unfollowed := true, recurses := true, named := ["goodname/dispute.steps", "goodname/dispute.outcomes", "goodname/account.most"], plainKeys := false, apart := false, laid := [("goodname/account.most", laid_goodname_account_most), ("goodname/dispute.steps", laid_goodname_dispute_steps), ("goodname/dispute.outcomes", laid_goodname_dispute_outcomes)] }
def DisputeToldSaid : Prop := disputeToldRow.holds Tryz.pinned (OpenSpec.ofChange disputeToldSpec)

/-- ITS FALSE NEIGHBOUR: 'it returns false'. Refute it at one input. -/
def disputeToldWrong : ChangeSpec := { name := "disputeTold", fn := fun _ => fun
  | [d1, d2, d3] => { results := [.lit (.bool false)], args := [d1, d2, d3] }
  | _ => none }
def DisputeToldWrongFalsely : Prop := disputeToldRow.holds Tryz.pinned (OpenSpec.ofChange disputeToldWrong)

/-- 'goodnamelaw05.DisputeMarks': WHATEVER THE INPUT: true; the input reads as it did. -/
def disputeMarksSpec : ChangeSpec := { name := "disputeMarks", fn := fun _ => fun
  | [d1, d2, d3] => { results := [.lit (.bool true)], args := [d1, d2, d3] }
  | _ => none }
def disputeMarksRow : OpenClaim := { program := "ytgioiejbphljoaagreatdoor", sum := "3f295eb50a0372ee0380412d642b8bc059e05def185f054b007047246e5ef16f", func := "goodname/goodnamelaw05.DisputeMarks", spec := "disputeMarks", unfollowed := true, recurses := true, named := ["goodname/dispute.steps", "goodname/dispute.outcomes", "goodname/account.most"], plainKeys := false, apart := false, laid := [("goodname/account.most", laid_goodname_account_most), ("goodname/dispute.steps", laid_goodname_dispute_steps), ("goodname/dispute.outcomes", laid_goodname_dispute_outcomes)] }
def DisputeMarksSaid : Prop := disputeMarksRow.holds Tryz.pinned (OpenSpec.ofChange disputeMarksSpec)

/-- ITS FALSE NEIGHBOUR: 'it returns false'. Refute it at one input. -/
def disputeMarksWrong : ChangeSpec := { name := "disputeMarks", fn := fun _ => fun
  | [d1, d2, d3] => { results := [.lit (.bool false)], args := [d1, d2, d3] }
  | _ => none }
def DisputeMarksWrongFalsely : Prop := disputeMarksRow.holds Tryz.pinned (OpenSpec.ofChange disputeMarksWrong)

/-- 'goodnamelaw05.DisputeExamples': WHATEVER THE INPUT: true; the input reads as it did. -/
def disputeExamplesSpec : ChangeSpec := { name := "disputeExamples", fn := fun _ => fun
  | [] => { results := [.lit (.bool true)], args := [] }
  | _ => none }
def disputeExamplesRow : OpenClaim := { program := "ytgioiejbphljoaagreatdoor", sum := "3f295eb50a0372ee0380412d642b8bc059e05def185f054b007047246e5ef16f", func := "goodname/goodnamelaw05.DisputeExamples", spec := "disputeExamples", unfollowed := true, recurses := true, named := ["goodname/dispute.steps", "goodname/dispute.outcomes", "goodname/account.most"], plainKeys := false, apart := false, laid := [("goodname/account.most", laid_goodname_account_most), ("goodname/dispute.steps", laid_goodname_dispute_steps), ("goodname/dispute.outcomes", laid_goodname_dispute_outcomes)] }
def DisputeExamplesSaid : Prop := disputeExamplesRow.holds Tryz.pinned (OpenSpec.ofChange disputeExamplesSpec)

/-- ITS FALSE NEIGHBOUR: 'it returns false'. Refute it at one input. -/
def disputeExamplesWrong : ChangeSpec := { name := "disputeExamples", fn := fun _ => fun
  | [] => { results := [.lit (.bool false)], args := [] }
  | _ => none }
def DisputeExamplesWrongFalsely : Prop := disputeExamplesRow.holds Tryz.pinned (OpenSpec.ofChange disputeExamplesWrong)

/-- 'goodnamelaw05.DisputeFates': WHATEVER THE INPUT: true; the input reads as it did. -/
def disputeFatesSpec : ChangeSpec := { name := "disputeFates", fn := fun _ => fun
  | [d1, d2, d3] => { results := [.lit (.bool true)], args := [d1, d2, d3] }
  | _ => none }
def disputeFatesRow : OpenClaim := { program := "ytgioiejbphljoaagreatdoor", sum := "3f295eb50a0372ee0380412d642b8bc059e05def185f054b007047246e5ef16f", func := "goodname/goodnamelaw05.DisputeFates", spec := "disputeFates", unfollowed := true, recurses := true, named := ["goodname/dispute.steps", "goodname/dispute.outcomes", "goodname/account.most"], plainKeys := false, apart := false, laid := [("goodname/account.most", laid_goodname_account_most), ("goodname/dispute.steps", laid_goodname_dispute_steps), ("goodname/dispute.outcomes", laid_goodname_dispute_outcomes)] }
def DisputeFatesSaid : Prop := disputeFatesRow.holds Tryz.pinned (OpenSpec.ofChange disputeFatesSpec)

/-- ITS FALSE NEIGHBOUR: 'it returns false'. Refute it at one input. -/
def disputeFatesWrong : ChangeSpec := { name := "disputeFates", fn := fun _ => fun
  | [d1, d2, d3] => { results := [.lit (.bool false)], args := [d1, d2, d3] }
  | _ => none }
def DisputeFatesWrongFalsely : Prop := disputeFatesRow.holds Tryz.pinned (OpenSpec.ofChange disputeFatesWrong)

/-- 'goodnamelaw05.DisputeAnyOrder': WHATEVER THE INPUT: true; the input reads as it did. -/
def disputeAnyOrderSpec : ChangeSpec := { name := "disputeAnyOrder", fn := fun _ => fun
  | [d1, d2, d3, d4, d5, d6] => { results := [.lit (.bool true)], args := [d1, d2, d3, d4, d5, d6] }
  | _ => none }
def disputeAnyOrderRow : OpenClaim := { program := "ytgioiejbphljoaagreatdoor", sum := "3f295eb50a0372ee0380412d642b8bc059e05def185f054b007047246e5ef16f", func := "goodname/goodnamelaw05.DisputeAnyOrder", spec := "disputeAnyOrder", unfollowed := true, recurses := true, named := ["goodname/dispute.steps", "goodname/dispute.outcomes", "goodname/account.most"], plainKeys := false, apart := false, laid := [("goodname/account.most", laid_goodname_account_most), ("goodname/dispute.steps", laid_goodname_dispute_steps), ("goodname/dispute.outcomes", laid_goodname_dispute_outcomes)] }
def DisputeAnyOrderSaid : Prop := disputeAnyOrderRow.holds Tryz.pinned (OpenSpec.ofChange disputeAnyOrderSpec)

/-- ITS FALSE NEIGHBOUR: 'it returns false'. Refute it at one input. -/
def disputeAnyOrderWrong : ChangeSpec := { name := "disputeAnyOrder", fn := fun _ => fun
  | [d1, d2, d3, d4, d5, d6] => { results := [.lit (.bool false)], args := [d1, d2, d3, d4, d5, d6] }
  | _ => none }
def DisputeAnyOrderWrongFalsely : Prop := disputeAnyOrderRow.holds Tryz.pinned (OpenSpec.ofChange disputeAnyOrderWrong)

/-- 'goodnamelaw05.DisputeBefore': WHATEVER THE INPUT: true; the input reads as it did. -/
def disputeBeforeSpec : ChangeSpec := { name := "disputeBefore", fn := fun _ => fun
  | [d1, d2, d3, d4, d5] => { results := [.lit (.bool true)], args := [d1, d2, d3, d4, d5] }
  | _ => none }
def disputeBeforeRow : OpenClaim := { program := "ytgioiejbphljoaagreatdoor", sum := "3f295eb50a0372ee0380412d642b8bc059e05def185f054b007047246e5ef16f", func := "goodname/goodnamelaw05.DisputeBefore", spec := "disputeBefore", unfollowed := true, recurses := true, named := ["goodname/dispute.steps", "goodname/dispute.outcomes", "goodname/account.most"], plainKeys := false, apart := false, laid := [("goodname/account.most", laid_goodname_account_most), ("goodname/dispute.steps", laid_goodname_dispute_steps), ("goodname/dispute.outcomes", laid_goodname_dispute_outcomes)] }
def DisputeBeforeSaid : Prop := disputeBeforeRow.holds Tryz.pinned (OpenSpec.ofChange disputeBeforeSpec)

/-- ITS FALSE NEIGHBOUR: 'it returns false'. Refute it at one input. -/
def disputeBeforeWrong : ChangeSpec := { name := "disputeBefore", fn := fun _ => fun
  | [d1, d2, d3, d4, d5] => { results := [.lit (.bool false)], args := [d1, d2, d3, d4, d5] }
  | _ => none }
def DisputeBeforeWrongFalsely : Prop := disputeBeforeRow.holds Tryz.pinned (OpenSpec.ofChange disputeBeforeWrong)

/- THE SECOND FORM. 'bulk': how many values and letters a reading holds, each counted each time it is reached (what is shared counts as often as it is met; a slice's spare places count too). A statement '..UptoSaid' is the law's where the arguments, and the package variables that the reading takes, are together of bulk at most 1048576: NARROWER than '..Said'. Prove '..Said' where nothing that the law and all that it calls make is longer than what came in: it says more and counts as full. Else prove '..UptoSaid'. A law counts once. -/
mutual
def uptoBulk {H : Type} : DataW H → Nat
  | .lit (.string bytes) => bytes.length + 1
  | .lit _ => 1
  | .nil => 1
  | .ptr d => uptoBulk d + 1
  | .slice elems spare => uptoBulkAll elems + uptoBulkAll spare + 1
  | .agg parts => uptoBulkAll parts + 1
  | .iface _ d => uptoBulk d + 1
  | .map entries => uptoBulkEntries entries + 1
  | .held _ => 1
def uptoBulkAll {H : Type} : List (DataW H) → Nat
  | [] => 0
  | d :: r => uptoBulk d + uptoBulkAll r
def uptoBulkEntries {H : Type} : List (Lit × DataW H) → Nat
  | [] => 0
  | x :: r => uptoBulkEntry x + uptoBulkEntries r
def uptoBulkEntry {H : Type} : Lit × DataW H → Nat
  | (.string bytes, d) => bytes.length + uptoBulk d + 1
  | (_, d) => uptoBulk d + 1
 end
def uptoSmall : (H : Type) → List (DataW H) → Bool := fun _ ds => decide (uptoBulkAll ds ≤ 1048576)
def OpenSpec.upto (s : _root_.Go.ChangeSpec) : _root_.Go.OpenSpec := { _root_.Go.OpenSpec.ofChange s with cond := some uptoSmall }

/-- 'goodnamelaw05.DisputeFollows', WHERE WHAT IT READS IS OF BULK AT MOST 1048576: true; the input reads as it did. -/
def disputeFollowsUptoRow : OpenClaim := { program := "ytgioiejbphljoaagreatdoor", sum := "3f295eb50a0372ee0380412d642b8bc059e05def185f054b007047246e5ef16f", func := "goodname/goodnamelaw05.DisputeFollows", spec := "disputeFollows", unfollowed := true, recurses := true, named := ["goodname/dispute.steps", "goodname/dispute.outcomes", "goodname/account.most"], plainKeys := false, apart := false, laid := [("goodname/account.most", laid_goodname_account_most), ("goodname/dispute.steps", laid_goodname_dispute_steps), ("goodname/dispute.outcomes", laid_goodname_dispute_outcomes)], narrowed := true }
def DisputeFollowsUptoSaid : Prop := disputeFollowsUptoRow.holds Tryz.pinned (OpenSpec.upto disputeFollowsSpec)

/-- 'goodnamelaw05.DisputeDecided', WHERE WHAT IT READS IS OF BULK AT MOST 1048576: true; the input reads as it did. -/
def disputeDecidedUptoRow : OpenClaim := { program := "ytgioiejbphljoaagreatdoor", sum := "3f295eb50a0372ee0380412d642b8bc059e05def185f054b007047246e5ef16f", func := "goodname/goodnamelaw05.DisputeDecided", spec := "disputeDecided", unfollowed := true, recurses := true, named := ["goodname/dispute.steps", "goodname/dispute.outcomes", "goodname/account.most"], plainKeys := false, apart := false, laid := [("goodname/account.most", laid_goodname_account_most), ("goodname/dispute.steps", laid_goodname_dispute_steps), ("goodname/dispute.outcomes", laid_goodname_dispute_outcomes)], narrowed := true }
def DisputeDecidedUptoSaid : Prop := disputeDecidedUptoRow.holds Tryz.pinned (OpenSpec.upto disputeDecidedSpec)

/-- 'goodnamelaw05.DisputeLate', WHERE WHAT IT READS IS OF BULK AT MOST 1048576: true; the input reads as it did. -/
def disputeLateUptoRow : OpenClaim := { program := "ytgioiejbphljoaagreatdoor", sum := "3f295eb50a0372ee0380412d642b8bc059e05def185f054b007047246e5ef16f", func := "goodname/goodnamelaw05.DisputeLate", spec := "disputeLate", unfollowed := true, recurses := true, named := ["goodname/dispute.steps", "goodname/dispute.outcomes", "goodname/account.most"], plainKeys := false, apart := false, laid := [("goodname/account.most", laid_goodname_account_most), ("goodname/dispute.steps", laid_goodname_dispute_steps), ("goodname/dispute.outcomes", laid_goodname_dispute_outcomes)], narrowed := true }
def DisputeLateUptoSaid : Prop := disputeLateUptoRow.holds Tryz.pinned (OpenSpec.upto disputeLateSpec)

/-- 'goodnamelaw05.DisputeTold', WHERE WHAT IT READS IS OF BULK AT MOST 1048576: true; the input reads as it did. -/
def disputeToldUptoRow : OpenClaim := { program := "ytgioiejbphljoaagreatdoor", sum := "3f295eb50a0372ee0380412d642b8bc059e05def185f054b007047246e5ef16f", func := "goodname/goodnamelaw05.DisputeTold", spec := "disputeTold", unfollowed := true, recurses := true, named := ["goodname/dispute.steps", "goodname/dispute.outcomes", "goodname/account.most"], plainKeys := false, apart := false, laid := [("goodname/account.most", laid_goodname_account_most), ("goodname/dispute.steps", laid_goodname_dispute_steps), ("goodname/dispute.outcomes", laid_goodname_dispute_outcomes)], narrowed := true }
def DisputeToldUptoSaid : Prop := disputeToldUptoRow.holds Tryz.pinned (OpenSpec.upto disputeToldSpec)

/-- 'goodnamelaw05.DisputeMarks', WHERE WHAT IT READS IS OF BULK AT MOST 1048576: true; the input reads as it did. -/
def disputeMarksUptoRow : OpenClaim := { program := "ytgioiejbphljoaagreatdoor", sum := "3f295eb50a0372ee0380412d642b8bc059e05def185f054b007047246e5ef16f", func := "goodname/goodnamelaw05.DisputeMarks", spec := "disputeMarks", unfollowed := true, recurses := true, named := ["goodname/dispute.steps", "goodname/dispute.outcomes", "goodname/account.most"], plainKeys := false, apart := false, laid := [("goodname/account.most", laid_goodname_account_most), ("goodname/dispute.steps", laid_goodname_dispute_steps), ("goodname/dispute.outcomes", laid_goodname_dispute_outcomes)], narrowed := true }
def DisputeMarksUptoSaid : Prop := disputeMarksUptoRow.holds Tryz.pinned (OpenSpec.upto disputeMarksSpec)

/-- 'goodnamelaw05.DisputeExamples', WHERE WHAT IT READS IS OF BULK AT MOST 1048576: true; the input reads as it did. -/
def disputeExamplesUptoRow : OpenClaim := { program := "ytgioiejbphljoaagreatdoor", sum := "3f295eb50a0372ee0380412d642b8bc059e05def185f054b007047246e5ef16f", func := "goodname/goodnamelaw05.DisputeExamples", spec := "disputeExamples", unfollowed := true, recurses := true, named := ["goodname/dispute.steps", "goodname/dispute.outcomes", "goodname/account.most"], plainKeys := false, apart := false, laid := [("goodname/account.most", laid_goodname_account_most), ("goodname/dispute.steps", laid_goodname_dispute_steps), ("goodname/dispute.outcomes", laid_goodname_dispute_outcomes)], narrowed := true }
def DisputeExamplesUptoSaid : Prop := disputeExamplesUptoRow.holds Tryz.pinned (OpenSpec.upto disputeExamplesSpec)

/-- 'goodnamelaw05.DisputeFates', WHERE WHAT IT READS IS OF BULK AT MOST 1048576: true; the input reads as it did. -/
def disputeFatesUptoRow : OpenClaim := { program := "ytgioiejbphljoaagreatdoor", sum := "3f295eb50a0372ee0380412d642b8bc059e05def185f054b007047246e5ef16f", func := "goodname/goodnamelaw05.DisputeFates", spec := "disputeFates", unfollowed := true, recurses := true, named := ["goodname/dispute.steps", "goodname/dispute.outcomes", "goodname/account.most"], plainKeys := false, apart := false, laid := [("goodname/account.most", laid_goodname_account_most), ("goodname/dispute.steps", laid_goodname_dispute_steps), ("goodname/dispute.outcomes", laid_goodname_dispute_outcomes)], narrowed := true }
def DisputeFatesUptoSaid : Prop := disputeFatesUptoRow.holds Tryz.pinned (OpenSpec.upto disputeFatesSpec)

/-- 'goodnamelaw05.DisputeAnyOrder', WHERE WHAT IT READS IS OF BULK AT MOST 1048576: true; the input reads as it did. -/
def disputeAnyOrderUptoRow : OpenClaim := { program := "ytgioiejbphljoaagreatdoor", sum := "3f295eb50a0372ee0380412d642b8bc059e05def185f054b007047246e5ef16f", func := "goodname/goodnamelaw05.DisputeAnyOrder", spec := "disputeAnyOrder", unfollowed := true, recurses := true, named := ["goodname/dispute.steps", "goodname/dispute.outcomes", "goodname/account.most"], plainKeys := false, apart := false, laid := [("goodname/account.most", laid_goodname_account_most), ("goodname/dispute.steps", laid_goodname_dispute_steps), ("goodname/dispute.outcomes", laid_goodname_dispute_outcomes)], narrowed := true }
def DisputeAnyOrderUptoSaid : Prop := disputeAnyOrderUptoRow.holds Tryz.pinned (OpenSpec.upto disputeAnyOrderSpec)

/-- 'goodnamelaw05.DisputeBefore', WHERE WHAT IT READS IS OF BULK AT MOST 1048576: true; the input reads as it did. -/
def disputeBeforeUptoRow : OpenClaim := { program := "ytgioiejbphljoaagreatdoor", sum := "3f295eb50a0372ee0380412d642b8bc059e05def185f054b007047246e5ef16f", func := "goodname/goodnamelaw05.DisputeBefore", spec := "disputeBefore", unfollowed := true, recurses := true, named := ["goodname/dispute.steps", "goodname/dispute.outcomes", "goodname/account.most"], plainKeys := false, apart := false, laid := [("goodname/account.most", laid_goodname_account_most), ("goodname/dispute.steps", laid_goodname_dispute_steps), ("goodname/dispute.outcomes", laid_goodname_dispute_outcomes)], narrowed := true }
def DisputeBeforeUptoSaid : Prop := disputeBeforeUptoRow.holds Tryz.pinned (OpenSpec.upto disputeBeforeSpec)

end Rows
end Go.Proofs.YtgioiejbphljoaaGreatDoor
