/-
  NARROWER THAN 'FOR EVERY INPUT', by the rows' own cells (each row's printed sentence says how): AccountStands: laid · AccountStates: laid · AccountExamples: laid · AccountAnyOrder: laid · AccountKnown: laid · AccountSources: laid · AccountGone: laid · AccountFixed: laid · AccountPaid: laid · AccountClashes: laid.
  DERIVED. THE GIVEN ROWS OF THIS SEAT. 10 by the template 'for every input the law returns true; each argument reads behind the call as it read before'; 0 by the template 'total and deterministic' (their statements: YtepjkmoipjeghaaDoorTotals.lean).
  GIVEN WITH THE SEED: the statements are not yours to turn. If you find one false, say at which input.
  Laid BY PROGRAM, IN A SANDBOX (cutbox-rows.mjs): the forced cells as the released guide's own fill.sh prints them over the translation 4a4a0a26cfe03433… (all of the seat's roots in one cut). By AI agents, Wed Nov 11 2026. No macro, syntax, notation, axiom, sorry.
-/
import Derived.Test.YtepjkmoipjeghaaDoorChecked
import GoSem.Claim
import GoSem.ClaimJoined
import GoSem.ClaimMapViews
import Derived.JoinedTies
import Derived.KernelRfl
namespace Go.Proofs.YtepjkmoipjeghaaDoor
/- THE CELL 'sum', in the pinned program and in every row, IS THE sha256 OF THE DUMP (.gsa) THAT YtepjkmoipjeghaaDoorProg.lean LOADS. Nothing in Lean hashes anything: it is a label: what it is worth is what the hold of that sum in a sandbox is worth. -/
noncomputable def Tryd.pinned : Pinned := { name := "ytepjkmoipjeghaadoor", sum := "4a4a0a26cfe034335bfd8d9c366e653d8c3344ea57e5592fc747892841ba800f", checked := Tryd.checked }
namespace Rows
def none {H : Type} : Left H := { results := [], args := [] }

/- WHAT THE LISTED PACKAGE-LEVEL VARIABLES READ AS WHEN THE CALL BEGINS. Each datum BY PROGRAM (the guide's laid-datum.mjs) off the statement by which the dump's own 'gosem.cut.vars' lays the variable. In a bare row this is a premise. The card (YtepjkmoipjeghaaDoorCards.lean) ties it to the program's text. -/
def laid_goodname_account_most {H : Type} : DataW H := .agg [.lit (.int .i64 0), .lit (.int .i64 0), .lit (.int .i64 1000000000000), .lit (.int .i64 1000000000000), .lit (.int .i64 1000000000000), .lit (.int .i64 10000), .lit (.int .i64 1000000000000), .lit (.int .i64 0), .lit (.int .i64 1000000000000), .lit (.int .i64 0)]

/-- 'goodnamelaw03.AccountStands': WHATEVER THE INPUT: true; the input reads as it did. -/
def accountStandsSpec : ChangeSpec := { name := "accountStands", fn := fun _ => fun
  | [d1, d2, d3] => { results := [.lit (.bool true)], args := [d1, d2, d3] }
  | _ => none }
def accountStandsRow : OpenClaim := { program := "ytepjkmoipjeghaadoor", sum := "4a4a0a26cfe034335bfd8d9c366e653d8c3344ea57e5592fc747892841ba800f", func := "goodname/goodnamelaw03.AccountStands", spec := "accountStands", unfollowed := true, recurses := true, named := ["goodname/account.most"], plainKeys := false, apart := false, laid := [("goodname/account.most", laid_goodname_account_most)] }
def AccountStandsSaid : Prop := accountStandsRow.holds Tryd.pinned (OpenSpec.ofChange accountStandsSpec)

/-- ITS FALSE NEIGHBOUR: 'it returns false'. Refute it at one input. -/
def accountStandsWrong : ChangeSpec := { name := "accountStands", fn := fun _ => fun
  | [d1, d2, d3] => { results := [.lit (.bool false)], args := [d1, d2, d3] }
  | _ => none }
def AccountStandsWrongFalsely : Prop := accountStandsRow.holds Tryd.pinned (OpenSpec.ofChange accountStandsWrong)

/-- 'goodnamelaw03.AccountStates': WHATEVER THE INPUT: true; the input reads as it did. -/
def accountStatesSpec : ChangeSpec := { name := "accountStates", fn := fun _ => fun
  | [d1, d2, d3, d4] => { results := [.lit (.bool true)], args := [d1, d2, d3, d4] }
  | _ => none }
def accountStatesRow : OpenClaim := { program := "ytepjkmoipjeghaadoor", sum := "4a4a0a26cfe034335bfd8d9c366e653d8c3344ea57e5592fc747892841ba800f", func := "goodname/goodnamelaw03.AccountStates", spec := "accountStates", unfollowed := true, recurses := true, named := ["goodname/account.most"], plainKeys := false, apart := false, laid := [("goodname/account.most", laid_goodname_account_most)] }
def AccountStatesSaid : Prop := accountStatesRow.holds Tryd.pinned (OpenSpec.ofChange accountStatesSpec)

/-- ITS FALSE NEIGHBOUR: 'it returns false'. Refute it at one input. -/
def accountStatesWrong : ChangeSpec := { name := "accountStates", fn := fun _ => fun
  | [d1, d2, d3, d4] => { results := [.lit (.bool false)], args := [d1, d2, d3, d4] }
  | _ => none }
def AccountStatesWrongFalsely : Prop := accountStatesRow.holds Tryd.pinned (OpenSpec.ofChange accountStatesWrong)

/-- 'goodnamelaw03.AccountExamples': WHATEVER THE INPUT: true; the input reads as it did. -/
def accountExamplesSpec : ChangeSpec := { name := "accountExamples", fn := fun _ => fun
  | [] => { results := [.lit (.bool true)], args := [] }
  | _ => none }
def accountExamplesRow : OpenClaim := { program := "ytepjkmoipjeghaadoor", sum := "4a4a0a26cfe034335bfd8d9c366e653d8c3344ea57e5592fc747892841ba800f", func := "goodname/goodnamelaw03.AccountExamples", spec := "accountExamples", unfollowed := true, recurses := true, named := ["goodname/account.most"], plainKeys := false, apart := false, laid := [("goodname/account.most", laid_goodname_account_most)] }
def AccountExamplesSaid : Prop := accountExamplesRow.holds Tryd.pinned (OpenSpec.ofChange accountExamplesSpec)

/-- ITS FALSE NEIGHBOUR: 'it returns false'. Refute it at one input. -/
def accountExamplesWrong : ChangeSpec := { name := "accountExamples", fn := fun _ => fun
  | [] => { results := [.lit (.bool false)], args := [] }
  | _ => none }
def AccountExamplesWrongFalsely : Prop := accountExamplesRow.holds Tryd.pinned (OpenSpec.ofChange accountExamplesWrong)

/-- 'goodnamelaw03.AccountAnyOrder': WHATEVER THE INPUT: true; the input reads as it did. -/
def accountAnyOrderSpec : ChangeSpec := { name := "accountAnyOrder", fn := fun _ => fun
  | [d1, d2, d3, d4, d5, d6] => { results := [.lit (.bool true)], args := [d1, d2, d3, d4, d5, d6] }
  | _ => none }
def accountAnyOrderRow : OpenClaim := { program := "ytepjkmoipjeghaadoor", sum := "4a4a0a26cfe034335bfd8d9c366e653d8c3344ea57e5592fc747892841ba800f", func := "goodname/goodnamelaw03.AccountAnyOrder", spec := "accountAnyOrder", unfollowed := true, recurses := true, named := ["goodname/account.most"], plainKeys := false, apart := false, laid := [("goodname/account.most", laid_goodname_account_most)] }
def AccountAnyOrderSaid : Prop := accountAnyOrderRow.holds Tryd.pinned (OpenSpec.ofChange accountAnyOrderSpec)

/-- ITS FALSE NEIGHBOUR: 'it returns false'. Refute it at one input. -/
def accountAnyOrderWrong : ChangeSpec := { name := "accountAnyOrder", fn := fun _ => fun
  | [d1, d2, d3, d4, d5, d6] => { results := [.lit (.bool false)], args := [d1, d2, d3, d4, d5, d6] }
  | _ => none }
def AccountAnyOrderWrongFalsely : Prop := accountAnyOrderRow.holds Tryd.pinned (OpenSpec.ofChange accountAnyOrderWrong)

/-- 'goodnamelaw03.AccountKnown': WHATEVER THE INPUT: true; the input reads as it did. -/
def accountKnownSpec : ChangeSpec := { name := "accountKnown", fn := fun _ => fun
  | [d1, d2, d3, d4, d5] => { results := [.lit (.bool true)], args := [d1, d2, d3, d4, d5] }
  | _ => none }
def accountKnownRow : OpenClaim := { program := "ytepjkmoipjeghaadoor", sum := "4a4a0a26cfe034335bfd8d9c366e653d8c3344ea57e5592fc747892841ba800f", func := "goodname/goodnamelaw03.AccountKnown", spec := "accountKnown", unfollowed := true, recurses := true, named := ["goodname/account.most"], plainKeys := false, apart := false, laid := [("goodname/account.most", laid_goodname_account_most)] }
def AccountKnownSaid : Prop := accountKnownRow.holds Tryd.pinned (OpenSpec.ofChange accountKnownSpec)

/-- ITS FALSE NEIGHBOUR: 'it returns false'. Refute it at one input. -/
def accountKnownWrong : ChangeSpec := { name := "accountKnown", fn := fun _ => fun
  | [d1, d2, d3, d4, d5] => { results := [.lit (.bool false)], args := [d1, d2, d3, d4, d5] }
  | _ => none }
def AccountKnownWrongFalsely : Prop := accountKnownRow.holds Tryd.pinned (OpenSpec.ofChange accountKnownWrong)

/-- 'goodnamelaw03.AccountSources': WHATEVER THE INPUT: true; the input reads as it did. -/
def accountSourcesSpec : ChangeSpec := { name := "accountSources", fn := fun _ => fun
  | [d1, d2, d3, d4, d5, d6] => { results := [.lit (.bool true)], args := [d1, d2, d3, d4, d5, d6] }
  | _ => none }
def accountSourcesRow : OpenClaim := { program := "ytepjkmoipjeghaadoor", sum := "4a4a0a26cfe034335bfd8d9c366e653d8c3344ea57e5592fc747892841ba800f", func := "goodname/goodnamelaw03.AccountSources", spec := "accountSources", unfollowed := true, recurses := true, named := ["goodname/account.most"], plainKeys := false, apart := false, laid := [("goodname/account.most", laid_goodname_account_most)] }
def AccountSourcesSaid : Prop := accountSourcesRow.holds Tryd.pinned (OpenSpec.ofChange accountSourcesSpec)

/-- ITS FALSE NEIGHBOUR: 'it returns false'. Refute it at one input. -/
def accountSourcesWrong : ChangeSpec := { name := "accountSources", fn := fun _ => fun
  | [d1, d2, d3, d4, d5, d6] => { results := [.lit (.bool false)], args := [d1, d2, d3, d4, d5, d6] }
  | _ => none }
def AccountSourcesWrongFalsely : Prop := accountSourcesRow.holds Tryd.pinned (OpenSpec.ofChange accountSourcesWrong)

/-- 'goodnamelaw03.AccountGone': WHATEVER THE INPUT: true; the input reads as it did. -/
def accountGoneSpec : ChangeSpec := { name := "accountGone", fn := fun _ => fun
  | [d1, d2, d3, d4, d5] => { results := [.lit (.bool true)], args := [d1, d2, d3, d4, d5] }
  | _ => none }
def accountGoneRow : OpenClaim := { program := "ytepjkmoipjeghaadoor", sum := "4a4a0a26cfe034335bfd8d9c366e653d8c3344ea57e5592fc747892841ba800f", func := "goodname/goodnamelaw03.AccountGone", spec := "accountGone", unfollowed := true, recurses := true, named := ["goodname/account.most"], plainKeys := false, apart := false, laid := [("goodname/account.most", laid_goodname_account_most)] }
def AccountGoneSaid : Prop := accountGoneRow.holds Tryd.pinned (OpenSpec.ofChange accountGoneSpec)

/-- ITS FALSE NEIGHBOUR: 'it returns false'. Refute it at one input. -/
def accountGoneWrong : ChangeSpec := { name := "accountGone", fn := fun _ => fun
  | [d1, d2, d3, d4, d5] => { results := [.lit (.bool false)], args := [d1, d2, d3, d4, d5] }
  | _ => none }
def AccountGoneWrongFalsely : Prop := accountGoneRow.holds Tryd.pinned (OpenSpec.ofChange accountGoneWrong)

/-- 'goodnamelaw03.AccountFixed': WHATEVER THE INPUT: true; the input reads as it did. -/
def accountFixedSpec : ChangeSpec := { name := "accountFixed", fn := fun _ => fun
  | [d1, d2, d3, d4, d5] => { results := [.lit (.bool true)], args := [d1, d2, d3, d4, d5] }
  | _ => none }
def accountFixedRow : OpenClaim := { program := "ytepjkmoipjeghaadoor", sum := "4a4a0a26cfe034335bfd8d9c366e653d8c3344ea57e5592fc747892841ba800f", func := "goodname/goodnamelaw03.AccountFixed", spec := "accountFixed", unfollowed := true, recurses := true, named := ["goodname/account.most"], plainKeys := false, apart := false, laid := [("goodname/account.most", laid_goodname_account_most)] }
def AccountFixedSaid : Prop := accountFixedRow.holds Tryd.pinned (OpenSpec.ofChange accountFixedSpec)

/-- ITS FALSE NEIGHBOUR: 'it returns false'. Refute it at one input. -/
def accountFixedWrong : ChangeSpec := { name := "accountFixed", fn := fun _ => fun
  | [d1, d2, d3, d4, d5] => { results := [.lit (.bool false)], args := [d1, d2, d3, d4, d5] }
  | _ => none }
def AccountFixedWrongFalsely : Prop := accountFixedRow.holds Tryd.pinned (OpenSpec.ofChange accountFixedWrong)

/-- 'goodnamelaw03.AccountPaid': WHATEVER THE INPUT: true; the input reads as it did. -/
def accountPaidSpec : ChangeSpec := { name := "accountPaid", fn := fun _ => fun
  | [d1, d2, d3, d4, d5, d6] => { results := [.lit (.bool true)], args := [d1, d2, d3, d4, d5, d6] }
  | _ => none }
def accountPaidRow : OpenClaim := { program := "ytepjkmoipjeghaadoor", sum := "4a4a0a26cfe034335bfd8d9c366e653d8c3344ea57e5592fc747892841ba800f", func := "goodname/goodnamelaw03.AccountPaid", spec := "accountPaid", unfollowed := true, recurses := true, named := ["goodname/account.most"], plainKeys := false, apart := false, laid := [("goodname/account.most", laid_goodname_account_most)] }
def AccountPaidSaid : Prop := accountPaidRow.holds Tryd.pinned (OpenSpec.ofChange accountPaidSpec)

/-- ITS FALSE NEIGHBOUR: 'it returns false'. Refute it at one input. -/
def accountPaidWrong : ChangeSpec := { name := "accountPaid", fn := fun _ => fun
  | [d1, d2, d3, d4, d5, d6] => { results := [.lit (.bool false)], args := [d1, d2, d3, d4, d5, d6] }
  | _ => none }
def AccountPaidWrongFalsely : Prop := accountPaidRow.holds Tryd.pinned (OpenSpec.ofChange accountPaidWrong)

/-- 'goodnamelaw03.AccountClashes': WHATEVER THE INPUT: true; the input reads as it did. -/
def accountClashesSpec : ChangeSpec := { name := "accountClashes", fn := fun _ => fun
  | [d1, d2, d3, d4] => { results := [.lit (.bool true)], args := [d1, d2, d3, d4] }
  | _ => none }
def accountClashesRow : OpenClaim := { program := "ytepjkmoipjeghaadoor", sum := "4a4a0a26cfe034335bfd8d9c366e653d8c3344ea57e5592fc747892841ba800f", func := "goodname/goodnamelaw03.AccountClashes", spec := "accountClashes", unfollowed := true, recurses := true, named := ["goodname/account.most"], plainKeys := false, apart := false, laid := [("goodname/account.most", laid_goodname_account_most)] }
def AccountClashesSaid : Prop := accountClashesRow.holds Tryd.pinned (OpenSpec.ofChange accountClashesSpec)

/-- ITS FALSE NEIGHBOUR: 'it returns false'. Refute it at one input. -/
def accountClashesWrong : ChangeSpec := { name := "accountClashes", fn := fun _ => fun
  | [d1, d2, d3, d4] => { results := [.lit (.bool false)], args := [d1, d2, d3, d4] }
  | _ => none }
def AccountClashesWrongFalsely : Prop := accountClashesRow.holds Tryd.pinned (OpenSpec.ofChange accountClashesWrong)

/- THE SECOND FORM. 'bulk': how many values and letters a reading holds, each counted each time it is reached (what is shared counts as often as it is met; a slice's spare places count too). A statement '..UptoSaid' is the law's where the arguments, and the package variables that the reading takes, are together of bulk at most 1048576: NARROWER than '..Said'. Prove '..Said' where nothing that the law and all that it calls make is longer than what came in: it says more and counts as full. Else prove '..UptoSaid'. A law counts once. -/
mutual
def uptoBulk {H : Type} : DataW H → Nat
  | .lit (.string bytes) => bytes.length + 1
  | .lit _ => 1
  | .nil => 1
  | .ptr d => uptoBulk d + 1
  | .slice elems spare => uptoBulkAll elems + uptoBulkAll spare + 1
  | .agg parts => uptoBulkAll parts + 1
  | .iface _ d => uptoBulk d + 1
  | .map entries => uptoBulkEntries entries + 1
  | .held _ => 1
def uptoBulkAll {H : Type} : List (DataW H) → Nat
  | [] => 0
  | d :: r => uptoBulk d + uptoBulkAll r
def uptoBulkEntries {H : Type} : List (Lit × DataW H) → Nat
  | [] => 0
  | x :: r => uptoBulkEntry x + uptoBulkEntries r
def uptoBulkEntry {H : Type} : Lit × DataW H → Nat
  | (.string bytes, d) => bytes.length + uptoBulk d + 1
  | (_, d) => uptoBulk d + 1
 end
def uptoSmall : (H : Type) → List (DataW H) → Bool := fun _ ds => decide (uptoBulkAll ds ≤ 1048576)
def OpenSpec.upto (s : _root_.Go.ChangeSpec) : _root_.Go.OpenSpec := { _root_.Go.OpenSpec.ofChange s with cond := some uptoSmall }

/-- 'goodnamelaw03.AccountStands', WHERE WHAT IT READS IS OF BULK AT MOST 1048576: true; the input reads as it did. -/
def accountStandsUptoRow : OpenClaim := { program := "ytepjkmoipjeghaadoor", sum := "4a4a0a26cfe034335bfd8d9c366e653d8c3344ea57e5592fc747892841ba800f", func := "goodname/goodnamelaw03.AccountStands", spec := "accountStands", unfollowed := true, recurses := true, named := ["goodname/account.most"], plainKeys := false, apart := false, laid := [("goodname/account.most", laid_goodname_account_most)], narrowed := true }
def AccountStandsUptoSaid : Prop := accountStandsUptoRow.holds Tryd.pinned (OpenSpec.upto accountStandsSpec)

/-- 'goodnamelaw03.AccountStates', WHERE WHAT IT READS IS OF BULK AT MOST 1048576: true; the input reads as it did. -/
def accountStatesUptoRow : OpenClaim := { program := "ytepjkmoipjeghaadoor", sum := "4a4a0a26cfe034335bfd8d9c366e653d8c3344ea57e5592fc747892841ba800f", func := "goodname/goodnamelaw03.AccountStates", spec := "accountStates", unfollowed := true, recurses := true, named := ["goodname/account.most"], plainKeys := false, apart := false, laid := [("goodname/account.most", laid_goodname_account_most)], narrowed := true }
def AccountStatesUptoSaid : Prop := accountStatesUptoRow.holds Tryd.pinned (OpenSpec.upto accountStatesSpec)

/-- 'goodnamelaw03.AccountExamples', WHERE WHAT IT READS IS OF BULK AT MOST 1048576: true; the input reads as it did. -/
def accountExamplesUptoRow : OpenClaim := { program := "ytepjkmoipjeghaadoor", sum := "4a4a0a26cfe034335bfd8d9c366e653d8c3344ea57e5592fc747892841ba800f", func := "goodname/goodnamelaw03.AccountExamples", spec := "accountExamples", unfollowed := true, recurses := true, named := ["goodname/account.most"], plainKeys := false, apart := false, laid := [("goodname/account.most", laid_goodname_account_most)], narrowed := true }
def AccountExamplesUptoSaid : Prop := accountExamplesUptoRow.holds Tryd.pinned (OpenSpec.upto accountExamplesSpec)

/-- 'goodnamelaw03.AccountAnyOrder', WHERE WHAT IT READS IS OF BULK AT MOST 1048576: true; the input reads as it did. -/
def accountAnyOrderUptoRow : OpenClaim := { program := "ytepjkmoipjeghaadoor", sum := "4a4a0a26cfe034335bfd8d9c366e653d8c3344ea57e5592fc747892841ba800f", func := "goodname/goodnamelaw03.AccountAnyOrder", spec := "accountAnyOrder", unfollowed := true, recurses := true, named := ["goodname/account.most"], plainKeys := false, apart := false, laid := [("goodname/account.most", laid_goodname_account_most)], narrowed := true }
def AccountAnyOrderUptoSaid : Prop := accountAnyOrderUptoRow.holds Tryd.pinned (OpenSpec.upto accountAnyOrderSpec)

/-- 'goodnamelaw03.AccountKnown', WHERE WHAT IT READS IS OF BULK AT MOST 1048576: true; the input reads as it did. -/
def accountKnownUptoRow : OpenClaim := { program := "ytepjkmoipjeghaadoor", sum := "4a4a0a26cfe034335bfd8d9c366e653d8c3344ea57e5592fc747892841ba800f", func := "goodname/goodnamelaw03.AccountKnown", spec := "accountKnown", unfollowed := true, recurses := true, named := ["goodname/account.most"], plainKeys := false, apart := false, laid := [("goodname/account.most", laid_goodname_account_most)], narrowed := true }
def AccountKnownUptoSaid : Prop := accountKnownUptoRow.holds Tryd.pinned (OpenSpec.upto accountKnownSpec)

/-- 'goodnamelaw03.AccountSources', WHERE WHAT IT READS IS OF BULK AT MOST 1048576: true; the input reads as it did. -/
def accountSourcesUptoRow : OpenClaim := { program := "ytepjkmoipjeghaadoor", sum := "4a4a0a26cfe034335bfd8d9c366e653d8c3344ea57e5592fc747892841ba800f", func := "goodname/goodnamelaw03.AccountSources", spec := "accountSources", unfollowed := true, recurses := true, named := ["goodname/account.most"], plainKeys := false, apart := false, laid := [("goodname/account.most", laid_goodname_account_most)], narrowed := true }
def AccountSourcesUptoSaid : Prop := accountSourcesUptoRow.holds Tryd.pinned (OpenSpec.upto accountSourcesSpec)

/-- 'goodnamelaw03.AccountGone', WHERE WHAT IT READS IS OF BULK AT MOST 1048576: true; the input reads as it did. -/
def accountGoneUptoRow : OpenClaim := { program := "ytepjkmoipjeghaadoor", sum := "4a4a0a26cfe034335bfd8d9c366e653d8c3344ea57e5592fc747892841ba800f", func := "goodname/goodnamelaw03.AccountGone", spec := "accountGone", unfollowed := true, recurses := true, named := ["goodname/account.most"], plainKeys := false, apart := false, laid := [("goodname/account.most", laid_goodname_account_most)], narrowed := true }
def AccountGoneUptoSaid : Prop := accountGoneUptoRow.holds Tryd.pinned (OpenSpec.upto accountGoneSpec)

/-- 'goodnamelaw03.AccountFixed', WHERE WHAT IT READS IS OF BULK AT MOST 1048576: true; the input reads as it did. -/
def accountFixedUptoRow : OpenClaim := { program := "ytepjkmoipjeghaadoor", sum := "4a4a0a26cfe034335bfd8d9c366e653d8c3344ea57e5592fc747892841ba800f", func := "goodname/goodnamelaw03.AccountFixed", spec := "accountFixed", unfollowed := true, recurses := true, named := ["goodname/account.most"], plainKeys := false, apart := false, laid := [("goodname/account.most", laid_goodname_account_most)], narrowed := true }
def AccountFixedUptoSaid : Prop := accountFixedUptoRow.holds Tryd.pinned (OpenSpec.upto accountFixedSpec)

/-- 'goodnamelaw03.AccountPaid', WHERE WHAT IT READS IS OF BULK AT MOST 1048576: true; the input reads as it did. -/
def accountPaidUptoRow : OpenClaim := { program := "ytepjkmoipjeghaadoor", sum := "4a4a0a26cfe034335bfd8d9c366e653d8c3344ea57e5592fc747892841ba800f", func := "goodname/goodnamelaw03.AccountPaid", spec := "accountPaid", unfollowed := true, recurses := true, named := ["goodname/account.most"], plainKeys := false, apart := false, laid := [("goodname/account.most", laid_goodname_account_most)], narrowed := true }
def AccountPaidUptoSaid : Prop := accountPaidUptoRow.holds Tryd.pinned (OpenSpec.upto accountPaidSpec)

/-- 'goodnamelaw03.AccountClashes', WHERE WHAT IT READS IS OF BULK AT MOST 1048576: true; the input reads as it did. -/
def accountClashesUptoRow : OpenClaim := { program := "ytepjkmoipjeghaadoor", sum := "4a4a0a26cfe034335bfd8d9c366e653d8c3344ea57e5592fc747892841ba800f", func := "goodname/goodnamelaw03.AccountClashes", spec := "accountClashes", unfollowed := true, recurses := true, named := ["goodname/account.most"], plainKeys := false, apart := false, laid := [("goodname/account.most", laid_goodname_account_most)], narrowed := true }
def AccountClashesUptoSaid : Prop := accountClashesUptoRow.holds Tryd.pinned (OpenSpec.upto accountClashesSpec)

end Rows
end Go.Proofs.YtepjkmoipjeghaaDoor
