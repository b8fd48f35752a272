/-
  DERIVED. GIVEN WITH THE SEED: THE CARDS: each row of YtgioiejbphljoaaGreatDoorRows.lean that lists a variable, with what it lists TIED to the program's text (the seventh form; the later family's looks); each row that meets fmt, with fmt's text TOLD by the authors' own Lean function (tested against real Go, not proved from fmt's source: count such statements apart). THE CARD IS WHAT COUNTS. Prove the row's statement (the work); the ties are given (YtgioiejbphljoaaGreatDoorTie.lean); close each card by the builder's one call (the guide's Derived/Test/ToyasCard.lean, 'card_holds'). Laid BY PROGRAM, IN A SANDBOX (cutbox-door.mjs). By AI agents, Wed Nov 11 2026. No macro, syntax, notation, axiom, sorry.
-/
import Derived.Test.YtgioiejbphljoaaGreatDoorRows
import GoSem.ClaimSeven
namespace Go.Proofs.YtgioiejbphljoaaGreatDoor
namespace Rows

/-- THE TIED CARD OF 'goodnamelaw05.DisputeFollows'. -/
def disputeFollowsCard : Claim7 := { stood := { row := disputeFollowsRow, standIns := [], harness := (true, "b09e1055613b3bc78040c45907358a96209802f4aed965dab76f1e08e4888df2"), looks := false }, kinds := [], alts := [], laidByText := true, laidKinds := [.data, .funcs, .mapped], laidTests := true, laidLooks := .later }
def DisputeFollowsCardSaid : Prop := Claim7.holds Tryz.pinned (.plain (OpenSpec.ofChange disputeFollowsSpec)) disputeFollowsCard

/-- THE TIED CARD OF 'goodnamelaw05.DisputeDecided'. -/
def disputeDecidedCard : Claim7 := { stood := { row := disputeDecidedRow, standIns := [], harness := (true, "b09e1055613b3bc78040c45907358a96209802f4aed965dab76f1e08e4888df2"), looks := false }, kinds := [], alts := [], laidByText := true, laidKinds := [.data, .funcs, .mapped], laidTests := true, laidLooks := .later }
def DisputeDecidedCardSaid : Prop := Claim7.holds Tryz.pinned (.plain (OpenSpec.ofChange disputeDecidedSpec)) disputeDecidedCard

/-- THE TIED CARD OF 'goodnamelaw05.DisputeLate'. -/
def disputeLateCard : Claim7 := { stood := { row := disputeLateRow, standIns := [], harness := (true, "b09e1055613b3bc78040c45907358a96209802f4aed965dab76f1e08e4888df2"), looks := false }, kinds := [], alts := [], laidByText := true, laidKinds := [.data, .funcs, .mapped], laidTests := true, laidLooks := .later }
def DisputeLateCardSaid : Prop := Claim7.holds Tryz.pinned (.plain (OpenSpec.ofChange disputeLateSpec)) disputeLateCard

/-- THE TIED CARD OF 'goodnamelaw05.DisputeTold'. -/
def disputeToldCard : Claim7 := { stood := { row := disputeToldRow, standIns := [], harness := (true, "b09e1055613b3bc78040c45907358a96209802f4aed965dab76f1e08e4888df2"), looks := false }, kinds := [], alts := [], laidByText := true, laidKinds := [.data, .funcs, .mapped], laidTests := true, laidLooks := .later }
def DisputeToldCardSaid : Prop := Claim7.holds Tryz.pinned (.plain (OpenSpec.ofChange disputeToldSpec)) disputeToldCard

/-- THE TIED CARD OF 'goodnamelaw05.DisputeMarks'. -/
def disputeMarksCard : Claim7 := { stood := { row := disputeMarksRow, standIns := [], harness := (true, "b09e1055613b3bc78040c45907358a96209802f4aed965dab76f1e08e4888df2"), looks := false }, kinds := [], alts := [], laidByText := true, laidKinds := [.data, .funcs, .mapped], laidTests := true, laidLooks := .later }
def DisputeMarksCardSaid : Prop := Claim7.holds Tryz.pinned (.plain (OpenSpec.ofChange disputeMarksSpec)) disputeMarksCard

/-- THE TIED CARD OF 'goodnamelaw05.DisputeExamples'. -/
def disputeExamplesCard : Claim7 := { stood := { row := disputeExamplesRow, standIns := [], harness := (true, "b09e1055613b3bc78040c45907358a96209802f4aed965dab76f1e08e4888df2"), looks := false }, kinds := [], alts := [], laidByText := true, laidKinds := [.data, .funcs, .mapped], laidTests := true, laidLooks := .later }
def DisputeExamplesCardSaid : Prop := Claim7.holds Tryz.pinned (.plain (OpenSpec.ofChange disputeExamplesSpec)) disputeExamplesCard

/-- THE TIED CARD OF 'goodnamelaw05.DisputeFates'. -/
def disputeFatesCard : Claim7 := { stood := { row := disputeFatesRow, standIns := [], harness := (true, "b09e1055613b3bc78040c45907358a96209802f4aed965dab76f1e08e4888df2"), looks := false }, kinds := [], alts := [], laidByText := true, laidKinds := [.data, .funcs, .mapped], laidTests := true, laidLooks := .later }
def DisputeFatesCardSaid : Prop := Claim7.holds Tryz.pinned (.plain (OpenSpec.ofChange disputeFatesSpec)) disputeFatesCard

/-- THE TIED CARD OF 'goodnamelaw05.DisputeAnyOrder'. -/
def disputeAnyOrderCard : Claim7 := { stood := { row := disputeAnyOrderRow, standIns := [], harness := (true, "b09e1055613b3bc78040c45907358a96209802f4aed965dab76f1e08e4888df2"), looks := false }, kinds := [], alts := [], laidByText := true, laidKinds := [.data, .funcs, .mapped], laidTests := true, laidLooks := .later }
def DisputeAnyOrderCardSaid : Prop := Claim7.holds Tryz.pinned (.plain (OpenSpec.ofChange disputeAnyOrderSpec)) disputeAnyOrderCard

/-- THE TIED CARD OF 'goodnamelaw05.DisputeBefore'. -/
def disputeBeforeCard : Claim7 := { stood := { row := disputeBeforeRow, standIns := [], harness := (true, "b09e1055613b3bc78040c45907358a96209802f4aed965dab76f1e08e4888df2"), looks := false }, kinds := [], alts := [], laidByText := true, laidKinds := [.data, .funcs, .mapped], laidTests := true, laidLooks := .later }
def DisputeBeforeCardSaid : Prop := Claim7.holds Tryz.pinned (.plain (OpenSpec.ofChange disputeBeforeSpec)) disputeBeforeCard

/-- THE SECOND FORM's CARD OF 'goodnamelaw05.DisputeFollows'. -/
def disputeFollowsUptoCard : Claim7 := { stood := { row := disputeFollowsUptoRow, standIns := [], harness := (true, "b09e1055613b3bc78040c45907358a96209802f4aed965dab76f1e08e4888df2"), looks := false }, kinds := [], alts := [], laidByText := true, laidKinds := [.data, .funcs, .mapped], laidTests := true, laidLooks := .later }
def DisputeFollowsUptoCardSaid : Prop := Claim7.holds Tryz.pinned (.plain (OpenSpec.upto disputeFollowsSpec)) disputeFollowsUptoCard

/-- THE SECOND FORM's CARD OF 'goodnamelaw05.DisputeDecided'. -/
def disputeDecidedUptoCard : Claim7 := { stood := { row := disputeDecidedUptoRow, standIns := [], harness := (true, "b09e1055613b3bc78040c45907358a96209802f4aed965dab76f1e08e4888df2"), looks := false }, kinds := [], alts := [], laidByText := true, laidKinds := [.data, .funcs, .mapped], laidTests := true, laidLooks := .later }
def DisputeDecidedUptoCardSaid : Prop := Claim7.holds Tryz.pinned (.plain (OpenSpec.upto disputeDecidedSpec)) disputeDecidedUptoCard

/-- THE SECOND FORM's CARD OF 'goodnamelaw05.DisputeLate'. -/
def disputeLateUptoCard : Claim7 := { stood := { row := disputeLateUptoRow, standIns := [], harness := (true, "b09e1055613b3bc78040c45907358a96209802f4aed965dab76f1e08e4888df2"), looks := false }, kinds := [], alts := [], laidByText := true, laidKinds := [.data, .funcs, .mapped], laidTests := true, laidLooks := .later }
def DisputeLateUptoCardSaid : Prop := Claim7.holds Tryz.pinned (.plain (OpenSpec.upto disputeLateSpec)) disputeLateUptoCard

/-- THE SECOND FORM's CARD OF 'goodnamelaw05.DisputeTold'. -/
def disputeToldUptoCard : Claim7 := { stood := { row := disputeToldUptoRow, standIns := [], harness := (true, "b09e1055613b3bc78040c45907358a96209802f4aed965dab76f1e08e4888df2"), looks := false }, kinds := [], alts := [], laidByText := true, laidKinds := [.data, .funcs, .mapped], laidTests := true, laidLooks := .later }
def DisputeToldUptoCardSaid : Prop := Claim7.holds Tryz.pinned (.plain (OpenSpec.upto disputeToldSpec)) disputeToldUptoCard

/-- THE SECOND FORM's CARD OF 'goodnamelaw05.DisputeMarks'. -/
def disputeMarksUptoCard : Claim7 := { stood := { row := disputeMarksUptoRow, standIns := [], harness := (true, "b09e1055613b3bc78040c45907358a96209802f4aed965dab76f1e08e4888df2"), looks := false }, kinds := [], alts := [], laidByText := true, laidKinds := [.data, .funcs, .mapped], laidTests := true, laidLooks := .later }
def DisputeMarksUptoCardSaid : Prop := Claim7.holds Tryz.pinned (.plain (OpenSpec.upto disputeMarksSpec)) disputeMarksUptoCard

/-- THE SECOND FORM's CARD OF 'goodnamelaw05.DisputeExamples'. -/
def disputeExamplesUptoCard : Claim7 := { stood := { row := disputeExamplesUptoRow, standIns := [], harness := (true, "b09e1055613b3bc78040c45907358a96209802f4aed965dab76f1e08e4888df2"), looks := false }, kinds := [], alts := [], laidByText := true, laidKinds := [.data, .funcs, .mapped], laidTests := true, laidLooks := .later }
def DisputeExamplesUptoCardSaid : Prop := Claim7.holds Tryz.pinned (.plain (OpenSpec.upto disputeExamplesSpec)) disputeExamplesUptoCard

/-- THE SECOND FORM's CARD OF 'goodnamelaw05.DisputeFates'. -/
def disputeFatesUptoCard : Claim7 := { stood := { row := disputeFatesUptoRow, standIns := [], harness := (true, "b09e1055613b3bc78040c45907358a96209802f4aed965dab76f1e08e4888df2"), looks := false }, kinds := [], alts := [], laidByText := true, laidKinds := [.data, .funcs, .mapped], laidTests := true, laidLooks := .later }
def DisputeFatesUptoCardSaid : Prop := Claim7.holds Tryz.pinned (.plain (OpenSpec.upto disputeFatesSpec)) disputeFatesUptoCard

/-- THE SECOND FORM's CARD OF 'goodnamelaw05.DisputeAnyOrder'. -/
def disputeAnyOrderUptoCard : Claim7 := { stood := { row := disputeAnyOrderUptoRow, standIns := [], harness := (true, "b09e1055613b3bc78040c45907358a96209802f4aed965dab76f1e08e4888df2"), looks := false }, kinds := [], alts := [], laidByText := true, laidKinds := [.data, .funcs, .mapped], laidTests := true, laidLooks := .later }
def DisputeAnyOrderUptoCardSaid : Prop := Claim7.holds Tryz.pinned (.plain (OpenSpec.upto disputeAnyOrderSpec)) disputeAnyOrderUptoCard

/-- THE SECOND FORM's CARD OF 'goodnamelaw05.DisputeBefore'. -/
def disputeBeforeUptoCard : Claim7 := { stood := { row := disputeBeforeUptoRow, standIns := [], harness := (true, "b09e1055613b3bc78040c45907358a96209802f4aed965dab76f1e08e4888df2"), looks := false }, kinds := [], alts := [], laidByText := true, laidKinds := [.data, .funcs, .mapped], laidTests := true, laidLooks := .later }
def DisputeBeforeUptoCardSaid : Prop := Claim7.holds Tryz.pinned (.plain (OpenSpec.upto disputeBeforeSpec)) disputeBeforeUptoCard
end Rows
end Go.Proofs.YtgioiejbphljoaaGreatDoor
