/-
  DERIVED. GIVEN WITH THE SEED: THE PROGRAM's TIES (one call each: nine closed facts by the kernel) AND EACH ROW's TIE, after the 31st guide's Derived/Test/Toyas{Tie, Card}.lean. No idea stands in it: it is a product of the set-up. Laid BY PROGRAM, IN A SANDBOX (cutbox-door.mjs). By AI agents, Wed Nov 11 2026. No macro, syntax, notation, axiom, sorry.
-/
import Derived.Test.YtgioiejbphljoaaGreatDoorRows
import Derived.LaidByTextLater
import Derived.SevenTiedAt
import Derived.LaidSub
import Derived.LaidOnce
namespace Go.Proofs.YtgioiejbphljoaaGreatDoor
open Go
set_option maxRecDepth 100000
theorem seatTie1 : Tryz.prog.laidByTextLater [("goodname/account.most", Rows.laid_goodname_account_most), ("goodname/dispute.steps", Rows.laid_goodname_dispute_steps), ("goodname/dispute.outcomes", Rows.laid_goodname_dispute_outcomes)] [.data, .funcs, .mapped] true :=
  Program.laidByTextLater_by_one 39 8 11 (by kernel_rfl) (by kernel_rfl) (by kernel_rfl) (by kernel_rfl) (by kernel_rfl) (by kernel_rfl) (fun _ _ => by kernel_rfl)
theorem noOwnUnsafe : Tryz.pinned.checked.prog.headLifts.contains "ownunsafe" = false := by kernel_rfl
theorem tie : Tryz.prog.laidByTextLater [("goodname/account.most", Rows.laid_goodname_account_most), ("goodname/dispute.steps", Rows.laid_goodname_dispute_steps), ("goodname/dispute.outcomes", Rows.laid_goodname_dispute_outcomes)] [.data, .funcs, .mapped] true :=
  Program.laidByTextLater.sub seatTie1 ["goodname/account.most", "goodname/dispute.steps", "goodname/dispute.outcomes"] (by kernel_rfl) (by kernel_rfl)
theorem disputeFollows_row_tie : Rows.disputeFollowsRow.laidByTextAt .later Tryz.pinned [.data, .funcs, .mapped] true :=
  OpenClaim.laidByTextAt_later rfl rfl tie noOwnUnsafe
theorem disputeDecided_row_tie : Rows.disputeDecidedRow.laidByTextAt .later Tryz.pinned [.data, .funcs, .mapped] true :=
  OpenClaim.laidByTextAt_later rfl rfl tie noOwnUnsafe
theorem disputeLate_row_tie : Rows.disputeLateRow.laidByTextAt .later Tryz.pinned [.data, .funcs, .mapped] true :=
  OpenClaim.laidByTextAt_later rfl rfl tie noOwnUnsafe
theorem disputeTold_row_tie : Rows.disputeToldRow.laidByTextAt .later Tryz.pinned [.data, .funcs, .mapped] true :=
  OpenClaim.laidByTextAt_later rfl rfl tie noOwnUnsafe
theorem disputeMarks_row_tie : Rows.disputeMarksRow.laidByTextAt .later Tryz.pinned [.data, .funcs, .mapped] true :=
  OpenClaim.laidByTextAt_later rfl rfl tie noOwnUnsafe
theorem disputeExamples_row_tie : Rows.disputeExamplesRow.laidByTextAt .later Tryz.pinned [.data, .funcs, .mapped] true :=
  OpenClaim.laidByTextAt_later rfl rfl tie noOwnUnsafe
theorem disputeFates_row_tie : Rows.disputeFatesRow.laidByTextAt .later Tryz.pinned [.data, .funcs, .mapped] true :=
  OpenClaim.laidByTextAt_later rfl rfl tie noOwnUnsafe
theorem disputeAnyOrder_row_tie : Rows.disputeAnyOrderRow.laidByTextAt .later Tryz.pinned [.data, .funcs, .mapped] true :=
  OpenClaim.laidByTextAt_later rfl rfl tie noOwnUnsafe
theorem disputeBefore_row_tie : Rows.disputeBeforeRow.laidByTextAt .later Tryz.pinned [.data, .funcs, .mapped] true :=
  OpenClaim.laidByTextAt_later rfl rfl tie noOwnUnsafe
theorem disputeFollowsUpto_row_tie : Rows.disputeFollowsUptoRow.laidByTextAt .later Tryz.pinned [.data, .funcs, .mapped] true :=
  OpenClaim.laidByTextAt_later rfl rfl tie noOwnUnsafe
theorem disputeDecidedUpto_row_tie : Rows.disputeDecidedUptoRow.laidByTextAt .later Tryz.pinned [.data, .funcs, .mapped] true :=
  OpenClaim.laidByTextAt_later rfl rfl tie noOwnUnsafe
theorem disputeLateUpto_row_tie : Rows.disputeLateUptoRow.laidByTextAt .later Tryz.pinned [.data, .funcs, .mapped] true :=
  OpenClaim.laidByTextAt_later rfl rfl tie noOwnUnsafe
theorem disputeToldUpto_row_tie : Rows.disputeToldUptoRow.laidByTextAt .later Tryz.pinned [.data, .funcs, .mapped] true :=
  OpenClaim.laidByTextAt_later rfl rfl tie noOwnUnsafe
theorem disputeMarksUpto_row_tie : Rows.disputeMarksUptoRow.laidByTextAt .later Tryz.pinned [.data, .funcs, .mapped] true :=
  OpenClaim.laidByTextAt_later rfl rfl tie noOwnUnsafe
theorem disputeExamplesUpto_row_tie : Rows.disputeExamplesUptoRow.laidByTextAt .later Tryz.pinned [.data, .funcs, .mapped] true :=
  OpenClaim.laidByTextAt_later rfl rfl tie noOwnUnsafe
theorem disputeFatesUpto_row_tie : Rows.disputeFatesUptoRow.laidByTextAt .later Tryz.pinned [.data, .funcs, .mapped] true :=
  OpenClaim.laidByTextAt_later rfl rfl tie noOwnUnsafe
theorem disputeAnyOrderUpto_row_tie : Rows.disputeAnyOrderUptoRow.laidByTextAt .later Tryz.pinned [.data, .funcs, .mapped] true :=
  OpenClaim.laidByTextAt_later rfl rfl tie noOwnUnsafe
theorem disputeBeforeUpto_row_tie : Rows.disputeBeforeUptoRow.laidByTextAt .later Tryz.pinned [.data, .funcs, .mapped] true :=
  OpenClaim.laidByTextAt_later rfl rfl tie noOwnUnsafe
end Go.Proofs.YtgioiejbphljoaaGreatDoor
