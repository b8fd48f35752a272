/-
  DERIVED. GIVEN WITH THE SEED: THE CARDS: each row of YtepjkmoipjeghaaDoorRows.lean that lists a variable, with what it lists TIED to the program's text (the seventh form; the later family's looks); each row that meets fmt, with fmt's text TOLD by the authors' own Lean function (tested against real Go, not proved from fmt's source: count such statements apart). THE CARD IS WHAT COUNTS. Prove the row's statement (the work); the ties are given (YtepjkmoipjeghaaDoorTie.lean); close each card by the builder's one call (the guide's Derived/Test/ToyasCard.lean, 'card_holds'). Laid BY PROGRAM, IN A SANDBOX (cutbox-door.mjs). By AI agents, Wed Nov 11 2026. No macro, syntax, notation, axiom, sorry.
-/
import Derived.Test.YtepjkmoipjeghaaDoorRows
import GoSem.ClaimSeven
namespace Go.Proofs.YtepjkmoipjeghaaDoor
namespace Rows

/-- THE TIED CARD OF 'goodnamelaw03.AccountStands'. -/
def accountStandsCard : Claim7 := { stood := { row := accountStandsRow, standIns := [], harness := (true, "3c74a6e5defb08f54ba7a9c296a71144e1f0b5fca37f20fa1294cbfe178448b9"), looks := false }, kinds := [], alts := [], laidByText := true, laidKinds := [.data], laidTests := true, laidLooks := .later }
def AccountStandsCardSaid : Prop := Claim7.holds Tryd.pinned (.plain (OpenSpec.ofChange accountStandsSpec)) accountStandsCard

/-- THE TIED CARD OF 'goodnamelaw03.AccountStates'. -/
def accountStatesCard : Claim7 := { stood := { row := accountStatesRow, standIns := [], harness := (true, "3c74a6e5defb08f54ba7a9c296a71144e1f0b5fca37f20fa1294cbfe178448b9"), looks := false }, kinds := [], alts := [], laidByText := true, laidKinds := [.data], laidTests := true, laidLooks := .later }
def AccountStatesCardSaid : Prop := Claim7.holds Tryd.pinned (.plain (OpenSpec.ofChange accountStatesSpec)) accountStatesCard

/-- THE TIED CARD OF 'goodnamelaw03.AccountExamples'. -/
def accountExamplesCard : Claim7 := { stood := { row := accountExamplesRow, standIns := [], harness := (true, "3c74a6e5defb08f54ba7a9c296a71144e1f0b5fca37f20fa1294cbfe178448b9"), looks := false }, kinds := [], alts := [], laidByText := true, laidKinds := [.data], laidTests := true, laidLooks := .later }
def AccountExamplesCardSaid : Prop := Claim7.holds Tryd.pinned (.plain (OpenSpec.ofChange accountExamplesSpec)) accountExamplesCard

/-- THE TIED CARD OF 'goodnamelaw03.AccountAnyOrder'. -/
def accountAnyOrderCard : Claim7 := { stood := { row := accountAnyOrderRow, standIns := [], harness := (true, "3c74a6e5defb08f54ba7a9c296a71144e1f0b5fca37f20fa1294cbfe178448b9"), looks := false }, kinds := [], alts := [], laidByText := true, laidKinds := [.data], laidTests := true, laidLooks := .later }
def AccountAnyOrderCardSaid : Prop := Claim7.holds Tryd.pinned (.plain (OpenSpec.ofChange accountAnyOrderSpec)) accountAnyOrderCard

/-- THE TIED CARD OF 'goodnamelaw03.AccountKnown'. -/
def accountKnownCard : Claim7 := { stood := { row := accountKnownRow, standIns := [], harness := (true, "3c74a6e5defb08f54ba7a9c296a71144e1f0b5fca37f20fa1294cbfe178448b9"), looks := false }, kinds := [], alts := [], laidByText := true, laidKinds := [.data], laidTests := true, laidLooks := .later }
def AccountKnownCardSaid : Prop := Claim7.holds Tryd.pinned (.plain (OpenSpec.ofChange accountKnownSpec)) accountKnownCard

/-- THE TIED CARD OF 'goodnamelaw03.AccountSources'. -/
def accountSourcesCard : Claim7 := { stood := { row := accountSourcesRow, standIns := [], harness := (true, "3c74a6e5defb08f54ba7a9c296a71144e1f0b5fca37f20fa1294cbfe178448b9"), looks := false }, kinds := [], alts := [], laidByText := true, laidKinds := [.data], laidTests := true, laidLooks := .later }
def AccountSourcesCardSaid : Prop := Claim7.holds Tryd.pinned (.plain (OpenSpec.ofChange accountSourcesSpec)) accountSourcesCard

/-- THE TIED CARD OF 'goodnamelaw03.AccountGone'. -/
def accountGoneCard : Claim7 := { stood := { row := accountGoneRow, standIns := [], harness := (true, "3c74a6e5defb08f54ba7a9c296a71144e1f0b5fca37f20fa1294cbfe178448b9"), looks := false }, kinds := [], alts := [], laidByText := true, laidKinds := [.data], laidTests := true, laidLooks := .later }
def AccountGoneCardSaid : Prop := Claim7.holds Tryd.pinned (.plain (OpenSpec.ofChange accountGoneSpec)) accountGoneCard

/-- THE TIED CARD OF 'goodnamelaw03.AccountFixed'. -/
def accountFixedCard : Claim7 := { stood := { row := accountFixedRow, standIns := [], harness := (true, "3c74a6e5defb08f54ba7a9c296a71144e1f0b5fca37f20fa1294cbfe178448b9"), looks := false }, kinds := [], alts := [], laidByText := true, laidKinds := [.data], laidTests := true, laidLooks := .later }
def AccountFixedCardSaid : Prop := Claim7.holds Tryd.pinned (.plain (OpenSpec.ofChange accountFixedSpec)) accountFixedCard

/-- THE TIED CARD OF 'goodnamelaw03.AccountPaid'. -/
def accountPaidCard : Claim7 := { stood := { row := accountPaidRow, standIns := [], harness := (true, "3c74a6e5defb08f54ba7a9c296a71144e1f0b5fca37f20fa1294cbfe178448b9"), looks := false }, kinds := [], alts := [], laidByText := true, laidKinds := [.data], laidTests := true, laidLooks := .later }
def AccountPaidCardSaid : Prop := Claim7.holds Tryd.pinned (.plain (OpenSpec.ofChange accountPaidSpec)) accountPaidCard

/-- THE TIED CARD OF 'goodnamelaw03.AccountClashes'. -/
def accountClashesCard : Claim7 := { stood := { row := accountClashesRow, standIns := [], harness := (true, "3c74a6e5defb08f54ba7a9c296a71144e1f0b5fca37f20fa1294cbfe178448b9"), looks := false }, kinds := [], alts := [], laidByText := true, laidKinds := [.data], laidTests := true, laidLooks := .later }
def AccountClashesCardSaid : Prop := Claim7.holds Tryd.pinned (.plain (OpenSpec.ofChange accountClashesSpec)) accountClashesCard

/-- THE SECOND FORM's CARD OF 'goodnamelaw03.AccountStands'. -/
def accountStandsUptoCard : Claim7 := { stood := { row := accountStandsUptoRow, standIns := [], harness := (true, "3c74a6e5defb08f54ba7a9c296a71144e1f0b5fca37f20fa1294cbfe178448b9"), looks := false }, kinds := [], alts := [], laidByText := true, laidKinds := [.data], laidTests := true, laidLooks := .later }
def AccountStandsUptoCardSaid : Prop := Claim7.holds Tryd.pinned (.plain (OpenSpec.upto accountStandsSpec)) accountStandsUptoCard

/-- THE SECOND FORM's CARD OF 'goodnamelaw03.AccountStates'. -/
def accountStatesUptoCard : Claim7 := { stood := { row := accountStatesUptoRow, standIns := [], harness := (true, "3c74a6e5defb08f54ba7a9c296a71144e1f0b5fca37f20fa1294cbfe178448b9"), looks := false }, kinds := [], alts := [], laidByText := true, laidKinds := [.data], laidTests := true, laidLooks := .later }
def AccountStatesUptoCardSaid : Prop := Claim7.holds Tryd.pinned (.plain (OpenSpec.upto accountStatesSpec)) accountStatesUptoCard

/-- THE SECOND FORM's CARD OF 'goodnamelaw03.AccountExamples'. -/
def accountExamplesUptoCard : Claim7 := { stood := { row := accountExamplesUptoRow, standIns := [], harness := (true, "3c74a6e5defb08f54ba7a9c296a71144e1f0b5fca37f20fa1294cbfe178448b9"), looks := false }, kinds := [], alts := [], laidByText := true, laidKinds := [.data], laidTests := true, laidLooks := .later }
def AccountExamplesUptoCardSaid : Prop := Claim7.holds Tryd.pinned (.plain (OpenSpec.upto accountExamplesSpec)) accountExamplesUptoCard

/-- THE SECOND FORM's CARD OF 'goodnamelaw03.AccountAnyOrder'. -/
def accountAnyOrderUptoCard : Claim7 := { stood := { row := accountAnyOrderUptoRow, standIns := [], harness := (true, "3c74a6e5defb08f54ba7a9c296a71144e1f0b5fca37f20fa1294cbfe178448b9"), looks := false }, kinds := [], alts := [], laidByText := true, laidKinds := [.data], laidTests := true, laidLooks := .later }
def AccountAnyOrderUptoCardSaid : Prop := Claim7.holds Tryd.pinned (.plain (OpenSpec.upto accountAnyOrderSpec)) accountAnyOrderUptoCard

/-- THE SECOND FORM's CARD OF 'goodnamelaw03.AccountKnown'. -/
def accountKnownUptoCard : Claim7 := { stood := { row := accountKnownUptoRow, standIns := [], harness := (true, "3c74a6e5defb08f54ba7a9c296a71144e1f0b5fca37f20fa1294cbfe178448b9"), looks := false }, kinds := [], alts := [], laidByText := true, laidKinds := [.data], laidTests := true, laidLooks := .later }
def AccountKnownUptoCardSaid : Prop := Claim7.holds Tryd.pinned (.plain (OpenSpec.upto accountKnownSpec)) accountKnownUptoCard

/-- THE SECOND FORM's CARD OF 'goodnamelaw03.AccountSources'. -/
def accountSourcesUptoCard : Claim7 := { stood := { row := accountSourcesUptoRow, standIns := [], harness := (true, "3c74a6e5defb08f54ba7a9c296a71144e1f0b5fca37f20fa1294cbfe178448b9"), looks := false }, kinds := [], alts := [], laidByText := true, laidKinds := [.data], laidTests := true, laidLooks := .later }
def AccountSourcesUptoCardSaid : Prop := Claim7.holds Tryd.pinned (.plain (OpenSpec.upto accountSourcesSpec)) accountSourcesUptoCard

/-- THE SECOND FORM's CARD OF 'goodnamelaw03.AccountGone'. -/
def accountGoneUptoCard : Claim7 := { stood := { row := accountGoneUptoRow, standIns := [], harness := (true, "3c74a6e5defb08f54ba7a9c296a71144e1f0b5fca37f20fa1294cbfe178448b9"), looks := false }, kinds := [], alts := [], laidByText := true, laidKinds := [.data], laidTests := true, laidLooks := .later }
def AccountGoneUptoCardSaid : Prop := Claim7.holds Tryd.pinned (.plain (OpenSpec.upto accountGoneSpec)) accountGoneUptoCard

/-- THE SECOND FORM's CARD OF 'goodnamelaw03.AccountFixed'. -/
def accountFixedUptoCard : Claim7 := { stood := { row := accountFixedUptoRow, standIns := [], harness := (true, "3c74a6e5defb08f54ba7a9c296a71144e1f0b5fca37f20fa1294cbfe178448b9"), looks := false }, kinds := [], alts := [], laidByText := true, laidKinds := [.data], laidTests := true, laidLooks := .later }
def AccountFixedUptoCardSaid : Prop := Claim7.holds Tryd.pinned (.plain (OpenSpec.upto accountFixedSpec)) accountFixedUptoCard

/-- THE SECOND FORM's CARD OF 'goodnamelaw03.AccountPaid'. -/
def accountPaidUptoCard : Claim7 := { stood := { row := accountPaidUptoRow, standIns := [], harness := (true, "3c74a6e5defb08f54ba7a9c296a71144e1f0b5fca37f20fa1294cbfe178448b9"), looks := false }, kinds := [], alts := [], laidByText := true, laidKinds := [.data], laidTests := true, laidLooks := .later }
def AccountPaidUptoCardSaid : Prop := Claim7.holds Tryd.pinned (.plain (OpenSpec.upto accountPaidSpec)) accountPaidUptoCard

/-- THE SECOND FORM's CARD OF 'goodnamelaw03.AccountClashes'. -/
def accountClashesUptoCard : Claim7 := { stood := { row := accountClashesUptoRow, standIns := [], harness := (true, "3c74a6e5defb08f54ba7a9c296a71144e1f0b5fca37f20fa1294cbfe178448b9"), looks := false }, kinds := [], alts := [], laidByText := true, laidKinds := [.data], laidTests := true, laidLooks := .later }
def AccountClashesUptoCardSaid : Prop := Claim7.holds Tryd.pinned (.plain (OpenSpec.upto accountClashesSpec)) accountClashesUptoCard
end Rows
end Go.Proofs.YtepjkmoipjeghaaDoor
