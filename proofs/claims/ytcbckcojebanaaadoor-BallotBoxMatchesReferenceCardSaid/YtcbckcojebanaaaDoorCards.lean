/-
  DERIVED. GIVEN WITH THE SEED: THE CARDS: each row of YtcbckcojebanaaaDoorRows.lean that lists a variable, with what it lists TIED to the program's text (the seventh form; the later family's looks); each row that meets fmt, with fmt's text TOLD by the authors' own Lean function (tested against real Go, not proved from fmt's source: count such statements apart). THE CARD IS WHAT COUNTS. Prove the row's statement (the work); the ties are given (YtcbckcojebanaaaDoorTie.lean); close each card by the builder's one call (the guide's Derived/Test/ToyasCard.lean, 'card_holds'). Laid BY PROGRAM, IN A SANDBOX (cutbox-door.mjs). By AI agents, Wed Nov 11 2026. No macro, syntax, notation, axiom, sorry.
-/
import Derived.Test.YtcbckcojebanaaaDoorRows
import GoSem.ClaimSeven
namespace Go.Proofs.YtcbckcojebanaaaDoor
namespace Rows

/-- THE TIED CARD OF 'royaltylaw25.BallotMatchesReference'. -/
def ballotMatchesReferenceCard : Claim7 := { stood := { row := ballotMatchesReferenceRow, standIns := [], harness := (true, "842756b178c153c08cd55f2bbe7bb11a1a8bf1be17732a26c59d527083bc5b59"), looks := false }, kinds := [], alts := [], laidByText := true, laidKinds := [.data], laidTests := true, laidLooks := .later }
def BallotMatchesReferenceCardSaid : Prop := Claim7.holds Tryd.pinned (.plain (OpenSpec.ofChange ballotMatchesReferenceSpec)) ballotMatchesReferenceCard

/-- THE TIED CARD OF 'royaltylaw25.BallotDecodeMatchesReference'. -/
def ballotDecodeMatchesReferenceCard : Claim7 := { stood := { row := ballotDecodeMatchesReferenceRow, standIns := [], harness := (true, "842756b178c153c08cd55f2bbe7bb11a1a8bf1be17732a26c59d527083bc5b59"), looks := false }, kinds := [], alts := [], laidByText := true, laidKinds := [.data], laidTests := true, laidLooks := .later }
def BallotDecodeMatchesReferenceCardSaid : Prop := Claim7.holds Tryd.pinned (.plain (OpenSpec.ofChange ballotDecodeMatchesReferenceSpec)) ballotDecodeMatchesReferenceCard

/-- THE TIED CARD OF 'royaltylaw25.BallotBoxMatchesReference'. -/
def ballotBoxMatchesReferenceCard : Claim7 := { stood := { row := ballotBoxMatchesReferenceRow, standIns := [], harness := (true, "842756b178c153c08cd55f2bbe7bb11a1a8bf1be17732a26c59d527083bc5b59"), looks := false }, kinds := [], alts := [], laidByText := true, laidKinds := [.data], laidTests := true, laidLooks := .later }
def BallotBoxMatchesReferenceCardSaid : Prop := Claim7.holds Tryd.pinned (.plain (OpenSpec.ofChange ballotBoxMatchesReferenceSpec)) ballotBoxMatchesReferenceCard

/-- THE TIED CARD OF 'royaltylaw25.BallotRoundTrip'. -/
def ballotRoundTripCard : Claim7 := { stood := { row := ballotRoundTripRow, standIns := [], harness := (true, "842756b178c153c08cd55f2bbe7bb11a1a8bf1be17732a26c59d527083bc5b59"), looks := false }, kinds := [], alts := [], laidByText := true, laidKinds := [.data], laidTests := true, laidLooks := .later }
def BallotRoundTripCardSaid : Prop := Claim7.holds Tryd.pinned (.plain (OpenSpec.ofChange ballotRoundTripSpec)) ballotRoundTripCard

/-- THE TIED CARD OF 'royaltylaw25.BallotQuorums'. -/
def ballotQuorumsCard : Claim7 := { stood := { row := ballotQuorumsRow, standIns := [], harness := (true, "842756b178c153c08cd55f2bbe7bb11a1a8bf1be17732a26c59d527083bc5b59"), looks := false }, kinds := [], alts := [], laidByText := true, laidKinds := [.data], laidTests := true, laidLooks := .later }
def BallotQuorumsCardSaid : Prop := Claim7.holds Tryd.pinned (.plain (OpenSpec.ofChange ballotQuorumsSpec)) ballotQuorumsCard

/-- THE TIED CARD OF 'royaltylaw25.BallotOneWinner'. -/
def ballotOneWinnerCard : Claim7 := { stood := { row := ballotOneWinnerRow, standIns := [], harness := (true, "842756b178c153c08cd55f2bbe7bb11a1a8bf1be17732a26c59d527083bc5b59"), looks := false }, kinds := [], alts := [], laidByText := true, laidKinds := [.data], laidTests := true, laidLooks := .later }
def BallotOneWinnerCardSaid : Prop := Claim7.holds Tryd.pinned (.plain (OpenSpec.ofChange ballotOneWinnerSpec)) ballotOneWinnerCard

/-- THE TIED CARD OF 'royaltylaw25.BallotOrder'. -/
def ballotOrderCard : Claim7 := { stood := { row := ballotOrderRow, standIns := [], harness := (true, "842756b178c153c08cd55f2bbe7bb11a1a8bf1be17732a26c59d527083bc5b59"), looks := false }, kinds := [], alts := [], laidByText := true, laidKinds := [.data], laidTests := true, laidLooks := .later }
def BallotOrderCardSaid : Prop := Claim7.holds Tryd.pinned (.plain (OpenSpec.ofChange ballotOrderSpec)) ballotOrderCard

/-- THE SECOND FORM's CARD OF 'royaltylaw25.BallotMatchesReference'. -/
def ballotMatchesReferenceUptoCard : Claim7 := { stood := { row := ballotMatchesReferenceUptoRow, standIns := [], harness := (true, "842756b178c153c08cd55f2bbe7bb11a1a8bf1be17732a26c59d527083bc5b59"), looks := false }, kinds := [], alts := [], laidByText := true, laidKinds := [.data], laidTests := true, laidLooks := .later }
def BallotMatchesReferenceUptoCardSaid : Prop := Claim7.holds Tryd.pinned (.plain (OpenSpec.upto ballotMatchesReferenceSpec)) ballotMatchesReferenceUptoCard

/-- THE SECOND FORM's CARD OF 'royaltylaw25.BallotDecodeMatchesReference'. -/
def ballotDecodeMatchesReferenceUptoCard : Claim7 := { stood := { row := ballotDecodeMatchesReferenceUptoRow, standIns := [], harness := (true, "842756b178c153c08cd55f2bbe7bb11a1a8bf1be17732a26c59d527083bc5b59"), looks := false }, kinds := [], alts := [], laidByText := true, laidKinds := [.data], laidTests := true, laidLooks := .later }
def BallotDecodeMatchesReferenceUptoCardSaid : Prop := Claim7.holds Tryd.pinned (.plain (OpenSpec.upto ballotDecodeMatchesReferenceSpec)) ballotDecodeMatchesReferenceUptoCard

/-- THE SECOND FORM's CARD OF 'royaltylaw25.BallotBoxMatchesReference'. -/
def ballotBoxMatchesReferenceUptoCard : Claim7 := { stood := { row := ballotBoxMatchesReferenceUptoRow, standIns := [], harness := (true, "842756b178c153c08cd55f2bbe7bb11a1a8bf1be17732a26c59d527083bc5b59"), looks := false }, kinds := [], alts := [], laidByText := true, laidKinds := [.data], laidTests := true, laidLooks := .later }
def BallotBoxMatchesReferenceUptoCardSaid : Prop := Claim7.holds Tryd.pinned (.plain (OpenSpec.upto ballotBoxMatchesReferenceSpec)) ballotBoxMatchesReferenceUptoCard

/-- THE SECOND FORM's CARD OF 'royaltylaw25.BallotRoundTrip'. -/
def ballotRoundTripUptoCard : Claim7 := { stood := { row := ballotRoundTripUptoRow, standIns := [], harness := (true, "842756b178c153c08cd55f2bbe7bb11a1a8bf1be17732a26c59d527083bc5b59"), looks := false }, kinds := [], alts := [], laidByText := true, laidKinds := [.data], laidTests := true, laidLooks := .later }
def BallotRoundTripUptoCardSaid : Prop := Claim7.holds Tryd.pinned (.plain (OpenSpec.upto ballotRoundTripSpec)) ballotRoundTripUptoCard

/-- THE SECOND FORM's CARD OF 'royaltylaw25.BallotQuorums'. -/
def ballotQuorumsUptoCard : Claim7 := { stood := { row := ballotQuorumsUptoRow, standIns := [], harness := (true, "842756b178c153c08cd55f2bbe7bb11a1a8bf1be17732a26c59d527083bc5b59"), looks := false }, kinds := [], alts := [], laidByText := true, laidKinds := [.data], laidTests := true, laidLooks := .later }
def BallotQuorumsUptoCardSaid : Prop := Claim7.holds Tryd.pinned (.plain (OpenSpec.upto ballotQuorumsSpec)) ballotQuorumsUptoCard

/-- THE SECOND FORM's CARD OF 'royaltylaw25.BallotOneWinner'. -/
def ballotOneWinnerUptoCard : Claim7 := { stood := { row := ballotOneWinnerUptoRow, standIns := [], harness := (true, "842756b178c153c08cd55f2bbe7bb11a1a8bf1be17732a26c59d527083bc5b59"), looks := false }, kinds := [], alts := [], laidByText := true, laidKinds := [.data], laidTests := true, laidLooks := .later }
def BallotOneWinnerUptoCardSaid : Prop := Claim7.holds Tryd.pinned (.plain (OpenSpec.upto ballotOneWinnerSpec)) ballotOneWinnerUptoCard

/-- THE SECOND FORM's CARD OF 'royaltylaw25.BallotOrder'. -/
def ballotOrderUptoCard : Claim7 := { stood := { row := ballotOrderUptoRow, standIns := [], harness := (true, "842756b178c153c08cd55f2bbe7bb11a1a8bf1be17732a26c59d527083bc5b59"), looks := false }, kinds := [], alts := [], laidByText := true, laidKinds := [.data], laidTests := true, laidLooks := .later }
def BallotOrderUptoCardSaid : Prop := Claim7.holds Tryd.pinned (.plain (OpenSpec.upto ballotOrderSpec)) ballotOrderUptoCard
end Rows
end Go.Proofs.YtcbckcojebanaaaDoor
