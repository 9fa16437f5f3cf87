/-
  DERIVED. GIVEN WITH THE SEED: THE CARDS: each row of YtpihhjpgdbcifaaDoorRows.lean that lists a variable, with what it lists TIED to the program's text (the seventh form; the later family's looks); each row that meets fmt, with fmt's text TOLD by the authors' own Lean function (tested against real Go, not proved from fmt's source: count such statements apart). THE CARD IS WHAT COUNTS. Prove the row's statement (the work); the ties are given (YtpihhjpgdbcifaaDoorTie.lean); close each card by the builder's one call (the guide's Derived/Test/ToyasCard.lean, 'card_holds'). Laid BY PROGRAM, IN A SANDBOX (cutbox-door.mjs). By AI agents, Wed Nov 11 2026. No macro, syntax, notation, axiom, sorry.
-/
import Derived.Test.YtpihhjpgdbcifaaDoorRows
import GoSem.ClaimSeven
namespace Go.Proofs.YtpihhjpgdbcifaaDoor
namespace Rows

/-- THE TIED CARD OF 'royaltylaw05.FactMatchesReference'. -/
def factMatchesReferenceCard : Claim7 := { stood := { row := factMatchesReferenceRow, standIns := [], harness := (true, "9c65781794f8b1b44ec38120ed001d46fc679fc220412c7442f424e85549e3c8"), looks := true }, kinds := [], alts := [], laidByText := true, laidKinds := [.data, .sentinel], laidTests := true, laidLooks := .later }
def FactMatchesReferenceCardSaid : Prop := Claim7.holds Tryd.pinned (.plain (OpenSpec.ofChange factMatchesReferenceSpec)) factMatchesReferenceCard

/-- THE TIED CARD OF 'royaltylaw05.FactEncodeMatchesReference'. -/
def factEncodeMatchesReferenceCard : Claim7 := { stood := { row := factEncodeMatchesReferenceRow, standIns := [], harness := (true, "9c65781794f8b1b44ec38120ed001d46fc679fc220412c7442f424e85549e3c8"), looks := true }, kinds := [], alts := [], laidByText := true, laidKinds := [.data, .sentinel], laidTests := true, laidLooks := .later }
def FactEncodeMatchesReferenceCardSaid : Prop := Claim7.holds Tryd.pinned (.plain (OpenSpec.ofChange factEncodeMatchesReferenceSpec)) factEncodeMatchesReferenceCard

/-- THE TIED CARD OF 'royaltylaw05.FactDecodeMatchesReference'. -/
def factDecodeMatchesReferenceCard : Claim7 := { stood := { row := factDecodeMatchesReferenceRow, standIns := [], harness := (true, "9c65781794f8b1b44ec38120ed001d46fc679fc220412c7442f424e85549e3c8"), looks := true }, kinds := [], alts := [], laidByText := true, laidKinds := [.data, .sentinel], laidTests := true, laidLooks := .later }
def FactDecodeMatchesReferenceCardSaid : Prop := Claim7.holds Tryd.pinned (.plain (OpenSpec.ofChange factDecodeMatchesReferenceSpec)) factDecodeMatchesReferenceCard

/-- THE TIED CARD OF 'royaltylaw05.FactRoundTrip'. -/
def factRoundTripCard : Claim7 := { stood := { row := factRoundTripRow, standIns := [], harness := (true, "9c65781794f8b1b44ec38120ed001d46fc679fc220412c7442f424e85549e3c8"), looks := true }, kinds := [], alts := [], laidByText := true, laidKinds := [.data, .sentinel], laidTests := true, laidLooks := .later }
def FactRoundTripCardSaid : Prop := Claim7.holds Tryd.pinned (.plain (OpenSpec.ofChange factRoundTripSpec)) factRoundTripCard

/-- THE TIED CARD OF 'royaltylaw05.FactDecodedAgain'. -/
def factDecodedAgainCard : Claim7 := { stood := { row := factDecodedAgainRow, standIns := [], harness := (true, "9c65781794f8b1b44ec38120ed001d46fc679fc220412c7442f424e85549e3c8"), looks := true }, kinds := [], alts := [], laidByText := true, laidKinds := [.data, .sentinel], laidTests := true, laidLooks := .later }
def FactDecodedAgainCardSaid : Prop := Claim7.holds Tryd.pinned (.plain (OpenSpec.ofChange factDecodedAgainSpec)) factDecodedAgainCard

/-- THE TIED CARD OF 'royaltylaw05.FactPrefixes'. -/
def factPrefixesCard : Claim7 := { stood := { row := factPrefixesRow, standIns := [], harness := (true, "9c65781794f8b1b44ec38120ed001d46fc679fc220412c7442f424e85549e3c8"), looks := true }, kinds := [], alts := [], laidByText := true, laidKinds := [.data, .sentinel], laidTests := true, laidLooks := .later }
def FactPrefixesCardSaid : Prop := Claim7.holds Tryd.pinned (.plain (OpenSpec.ofChange factPrefixesSpec)) factPrefixesCard

/-- THE TIED CARD OF 'royaltylaw05.FactOrder'. -/
def factOrderCard : Claim7 := { stood := { row := factOrderRow, standIns := [], harness := (true, "9c65781794f8b1b44ec38120ed001d46fc679fc220412c7442f424e85549e3c8"), looks := true }, kinds := [], alts := [], laidByText := true, laidKinds := [.data, .sentinel], laidTests := true, laidLooks := .later }
def FactOrderCardSaid : Prop := Claim7.holds Tryd.pinned (.plain (OpenSpec.ofChange factOrderSpec)) factOrderCard

/-- THE TIED CARD OF 'royaltylaw05.FactIdentified'. -/
def factIdentifiedCard : Claim7 := { stood := { row := factIdentifiedRow, standIns := [], harness := (true, "9c65781794f8b1b44ec38120ed001d46fc679fc220412c7442f424e85549e3c8"), looks := true }, kinds := [], alts := [], laidByText := true, laidKinds := [.data, .sentinel], laidTests := true, laidLooks := .later }
def FactIdentifiedCardSaid : Prop := Claim7.holds Tryd.pinned (.plain (OpenSpec.ofChange factIdentifiedSpec)) factIdentifiedCard

/-- THE TIED CARD OF 'royaltylaw05.FactVersions'. -/
def factVersionsCard : Claim7 := { stood := { row := factVersionsRow, standIns := [], harness := (true, "9c65781794f8b1b44ec38120ed001d46fc679fc220412c7442f424e85549e3c8"), looks := true }, kinds := [], alts := [], laidByText := true, laidKinds := [.data, .sentinel], laidTests := true, laidLooks := .later }
def FactVersionsCardSaid : Prop := Claim7.holds Tryd.pinned (.plain (OpenSpec.ofChange factVersionsSpec)) factVersionsCard

/-- THE SECOND FORM's CARD OF 'royaltylaw05.FactMatchesReference'. -/
def factMatchesReferenceUptoCard : Claim7 := { stood := { row := factMatchesReferenceUptoRow, standIns := [], harness := (true, "9c65781794f8b1b44ec38120ed001d46fc679fc220412c7442f424e85549e3c8"), looks := true }, kinds := [], alts := [], laidByText := true, laidKinds := [.data, .sentinel], laidTests := true, laidLooks := .later }
def FactMatchesReferenceUptoCardSaid : Prop := Claim7.holds Tryd.pinned (.plain (OpenSpec.upto factMatchesReferenceSpec)) factMatchesReferenceUptoCard

/-- THE SECOND FORM's CARD OF 'royaltylaw05.FactEncodeMatchesReference'. -/
def factEncodeMatchesReferenceUptoCard : Claim7 := { stood := { row := factEncodeMatchesReferenceUptoRow, standIns := [], harness := (true, "9c65781794f8b1b44ec38120ed001d46fc679fc220412c7442f424e85549e3c8"), looks := true }, kinds := [], alts := [], laidByText := true, laidKinds := [.data, .sentinel], laidTests := true, laidLooks := .later }
def FactEncodeMatchesReferenceUptoCardSaid : Prop := Claim7.holds Tryd.pinned (.plain (OpenSpec.upto factEncodeMatchesReferenceSpec)) factEncodeMatchesReferenceUptoCard

/-- THE SECOND FORM's CARD OF 'royaltylaw05.FactDecodeMatchesReference'. -/
def factDecodeMatchesReferenceUptoCard : Claim7 := { stood := { row := factDecodeMatchesReferenceUptoRow, standIns := [], harness := (true, "9c65781794f8b1b44ec38120ed001d46fc679fc220412c7442f424e85549e3c8"), looks := true }, kinds := [], alts := [], laidByText := true, laidKinds := [.data, .sentinel], laidTests := true, laidLooks := .later }
def FactDecodeMatchesReferenceUptoCardSaid : Prop := Claim7.holds Tryd.pinned (.plain (OpenSpec.upto factDecodeMatchesReferenceSpec)) factDecodeMatchesReferenceUptoCard

/-- THE SECOND FORM's CARD OF 'royaltylaw05.FactRoundTrip'. -/
def factRoundTripUptoCard : Claim7 := { stood := { row := factRoundTripUptoRow, standIns := [], harness := (true, "9c65781794f8b1b44ec38120ed001d46fc679fc220412c7442f424e85549e3c8"), looks := true }, kinds := [], alts := [], laidByText := true, laidKinds := [.data, .sentinel], laidTests := true, laidLooks := .later }
def FactRoundTripUptoCardSaid : Prop := Claim7.holds Tryd.pinned (.plain (OpenSpec.upto factRoundTripSpec)) factRoundTripUptoCard

/-- THE SECOND FORM's CARD OF 'royaltylaw05.FactDecodedAgain'. -/
def factDecodedAgainUptoCard : Claim7 := { stood := { row := factDecodedAgainUptoRow, standIns := [], harness := (true, "9c65781794f8b1b44ec38120ed001d46fc679fc220412c7442f424e85549e3c8"), looks := true }, kinds := [], alts := [], laidByText := true, laidKinds := [.data, .sentinel], laidTests := true, laidLooks := .later }
def FactDecodedAgainUptoCardSaid : Prop := Claim7.holds Tryd.pinned (.plain (OpenSpec.upto factDecodedAgainSpec)) factDecodedAgainUptoCard

/-- THE SECOND FORM's CARD OF 'royaltylaw05.FactPrefixes'. -/
def factPrefixesUptoCard : Claim7 := { stood := { row := factPrefixesUptoRow, standIns := [], harness := (true, "9c65781794f8b1b44ec38120ed001d46fc679fc220412c7442f424e85549e3c8"), looks := true }, kinds := [], alts := [], laidByText := true, laidKinds := [.data, .sentinel], laidTests := true, laidLooks := .later }
def FactPrefixesUptoCardSaid : Prop := Claim7.holds Tryd.pinned (.plain (OpenSpec.upto factPrefixesSpec)) factPrefixesUptoCard

/-- THE SECOND FORM's CARD OF 'royaltylaw05.FactOrder'. -/
def factOrderUptoCard : Claim7 := { stood := { row := factOrderUptoRow, standIns := [], harness := (true, "9c65781794f8b1b44ec38120ed001d46fc679fc220412c7442f424e85549e3c8"), looks := true }, kinds := [], alts := [], laidByText := true, laidKinds := [.data, .sentinel], laidTests := true, laidLooks := .later }
def FactOrderUptoCardSaid : Prop := Claim7.holds Tryd.pinned (.plain (OpenSpec.upto factOrderSpec)) factOrderUptoCard

/-- THE SECOND FORM's CARD OF 'royaltylaw05.FactIdentified'. -/
def factIdentifiedUptoCard : Claim7 := { stood := { row := factIdentifiedUptoRow, standIns := [], harness := (true, "9c65781794f8b1b44ec38120ed001d46fc679fc220412c7442f424e85549e3c8"), looks := true }, kinds := [], alts := [], laidByText := true, laidKinds := [.data, .sentinel], laidTests := true, laidLooks := .later }
def FactIdentifiedUptoCardSaid : Prop := Claim7.holds Tryd.pinned (.plain (OpenSpec.upto factIdentifiedSpec)) factIdentifiedUptoCard

/-- THE SECOND FORM's CARD OF 'royaltylaw05.FactVersions'. -/
def factVersionsUptoCard : Claim7 := { stood := { row := factVersionsUptoRow, standIns := [], harness := (true, "9c65781794f8b1b44ec38120ed001d46fc679fc220412c7442f424e85549e3c8"), looks := true }, kinds := [], alts := [], laidByText := true, laidKinds := [.data, .sentinel], laidTests := true, laidLooks := .later }
def FactVersionsUptoCardSaid : Prop := Claim7.holds Tryd.pinned (.plain (OpenSpec.upto factVersionsSpec)) factVersionsUptoCard
end Rows
end Go.Proofs.YtpihhjpgdbcifaaDoor
