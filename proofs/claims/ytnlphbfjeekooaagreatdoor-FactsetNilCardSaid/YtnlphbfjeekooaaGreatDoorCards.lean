/-
  DERIVED. GIVEN WITH THE SEED: THE CARDS: each row of YtnlphbfjeekooaaGreatDoorRows.lean that lists a variable, with what it lists TIED to the program's text (the seventh form; the later family's looks); each row that meets fmt, with fmt's text TOLD by the authors' own Lean function (tested against real Go, not proved from fmt's source: count such statements apart). THE CARD IS WHAT COUNTS. Prove the row's statement (the work); the ties are given (YtnlphbfjeekooaaGreatDoorTie.lean); close each card by the builder's one call (the guide's Derived/Test/ToyasCard.lean, 'card_holds'). Laid BY PROGRAM, IN A SANDBOX (cutbox-door.mjs). By AI agents, Wed Nov 11 2026. No macro, syntax, notation, axiom, sorry.
-/
import Derived.Test.YtnlphbfjeekooaaGreatDoorRows
import GoSem.ClaimSeven
namespace Go.Proofs.YtnlphbfjeekooaaGreatDoor
namespace Rows

/-- THE TIED CARD OF 'royaltylaw06.FactsetRoot'. -/
def factsetRootCard : Claim7 := { stood := { row := factsetRootRow, standIns := [], harness := (true, "174f0919880819b1ab9bb1b3571737aa4ccb080a5972edefb2c2038215482b98"), looks := false }, kinds := [], alts := [], laidByText := true, laidKinds := [.data], laidTests := true, laidLooks := .later }
def FactsetRootCardSaid : Prop := Claim7.holds Tryz.pinned (.plain (OpenSpec.ofChange factsetRootSpec)) factsetRootCard

/-- THE TIED CARD OF 'royaltylaw06.FactsetFull'. -/
def factsetFullCard : Claim7 := { stood := { row := factsetFullRow, standIns := [], harness := (true, "174f0919880819b1ab9bb1b3571737aa4ccb080a5972edefb2c2038215482b98"), looks := false }, kinds := [], alts := [], laidByText := true, laidKinds := [.data], laidTests := true, laidLooks := .later }
def FactsetFullCardSaid : Prop := Claim7.holds Tryz.pinned (.plain (OpenSpec.ofChange factsetFullSpec)) factsetFullCard

/-- THE TIED CARD OF 'royaltylaw06.FactsetMatchesReference'. -/
def factsetMatchesReferenceCard : Claim7 := { stood := { row := factsetMatchesReferenceRow, standIns := [], harness := (true, "174f0919880819b1ab9bb1b3571737aa4ccb080a5972edefb2c2038215482b98"), looks := false }, kinds := [], alts := [], laidByText := true, laidKinds := [.data], laidTests := true, laidLooks := .later }
def FactsetMatchesReferenceCardSaid : Prop := Claim7.holds Tryz.pinned (.plain (OpenSpec.ofChange factsetMatchesReferenceSpec)) factsetMatchesReferenceCard

/-- THE TIED CARD OF 'royaltylaw06.FactsetOrder'. -/
def factsetOrderCard : Claim7 := { stood := { row := factsetOrderRow, standIns := [], harness := (true, "174f0919880819b1ab9bb1b3571737aa4ccb080a5972edefb2c2038215482b98"), looks := false }, kinds := [], alts := [], laidByText := true, laidKinds := [.data], laidTests := true, laidLooks := .later }
def FactsetOrderCardSaid : Prop := Claim7.holds Tryz.pinned (.plain (OpenSpec.ofChange factsetOrderSpec)) factsetOrderCard

/-- THE TIED CARD OF 'royaltylaw06.FactsetUnion'. -/
def factsetUnionCard : Claim7 := { stood := { row := factsetUnionRow, standIns := [], harness := (true, "174f0919880819b1ab9bb1b3571737aa4ccb080a5972edefb2c2038215482b98"), looks := false }, kinds := [], alts := [], laidByText := true, laidKinds := [.data], laidTests := true, laidLooks := .later }
def FactsetUnionCardSaid : Prop := Claim7.holds Tryz.pinned (.plain (OpenSpec.ofChange factsetUnionSpec)) factsetUnionCard

/-- THE TIED CARD OF 'royaltylaw06.FactsetPart'. -/
def factsetPartCard : Claim7 := { stood := { row := factsetPartRow, standIns := [], harness := (true, "174f0919880819b1ab9bb1b3571737aa4ccb080a5972edefb2c2038215482b98"), looks := false }, kinds := [], alts := [], laidByText := true, laidKinds := [.data], laidTests := true, laidLooks := .later }
def FactsetPartCardSaid : Prop := Claim7.holds Tryz.pinned (.plain (OpenSpec.ofChange factsetPartSpec)) factsetPartCard

/-- THE TIED CARD OF 'royaltylaw06.FactsetLookups'. -/
def factsetLookupsCard : Claim7 := { stood := { row := factsetLookupsRow, standIns := [], harness := (true, "174f0919880819b1ab9bb1b3571737aa4ccb080a5972edefb2c2038215482b98"), looks := false }, kinds := [], alts := [], laidByText := true, laidKinds := [.data], laidTests := true, laidLooks := .later }
def FactsetLookupsCardSaid : Prop := Claim7.holds Tryz.pinned (.plain (OpenSpec.ofChange factsetLookupsSpec)) factsetLookupsCard

/-- THE TIED CARD OF 'royaltylaw06.FactsetNil'. -/
def factsetNilCard : Claim7 := { stood := { row := factsetNilRow, standIns := [], harness := (true, "174f0919880819b1ab9bb1b3571737aa4ccb080a5972edefb2c2038215482b98"), looks := false }, kinds := [], alts := [], laidByText := true, laidKinds := [.data], laidTests := true, laidLooks := .later }
def FactsetNilCardSaid : Prop := Claim7.holds Tryz.pinned (.plain (OpenSpec.ofChange factsetNilSpec)) factsetNilCard

/-- THE SECOND FORM's CARD OF 'royaltylaw06.FactsetRoot'. -/
def factsetRootUptoCard : Claim7 := { stood := { row := factsetRootUptoRow, standIns := [], harness := (true, "174f0919880819b1ab9bb1b3571737aa4ccb080a5972edefb2c2038215482b98"), looks := false }, kinds := [], alts := [], laidByText := true, laidKinds := [.data], laidTests := true, laidLooks := .later }
def FactsetRootUptoCardSaid : Prop := Claim7.holds Tryz.pinned (.plain (OpenSpec.upto factsetRootSpec)) factsetRootUptoCard

/-- THE SECOND FORM's CARD OF 'royaltylaw06.FactsetFull'. -/
def factsetFullUptoCard : Claim7 := { stood := { row := factsetFullUptoRow, standIns := [], harness := (true, "174f0919880819b1ab9bb1b3571737aa4ccb080a5972edefb2c2038215482b98"), looks := false }, kinds := [], alts := [], laidByText := true, laidKinds := [.data], laidTests := true, laidLooks := .later }
def FactsetFullUptoCardSaid : Prop := Claim7.holds Tryz.pinned (.plain (OpenSpec.upto factsetFullSpec)) factsetFullUptoCard

/-- THE SECOND FORM's CARD OF 'royaltylaw06.FactsetMatchesReference'. -/
def factsetMatchesReferenceUptoCard : Claim7 := { stood := { row := factsetMatchesReferenceUptoRow, standIns := [], harness := (true, "174f0919880819b1ab9bb1b3571737aa4ccb080a5972edefb2c2038215482b98"), looks := false }, kinds := [], alts := [], laidByText := true, laidKinds := [.data], laidTests := true, laidLooks := .later }
def FactsetMatchesReferenceUptoCardSaid : Prop := Claim7.holds Tryz.pinned (.plain (OpenSpec.upto factsetMatchesReferenceSpec)) factsetMatchesReferenceUptoCard

/-- THE SECOND FORM's CARD OF 'royaltylaw06.FactsetOrder'. -/
def factsetOrderUptoCard : Claim7 := { stood := { row := factsetOrderUptoRow, standIns := [], harness := (true, "174f0919880819b1ab9bb1b3571737aa4ccb080a5972edefb2c2038215482b98"), looks := false }, kinds := [], alts := [], laidByText := true, laidKinds := [.data], laidTests := true, laidLooks := .later }
def FactsetOrderUptoCardSaid : Prop := Claim7.holds Tryz.pinned (.plain (OpenSpec.upto factsetOrderSpec)) factsetOrderUptoCard

/-- THE SECOND FORM's CARD OF 'royaltylaw06.FactsetUnion'. -/
def factsetUnionUptoCard : Claim7 := { stood := { row := factsetUnionUptoRow, standIns := [], harness := (true, "174f0919880819b1ab9bb1b3571737aa4ccb080a5972edefb2c2038215482b98"), looks := false }, kinds := [], alts := [], laidByText := true, laidKinds := [.data], laidTests := true, laidLooks := .later }
def FactsetUnionUptoCardSaid : Prop := Claim7.holds Tryz.pinned (.plain (OpenSpec.upto factsetUnionSpec)) factsetUnionUptoCard

/-- THE SECOND FORM's CARD OF 'royaltylaw06.FactsetPart'. -/
def factsetPartUptoCard : Claim7 := { stood := { row := factsetPartUptoRow, standIns := [], harness := (true, "174f0919880819b1ab9bb1b3571737aa4ccb080a5972edefb2c2038215482b98"), looks := false }, kinds := [], alts := [], laidByText := true, laidKinds := [.data], laidTests := true, laidLooks := .later }
def FactsetPartUptoCardSaid : Prop := Claim7.holds Tryz.pinned (.plain (OpenSpec.upto factsetPartSpec)) factsetPartUptoCard

/-- THE SECOND FORM's CARD OF 'royaltylaw06.FactsetLookups'. -/
def factsetLookupsUptoCard : Claim7 := { stood := { row := factsetLookupsUptoRow, standIns := [], harness := (true, "174f0919880819b1ab9bb1b3571737aa4ccb080a5972edefb2c2038215482b98"), looks := false }, kinds := [], alts := [], laidByText := true, laidKinds := [.data], laidTests := true, laidLooks := .later }
def FactsetLookupsUptoCardSaid : Prop := Claim7.holds Tryz.pinned (.plain (OpenSpec.upto factsetLookupsSpec)) factsetLookupsUptoCard

/-- THE SECOND FORM's CARD OF 'royaltylaw06.FactsetNil'. -/
def factsetNilUptoCard : Claim7 := { stood := { row := factsetNilUptoRow, standIns := [], harness := (true, "174f0919880819b1ab9bb1b3571737aa4ccb080a5972edefb2c2038215482b98"), looks := false }, kinds := [], alts := [], laidByText := true, laidKinds := [.data], laidTests := true, laidLooks := .later }
def FactsetNilUptoCardSaid : Prop := Claim7.holds Tryz.pinned (.plain (OpenSpec.upto factsetNilSpec)) factsetNilUptoCard
end Rows
end Go.Proofs.YtnlphbfjeekooaaGreatDoor
