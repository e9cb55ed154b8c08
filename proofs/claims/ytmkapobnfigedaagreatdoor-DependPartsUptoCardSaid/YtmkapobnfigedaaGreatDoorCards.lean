/-
  DERIVED. GIVEN WITH THE SEED: THE CARDS: each row of YtmkapobnfigedaaGreatDoorRows.lean that lists a variable, with what it lists TIED to the program's text (the seventh form; the later family's looks); each row that meets fmt, with fmt's text TOLD by the authors' own Lean function (tested against real Go, not proved from fmt's source: count such statements apart). THE CARD IS WHAT COUNTS. Prove the row's statement (the work); the ties are given (YtmkapobnfigedaaGreatDoorTie.lean); close each card by the builder's one call (the guide's Derived/Test/ToyasCard.lean, 'card_holds'). Laid BY PROGRAM, IN A SANDBOX (cutbox-door.mjs). By AI agents, Wed Nov 11 2026. No macro, syntax, notation, axiom, sorry.
-/
import Derived.Test.YtmkapobnfigedaaGreatDoorRows
import GoSem.ClaimSeven
namespace Go.Proofs.YtmkapobnfigedaaGreatDoor
namespace Rows

/-- THE TIED CARD OF 'concourselaw15.DependKeys'. -/
def dependKeysCard : Claim7 := { stood := { row := dependKeysRow, standIns := [], harness := (true, "e32a06bcfa5a7c56b57ddf26a6a7d3124450f49cd47f9d7744e2e49476066dbf"), looks := true }, kinds := [], alts := [], laidByText := true, laidKinds := [.data, .data, .data], laidTests := true, laidLooks := .later }
def DependKeysCardSaid : Prop := Claim7.holds Tryz.pinned (.plain (OpenSpec.ofChange dependKeysSpec)) dependKeysCard

/-- THE TIED CARD OF 'concourselaw15.DependParts'. -/
def dependPartsCard : Claim7 := { stood := { row := dependPartsRow, standIns := [], harness := (true, "e32a06bcfa5a7c56b57ddf26a6a7d3124450f49cd47f9d7744e2e49476066dbf"), looks := true }, kinds := [], alts := [], laidByText := true, laidKinds := [.data, .data, .data], laidTests := true, laidLooks := .later }
def DependPartsCardSaid : Prop := Claim7.holds Tryz.pinned (.plain (OpenSpec.ofChange dependPartsSpec)) dependPartsCard

/-- THE TIED CARD OF 'concourselaw15.DependLeast'. -/
def dependLeastCard : Claim7 := { stood := { row := dependLeastRow, standIns := [], harness := (true, "e32a06bcfa5a7c56b57ddf26a6a7d3124450f49cd47f9d7744e2e49476066dbf"), looks := true }, kinds := [], alts := [], laidByText := true, laidKinds := [.data, .data, .data], laidTests := true, laidLooks := .later }
def DependLeastCardSaid : Prop := Claim7.holds Tryz.pinned (.plain (OpenSpec.ofChange dependLeastSpec)) dependLeastCard

/-- THE TIED CARD OF 'concourselaw15.DependAlone'. -/
def dependAloneCard : Claim7 := { stood := { row := dependAloneRow, standIns := [], harness := (true, "e32a06bcfa5a7c56b57ddf26a6a7d3124450f49cd47f9d7744e2e49476066dbf"), looks := true }, kinds := [], alts := [], laidByText := true, laidKinds := [.data, .data, .data], laidTests := true, laidLooks := .later }
def DependAloneCardSaid : Prop := Claim7.holds Tryz.pinned (.plain (OpenSpec.ofChange dependAloneSpec)) dependAloneCard

/-- THE TIED CARD OF 'concourselaw15.DependPairs'. -/
def dependPairsCard : Claim7 := { stood := { row := dependPairsRow, standIns := [], harness := (true, "e32a06bcfa5a7c56b57ddf26a6a7d3124450f49cd47f9d7744e2e49476066dbf"), looks := true }, kinds := [], alts := [], laidByText := true, laidKinds := [.data, .data, .data], laidTests := true, laidLooks := .later }
def DependPairsCardSaid : Prop := Claim7.holds Tryz.pinned (.plain (OpenSpec.ofChange dependPairsSpec)) dependPairsCard

/-- THE TIED CARD OF 'concourselaw15.DependLooks'. -/
def dependLooksCard : Claim7 := { stood := { row := dependLooksRow, standIns := [], harness := (true, "e32a06bcfa5a7c56b57ddf26a6a7d3124450f49cd47f9d7744e2e49476066dbf"), looks := true }, kinds := [], alts := [], laidByText := true, laidKinds := [.data, .data, .data], laidTests := true, laidLooks := .later }
def DependLooksCardSaid : Prop := Claim7.holds Tryz.pinned (.plain (OpenSpec.ofChange dependLooksSpec)) dependLooksCard

/-- THE TIED CARD OF 'concourselaw15.DependEither'. -/
def dependEitherCard : Claim7 := { stood := { row := dependEitherRow, standIns := [], harness := (true, "e32a06bcfa5a7c56b57ddf26a6a7d3124450f49cd47f9d7744e2e49476066dbf"), looks := true }, kinds := [], alts := [], laidByText := true, laidKinds := [.data, .data, .data], laidTests := true, laidLooks := .later }
def DependEitherCardSaid : Prop := Claim7.holds Tryz.pinned (.plain (OpenSpec.ofChange dependEitherSpec)) dependEitherCard

/-- THE SECOND FORM's CARD OF 'concourselaw15.DependKeys'. -/
def dependKeysUptoCard : Claim7 := { stood := { row := dependKeysUptoRow, standIns := [], harness := (true, "e32a06bcfa5a7c56b57ddf26a6a7d3124450f49cd47f9d7744e2e49476066dbf"), looks := true }, kinds := [], alts := [], laidByText := true, laidKinds := [.data, .data, .data], laidTests := true, laidLooks := .later }
def DependKeysUptoCardSaid : Prop := Claim7.holds Tryz.pinned (.plain (OpenSpec.upto dependKeysSpec)) dependKeysUptoCard

/-- THE SECOND FORM's CARD OF 'concourselaw15.DependParts'. -/
def dependPartsUptoCard : Claim7 := { stood := { row := dependPartsUptoRow, standIns := [], harness := (true, "e32a06bcfa5a7c56b57ddf26a6a7d3124450f49cd47f9d7744e2e49476066dbf"), looks := true }, kinds := [], alts := [], laidByText := true, laidKinds := [.data, .data, .data], laidTests := true, laidLooks := .later }
def DependPartsUptoCardSaid : Prop := Claim7.holds Tryz.pinned (.plain (OpenSpec.upto dependPartsSpec)) dependPartsUptoCard

/-- THE SECOND FORM's CARD OF 'concourselaw15.DependLeast'. -/
def dependLeastUptoCard : Claim7 := { stood := { row := dependLeastUptoRow, standIns := [], harness := (true, "e32a06bcfa5a7c56b57ddf26a6a7d3124450f49cd47f9d7744e2e49476066dbf"), looks := true }, kinds := [], alts := [], laidByText := true, laidKinds := [.data, .data, .data], laidTests := true, laidLooks := .later }
def DependLeastUptoCardSaid : Prop := Claim7.holds Tryz.pinned (.plain (OpenSpec.upto dependLeastSpec)) dependLeastUptoCard

/-- THE SECOND FORM's CARD OF 'concourselaw15.DependAlone'. -/
def dependAloneUptoCard : Claim7 := { stood := { row := dependAloneUptoRow, standIns := [], harness := (true, "e32a06bcfa5a7c56b57ddf26a6a7d3124450f49cd47f9d7744e2e49476066dbf"), looks := true }, kinds := [], alts := [], laidByText := true, laidKinds := [.data, .data, .data], laidTests := true, laidLooks := .later }
def DependAloneUptoCardSaid : Prop := Claim7.holds Tryz.pinned (.plain (OpenSpec.upto dependAloneSpec)) dependAloneUptoCard

/-- THE SECOND FORM's CARD OF 'concourselaw15.DependPairs'. -/
def dependPairsUptoCard : Claim7 := { stood := { row := dependPairsUptoRow, standIns := [], harness := (true, "e32a06bcfa5a7c56b57ddf26a6a7d3124450f49cd47f9d7744e2e49476066dbf"), looks := true }, kinds := [], alts := [], laidByText := true, laidKinds := [.data, .data, .data], laidTests := true, laidLooks := .later }
def DependPairsUptoCardSaid : Prop := Claim7.holds Tryz.pinned (.plain (OpenSpec.upto dependPairsSpec)) dependPairsUptoCard

/-- THE SECOND FORM's CARD OF 'concourselaw15.DependLooks'. -/
def dependLooksUptoCard : Claim7 := { stood := { row := dependLooksUptoRow, standIns := [], harness := (true, "e32a06bcfa5a7c56b57ddf26a6a7d3124450f49cd47f9d7744e2e49476066dbf"), looks := true }, kinds := [], alts := [], laidByText := true, laidKinds := [.data, .data, .data], laidTests := true, laidLooks := .later }
def DependLooksUptoCardSaid : Prop := Claim7.holds Tryz.pinned (.plain (OpenSpec.upto dependLooksSpec)) dependLooksUptoCard

/-- THE SECOND FORM's CARD OF 'concourselaw15.DependEither'. -/
def dependEitherUptoCard : Claim7 := { stood := { row := dependEitherUptoRow, standIns := [], harness := (true, "e32a06bcfa5a7c56b57ddf26a6a7d3124450f49cd47f9d7744e2e49476066dbf"), looks := true }, kinds := [], alts := [], laidByText := true, laidKinds := [.data, .data, .data], laidTests := true, laidLooks := .later }
def DependEitherUptoCardSaid : Prop := Claim7.holds Tryz.pinned (.plain (OpenSpec.upto dependEitherSpec)) dependEitherUptoCard
end Rows
end Go.Proofs.YtmkapobnfigedaaGreatDoor
