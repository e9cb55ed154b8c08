/-
  DERIVED. GIVEN WITH THE SEED: THE CARDS: each row of YtjkenolgkkknaaaGreatDoorRows.lean that lists a variable, with what it lists TIED to the program's text (the seventh form; the later family's looks); each row that meets fmt, with fmt's text TOLD by the authors' own Lean function (tested against real Go, not proved from fmt's source: count such statements apart). THE CARD IS WHAT COUNTS. Prove the row's statement (the work); the ties are given (YtjkenolgkkknaaaGreatDoorTie.lean); close each card by the builder's one call (the guide's Derived/Test/ToyasCard.lean, 'card_holds'). Laid BY PROGRAM, IN A SANDBOX (cutbox-door.mjs). By AI agents, Wed Nov 11 2026. No macro, syntax, notation, axiom, sorry.
-/
import Derived.Test.YtjkenolgkkknaaaGreatDoorRows
import GoSem.ClaimSeven
namespace Go.Proofs.YtjkenolgkkknaaaGreatDoor
namespace Rows

/-- THE TIED CARD OF 'concourselaw24.CommutePairs'. -/
def commutePairsCard : Claim7 := { stood := { row := commutePairsRow, standIns := [], harness := (true, "0f5d4dacf9ce65686671c0f13a54115dc827369c2619eb707281170696ae9348"), looks := true }, kinds := [], alts := [], laidByText := true, laidKinds := [.data, .data, .data], laidTests := true, laidLooks := .later }
def CommutePairsCardSaid : Prop := Claim7.holds Tryz.pinned (.plain (OpenSpec.ofChange commutePairsSpec)) commutePairsCard

/-- THE TIED CARD OF 'concourselaw24.CommuteCores'. -/
def commuteCoresCard : Claim7 := { stood := { row := commuteCoresRow, standIns := [], harness := (true, "0f5d4dacf9ce65686671c0f13a54115dc827369c2619eb707281170696ae9348"), looks := true }, kinds := [], alts := [], laidByText := true, laidKinds := [.data, .data, .data], laidTests := true, laidLooks := .later }
def CommuteCoresCardSaid : Prop := Claim7.holds Tryz.pinned (.plain (OpenSpec.ofChange commuteCoresSpec)) commuteCoresCard

/-- THE TIED CARD OF 'concourselaw24.CommuteLooks'. -/
def commuteLooksCard : Claim7 := { stood := { row := commuteLooksRow, standIns := [], harness := (true, "0f5d4dacf9ce65686671c0f13a54115dc827369c2619eb707281170696ae9348"), looks := true }, kinds := [], alts := [], laidByText := true, laidKinds := [.data, .data, .data], laidTests := true, laidLooks := .later }
def CommuteLooksCardSaid : Prop := Claim7.holds Tryz.pinned (.plain (OpenSpec.ofChange commuteLooksSpec)) commuteLooksCard

/-- THE TIED CARD OF 'concourselaw24.CommuteTwo'. -/
def commuteTwoCard : Claim7 := { stood := { row := commuteTwoRow, standIns := [], harness := (true, "0f5d4dacf9ce65686671c0f13a54115dc827369c2619eb707281170696ae9348"), looks := true }, kinds := [], alts := [], laidByText := true, laidKinds := [.data, .data, .data], laidTests := true, laidLooks := .later }
def CommuteTwoCardSaid : Prop := Claim7.holds Tryz.pinned (.plain (OpenSpec.ofChange commuteTwoSpec)) commuteTwoCard

/-- THE SECOND FORM's CARD OF 'concourselaw24.CommutePairs'. -/
def commutePairsUptoCard : Claim7 := { stood := { row := commutePairsUptoRow, standIns := [], harness := (true, "0f5d4dacf9ce65686671c0f13a54115dc827369c2619eb707281170696ae9348"), looks := true }, kinds := [], alts := [], laidByText := true, laidKinds := [.data, .data, .data], laidTests := true, laidLooks := .later }
def CommutePairsUptoCardSaid : Prop := Claim7.holds Tryz.pinned (.plain (OpenSpec.upto commutePairsSpec)) commutePairsUptoCard

/-- THE SECOND FORM's CARD OF 'concourselaw24.CommuteCores'. -/
def commuteCoresUptoCard : Claim7 := { stood := { row := commuteCoresUptoRow, standIns := [], harness := (true, "0f5d4dacf9ce65686671c0f13a54115dc827369c2619eb707281170696ae9348"), looks := true }, kinds := [], alts := [], laidByText := true, laidKinds := [.data, .data, .data], laidTests := true, laidLooks := .later }
def CommuteCoresUptoCardSaid : Prop := Claim7.holds Tryz.pinned (.plain (OpenSpec.upto commuteCoresSpec)) commuteCoresUptoCard

/-- THE SECOND FORM's CARD OF 'concourselaw24.CommuteLooks'. -/
def commuteLooksUptoCard : Claim7 := { stood := { row := commuteLooksUptoRow, standIns := [], harness := (true, "0f5d4dacf9ce65686671c0f13a54115dc827369c2619eb707281170696ae9348"), looks := true }, kinds := [], alts := [], laidByText := true, laidKinds := [.data, .data, .data], laidTests := true, laidLooks := .later }
def CommuteLooksUptoCardSaid : Prop := Claim7.holds Tryz.pinned (.plain (OpenSpec.upto commuteLooksSpec)) commuteLooksUptoCard

/-- THE SECOND FORM's CARD OF 'concourselaw24.CommuteTwo'. -/
def commuteTwoUptoCard : Claim7 := { stood := { row := commuteTwoUptoRow, standIns := [], harness := (true, "0f5d4dacf9ce65686671c0f13a54115dc827369c2619eb707281170696ae9348"), looks := true }, kinds := [], alts := [], laidByText := true, laidKinds := [.data, .data, .data], laidTests := true, laidLooks := .later }
def CommuteTwoUptoCardSaid : Prop := Claim7.holds Tryz.pinned (.plain (OpenSpec.upto commuteTwoSpec)) commuteTwoUptoCard
end Rows
end Go.Proofs.YtjkenolgkkknaaaGreatDoor
