/-
  DERIVED. GIVEN WITH THE SEED: THE CARDS: each row of YtbjakddkfgjkaaaGreatDoorRows.lean that lists a variable, with what it lists TIED to the program's text (the seventh form; the later family's looks); each row that meets fmt, with fmt's text TOLD by the authors' own Lean function (tested against real Go, not proved from fmt's source: count such statements apart). THE CARD IS WHAT COUNTS. Prove the row's statement (the work); the ties are given (YtbjakddkfgjkaaaGreatDoorTie.lean); close each card by the builder's one call (the guide's Derived/Test/ToyasCard.lean, 'card_holds'). Laid BY PROGRAM, IN A SANDBOX (cutbox-door.mjs). By AI agents, Wed Nov 11 2026. No macro, syntax, notation, axiom, sorry.
-/
import Derived.Test.YtbjakddkfgjkaaaGreatDoorRows
import GoSem.ClaimSeven
namespace Go.Proofs.YtbjakddkfgjkaaaGreatDoor
namespace Rows

/-- THE TIED CARD OF 'tackroomtop.TopSame'. -/
def topSameCard : Claim7 := { stood := { row := topSameRow, standIns := [], harness := (true, "612a75e5e0261ead5888d18faa90693200a4a6e932334a3a88761e4d371712f4"), looks := false }, kinds := [], alts := [], laidByText := true, laidKinds := [.data, .data, .data], laidTests := true, laidLooks := .later }
def TopSameCardSaid : Prop := Claim7.holds Tryz.pinned (.plain (OpenSpec.ofChange topSameSpec)) topSameCard

/-- THE TIED CARD OF 'tackroomtop.TopOnce'. -/
def topOnceCard : Claim7 := { stood := { row := topOnceRow, standIns := [], harness := (true, "612a75e5e0261ead5888d18faa90693200a4a6e932334a3a88761e4d371712f4"), looks := false }, kinds := [], alts := [], laidByText := true, laidKinds := [.data, .data, .data], laidTests := true, laidLooks := .later }
def TopOnceCardSaid : Prop := Claim7.holds Tryz.pinned (.plain (OpenSpec.ofChange topOnceSpec)) topOnceCard

/-- THE TIED CARD OF 'tackroomtop.TopReplies'. -/
def topRepliesCard : Claim7 := { stood := { row := topRepliesRow, standIns := [], harness := (true, "612a75e5e0261ead5888d18faa90693200a4a6e932334a3a88761e4d371712f4"), looks := false }, kinds := [], alts := [], laidByText := true, laidKinds := [.data, .data, .data], laidTests := true, laidLooks := .later }
def TopRepliesCardSaid : Prop := Claim7.holds Tryz.pinned (.plain (OpenSpec.ofChange topRepliesSpec)) topRepliesCard

/-- THE TIED CARD OF 'tackroomtop.TopCatch'. -/
def topCatchCard : Claim7 := { stood := { row := topCatchRow, standIns := [], harness := (true, "612a75e5e0261ead5888d18faa90693200a4a6e932334a3a88761e4d371712f4"), looks := false }, kinds := [], alts := [], laidByText := true, laidKinds := [.data, .data, .data], laidTests := true, laidLooks := .later }
def TopCatchCardSaid : Prop := Claim7.holds Tryz.pinned (.plain (OpenSpec.ofChange topCatchSpec)) topCatchCard

/-- THE SECOND FORM's CARD OF 'tackroomtop.TopSame'. -/
def topSameUptoCard : Claim7 := { stood := { row := topSameUptoRow, standIns := [], harness := (true, "612a75e5e0261ead5888d18faa90693200a4a6e932334a3a88761e4d371712f4"), looks := false }, kinds := [], alts := [], laidByText := true, laidKinds := [.data, .data, .data], laidTests := true, laidLooks := .later }
def TopSameUptoCardSaid : Prop := Claim7.holds Tryz.pinned (.plain (OpenSpec.upto topSameSpec)) topSameUptoCard

/-- THE SECOND FORM's CARD OF 'tackroomtop.TopOnce'. -/
def topOnceUptoCard : Claim7 := { stood := { row := topOnceUptoRow, standIns := [], harness := (true, "612a75e5e0261ead5888d18faa90693200a4a6e932334a3a88761e4d371712f4"), looks := false }, kinds := [], alts := [], laidByText := true, laidKinds := [.data, .data, .data], laidTests := true, laidLooks := .later }
def TopOnceUptoCardSaid : Prop := Claim7.holds Tryz.pinned (.plain (OpenSpec.upto topOnceSpec)) topOnceUptoCard

/-- THE SECOND FORM's CARD OF 'tackroomtop.TopReplies'. -/
def topRepliesUptoCard : Claim7 := { stood := { row := topRepliesUptoRow, standIns := [], harness := (true, "612a75e5e0261ead5888d18faa90693200a4a6e932334a3a88761e4d371712f4"), looks := false }, kinds := [], alts := [], laidByText := true, laidKinds := [.data, .data, .data], laidTests := true, laidLooks := .later }
def TopRepliesUptoCardSaid : Prop := Claim7.holds Tryz.pinned (.plain (OpenSpec.upto topRepliesSpec)) topRepliesUptoCard

/-- THE SECOND FORM's CARD OF 'tackroomtop.TopCatch'. -/
def topCatchUptoCard : Claim7 := { stood := { row := topCatchUptoRow, standIns := [], harness := (true, "612a75e5e0261ead5888d18faa90693200a4a6e932334a3a88761e4d371712f4"), looks := false }, kinds := [], alts := [], laidByText := true, laidKinds := [.data, .data, .data], laidTests := true, laidLooks := .later }
def TopCatchUptoCardSaid : Prop := Claim7.holds Tryz.pinned (.plain (OpenSpec.upto topCatchSpec)) topCatchUptoCard
end Rows
end Go.Proofs.YtbjakddkfgjkaaaGreatDoor
