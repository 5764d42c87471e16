/-
  DERIVED. GIVEN WITH THE SEED: THE CARDS: each row of YtbapmfghipcebaaGreatDoorRows.lean that lists a variable, with what it lists TIED to the program's text (the seventh form; the later family's looks); each row that meets fmt, with fmt's text TOLD by the authors' own Lean function (tested against real Go, not proved from fmt's source: count such statements apart). THE CARD IS WHAT COUNTS. Prove the row's statement (the work); the ties are given (YtbapmfghipcebaaGreatDoorTie.lean); close each card by the builder's one call (the guide's Derived/Test/ToyasCard.lean, 'card_holds'). Laid BY PROGRAM, IN A SANDBOX (cutbox-door.mjs). By AI agents, Wed Nov 11 2026. No macro, syntax, notation, axiom, sorry.
-/
import Derived.Test.YtbapmfghipcebaaGreatDoorRows
import GoSem.ClaimSeven
namespace Go.Proofs.YtbapmfghipcebaaGreatDoor
namespace Rows

/-- THE TIED CARD OF 'descantlaw22.SegmentBurst'. -/
def segmentBurstCard : Claim7 := { stood := { row := segmentBurstRow, standIns := [], harness := (true, "e67ac60c5a03e72a10925eb3d24ef3fcb8e1524baec1a496fc5ecd8c02a4d9a3"), looks := false }, kinds := [], alts := [], laidByText := true, laidKinds := [.data, .data, .data], laidTests := true, laidLooks := .later }
def SegmentBurstCardSaid : Prop := Claim7.holds Tryz.pinned (.plain (OpenSpec.ofChange segmentBurstSpec)) segmentBurstCard

/-- THE TIED CARD OF 'descantlaw22.SegmentForms'. -/
def segmentFormsCard : Claim7 := { stood := { row := segmentFormsRow, standIns := [], harness := (true, "e67ac60c5a03e72a10925eb3d24ef3fcb8e1524baec1a496fc5ecd8c02a4d9a3"), looks := false }, kinds := [], alts := [], laidByText := true, laidKinds := [.data, .data, .data], laidTests := true, laidLooks := .later }
def SegmentFormsCardSaid : Prop := Claim7.holds Tryz.pinned (.plain (OpenSpec.ofChange segmentFormsSpec)) segmentFormsCard

/-- THE TIED CARD OF 'descantlaw22.SegmentBounds'. -/
def segmentBoundsCard : Claim7 := { stood := { row := segmentBoundsRow, standIns := [], harness := (true, "e67ac60c5a03e72a10925eb3d24ef3fcb8e1524baec1a496fc5ecd8c02a4d9a3"), looks := false }, kinds := [], alts := [], laidByText := true, laidKinds := [.data, .data, .data], laidTests := true, laidLooks := .later }
def SegmentBoundsCardSaid : Prop := Claim7.holds Tryz.pinned (.plain (OpenSpec.ofChange segmentBoundsSpec)) segmentBoundsCard

/-- THE TIED CARD OF 'descantlaw22.SegmentKinds'. -/
def segmentKindsCard : Claim7 := { stood := { row := segmentKindsRow, standIns := [], harness := (true, "e67ac60c5a03e72a10925eb3d24ef3fcb8e1524baec1a496fc5ecd8c02a4d9a3"), looks := false }, kinds := [], alts := [], laidByText := true, laidKinds := [.data, .data, .data], laidTests := true, laidLooks := .later }
def SegmentKindsCardSaid : Prop := Claim7.holds Tryz.pinned (.plain (OpenSpec.ofChange segmentKindsSpec)) segmentKindsCard

/-- THE TIED CARD OF 'descantlaw22.SegmentWaste'. -/
def segmentWasteCard : Claim7 := { stood := { row := segmentWasteRow, standIns := [], harness := (true, "e67ac60c5a03e72a10925eb3d24ef3fcb8e1524baec1a496fc5ecd8c02a4d9a3"), looks := false }, kinds := [], alts := [], laidByText := true, laidKinds := [.data, .data, .data], laidTests := true, laidLooks := .later }
def SegmentWasteCardSaid : Prop := Claim7.holds Tryz.pinned (.plain (OpenSpec.ofChange segmentWasteSpec)) segmentWasteCard

/-- THE TIED CARD OF 'descantlaw22.SegmentUnlike'. -/
def segmentUnlikeCard : Claim7 := { stood := { row := segmentUnlikeRow, standIns := [], harness := (true, "e67ac60c5a03e72a10925eb3d24ef3fcb8e1524baec1a496fc5ecd8c02a4d9a3"), looks := false }, kinds := [], alts := [], laidByText := true, laidKinds := [.data, .data, .data], laidTests := true, laidLooks := .later }
def SegmentUnlikeCardSaid : Prop := Claim7.holds Tryz.pinned (.plain (OpenSpec.ofChange segmentUnlikeSpec)) segmentUnlikeCard

/-- THE TIED CARD OF 'descantlaw22.SegmentOther'. -/
def segmentOtherCard : Claim7 := { stood := { row := segmentOtherRow, standIns := [], harness := (true, "e67ac60c5a03e72a10925eb3d24ef3fcb8e1524baec1a496fc5ecd8c02a4d9a3"), looks := false }, kinds := [], alts := [], laidByText := true, laidKinds := [.data, .data, .data], laidTests := true, laidLooks := .later }
def SegmentOtherCardSaid : Prop := Claim7.holds Tryz.pinned (.plain (OpenSpec.ofChange segmentOtherSpec)) segmentOtherCard

/-- THE TIED CARD OF 'descantlaw22.SegmentOne'. -/
def segmentOneCard : Claim7 := { stood := { row := segmentOneRow, standIns := [], harness := (true, "e67ac60c5a03e72a10925eb3d24ef3fcb8e1524baec1a496fc5ecd8c02a4d9a3"), looks := false }, kinds := [], alts := [], laidByText := true, laidKinds := [.data, .data, .data], laidTests := true, laidLooks := .later }
def SegmentOneCardSaid : Prop := Claim7.holds Tryz.pinned (.plain (OpenSpec.ofChange segmentOneSpec)) segmentOneCard

/-- THE SECOND FORM's CARD OF 'descantlaw22.SegmentBurst'. -/
def segmentBurstUptoCard : Claim7 := { stood := { row := segmentBurstUptoRow, standIns := [], harness := (true, "e67ac60c5a03e72a10925eb3d24ef3fcb8e1524baec1a496fc5ecd8c02a4d9a3"), looks := false }, kinds := [], alts := [], laidByText := true, laidKinds := [.data, .data, .data], laidTests := true, laidLooks := .later }
def SegmentBurstUptoCardSaid : Prop := Claim7.holds Tryz.pinned (.plain (OpenSpec.upto segmentBurstSpec)) segmentBurstUptoCard

/-- THE SECOND FORM's CARD OF 'descantlaw22.SegmentForms'. -/
def segmentFormsUptoCard : Claim7 := { stood := { row := segmentFormsUptoRow, standIns := [], harness := (true, "e67ac60c5a03e72a10925eb3d24ef3fcb8e1524baec1a496fc5ecd8c02a4d9a3"), looks := false }, kinds := [], alts := [], laidByText := true, laidKinds := [.data, .data, .data], laidTests := true, laidLooks := .later }
def SegmentFormsUptoCardSaid : Prop := Claim7.holds Tryz.pinned (.plain (OpenSpec.upto segmentFormsSpec)) segmentFormsUptoCard

/-- THE SECOND FORM's CARD OF 'descantlaw22.SegmentBounds'. -/
def segmentBoundsUptoCard : Claim7 := { stood := { row := segmentBoundsUptoRow, standIns := [], harness := (true, "e67ac60c5a03e72a10925eb3d24ef3fcb8e1524baec1a496fc5ecd8c02a4d9a3"), looks := false }, kinds := [], alts := [], laidByText := true, laidKinds := [.data, .data, .data], laidTests := true, laidLooks := .later }
def SegmentBoundsUptoCardSaid : Prop := Claim7.holds Tryz.pinned (.plain (OpenSpec.upto segmentBoundsSpec)) segmentBoundsUptoCard

/-- THE SECOND FORM's CARD OF 'descantlaw22.SegmentKinds'. -/
def segmentKindsUptoCard : Claim7 := { stood := { row := segmentKindsUptoRow, standIns := [], harness := (true, "e67ac60c5a03e72a10925eb3d24ef3fcb8e1524baec1a496fc5ecd8c02a4d9a3"), looks := false }, kinds := [], alts := [], laidByText := true, laidKinds := [.data, .data, .data], laidTests := true, laidLooks := .later }
def SegmentKindsUptoCardSaid : Prop := Claim7.holds Tryz.pinned (.plain (OpenSpec.upto segmentKindsSpec)) segmentKindsUptoCard

/-- THE SECOND FORM's CARD OF 'descantlaw22.SegmentWaste'. -/
def segmentWasteUptoCard : Claim7 := { stood := { row := segmentWasteUptoRow, standIns := [], harness := (true, "e67ac60c5a03e72a10925eb3d24ef3fcb8e1524baec1a496fc5ecd8c02a4d9a3"), looks := false }, kinds := [], alts := [], laidByText := true, laidKinds := [.data, .data, .data], laidTests := true, laidLooks := .later }
def SegmentWasteUptoCardSaid : Prop := Claim7.holds Tryz.pinned (.plain (OpenSpec.upto segmentWasteSpec)) segmentWasteUptoCard

/-- THE SECOND FORM's CARD OF 'descantlaw22.SegmentUnlike'. -/
def segmentUnlikeUptoCard : Claim7 := { stood := { row := segmentUnlikeUptoRow, standIns := [], harness := (true, "e67ac60c5a03e72a10925eb3d24ef3fcb8e1524baec1a496fc5ecd8c02a4d9a3"), looks := false }, kinds := [], alts := [], laidByText := true, laidKinds := [.data, .data, .data], laidTests := true, laidLooks := .later }
def SegmentUnlikeUptoCardSaid : Prop := Claim7.holds Tryz.pinned (.plain (OpenSpec.upto segmentUnlikeSpec)) segmentUnlikeUptoCard

/-- THE SECOND FORM's CARD OF 'descantlaw22.SegmentOther'. -/
def segmentOtherUptoCard : Claim7 := { stood := { row := segmentOtherUptoRow, standIns := [], harness := (true, "e67ac60c5a03e72a10925eb3d24ef3fcb8e1524baec1a496fc5ecd8c02a4d9a3"), looks := false }, kinds := [], alts := [], laidByText := true, laidKinds := [.data, .data, .data], laidTests := true, laidLooks := .later }
def SegmentOtherUptoCardSaid : Prop := Claim7.holds Tryz.pinned (.plain (OpenSpec.upto segmentOtherSpec)) segmentOtherUptoCard

/-- THE SECOND FORM's CARD OF 'descantlaw22.SegmentOne'. -/
def segmentOneUptoCard : Claim7 := { stood := { row := segmentOneUptoRow, standIns := [], harness := (true, "e67ac60c5a03e72a10925eb3d24ef3fcb8e1524baec1a496fc5ecd8c02a4d9a3"), looks := false }, kinds := [], alts := [], laidByText := true, laidKinds := [.data, .data, .data], laidTests := true, laidLooks := .later }
def SegmentOneUptoCardSaid : Prop := Claim7.holds Tryz.pinned (.plain (OpenSpec.upto segmentOneSpec)) segmentOneUptoCard
end Rows
end Go.Proofs.YtbapmfghipcebaaGreatDoor
