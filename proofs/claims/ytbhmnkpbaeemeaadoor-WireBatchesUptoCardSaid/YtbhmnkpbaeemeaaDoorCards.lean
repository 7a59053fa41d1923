/-
  DERIVED. GIVEN WITH THE SEED: THE CARDS: each row of YtbhmnkpbaeemeaaDoorRows.lean that lists a variable, with what it lists TIED to the program's text (the seventh form; the later family's looks); each row that meets fmt, with fmt's text TOLD by the authors' own Lean function (tested against real Go, not proved from fmt's source: count such statements apart). THE CARD IS WHAT COUNTS. Prove the row's statement (the work); the ties are given (YtbhmnkpbaeemeaaDoorTie.lean); close each card by the builder's one call (the guide's Derived/Test/ToyasCard.lean, 'card_holds'). Laid BY PROGRAM, IN A SANDBOX (cutbox-door.mjs). By AI agents, Wed Nov 11 2026. No macro, syntax, notation, axiom, sorry.
-/
import Derived.Test.YtbhmnkpbaeemeaaDoorRows
import GoSem.ClaimSeven
namespace Go.Proofs.YtbhmnkpbaeemeaaDoor
namespace Rows

/-- THE TIED CARD OF 'quorumlaw1.WireSums'. -/
def wireSumsCard : Claim7 := { stood := { row := wireSumsRow, standIns := [], harness := (true, "0d14426e5db0fe2e9996d2b65c714a18fcc0dff074072910dad9c6ea9daa0017"), looks := true }, kinds := [], alts := [], laidByText := true, laidKinds := [.data], laidTests := true, laidLooks := .later }
def WireSumsCardSaid : Prop := Claim7.holds Tryd.pinned (.plain (OpenSpec.ofChange wireSumsSpec)) wireSumsCard

/-- THE TIED CARD OF 'quorumlaw1.WireFrames'. -/
def wireFramesCard : Claim7 := { stood := { row := wireFramesRow, standIns := [], harness := (true, "0d14426e5db0fe2e9996d2b65c714a18fcc0dff074072910dad9c6ea9daa0017"), looks := true }, kinds := [], alts := [], laidByText := true, laidKinds := [.data], laidTests := true, laidLooks := .later }
def WireFramesCardSaid : Prop := Claim7.holds Tryd.pinned (.plain (OpenSpec.ofChange wireFramesSpec)) wireFramesCard

/-- THE TIED CARD OF 'quorumlaw1.WireOdd'. -/
def wireOddCard : Claim7 := { stood := { row := wireOddRow, standIns := [], harness := (true, "0d14426e5db0fe2e9996d2b65c714a18fcc0dff074072910dad9c6ea9daa0017"), looks := true }, kinds := [], alts := [], laidByText := true, laidKinds := [.data], laidTests := true, laidLooks := .later }
def WireOddCardSaid : Prop := Claim7.holds Tryd.pinned (.plain (OpenSpec.ofChange wireOddSpec)) wireOddCard

/-- THE TIED CARD OF 'quorumlaw1.WireWrites'. -/
def wireWritesCard : Claim7 := { stood := { row := wireWritesRow, standIns := [], harness := (true, "0d14426e5db0fe2e9996d2b65c714a18fcc0dff074072910dad9c6ea9daa0017"), looks := true }, kinds := [], alts := [], laidByText := true, laidKinds := [.data, .pinned], laidTests := true, laidLooks := .later }
def WireWritesCardSaid : Prop := Claim7.holds Tryd.pinned (.plain (OpenSpec.ofChange wireWritesSpec)) wireWritesCard

/-- THE TIED CARD OF 'quorumlaw1.WireReads'. -/
def wireReadsCard : Claim7 := { stood := { row := wireReadsRow, standIns := [], harness := (true, "0d14426e5db0fe2e9996d2b65c714a18fcc0dff074072910dad9c6ea9daa0017"), looks := true }, kinds := [], alts := [], laidByText := true, laidKinds := [.data, .pinned], laidTests := true, laidLooks := .later }
def WireReadsCardSaid : Prop := Claim7.holds Tryd.pinned (.plain (OpenSpec.ofChange wireReadsSpec)) wireReadsCard

/-- THE TIED CARD OF 'quorumlaw1.WireStream'. -/
def wireStreamCard : Claim7 := { stood := { row := wireStreamRow, standIns := [], harness := (true, "0d14426e5db0fe2e9996d2b65c714a18fcc0dff074072910dad9c6ea9daa0017"), looks := true }, kinds := [], alts := [], laidByText := true, laidKinds := [.data, .pinned], laidTests := true, laidLooks := .later }
def WireStreamCardSaid : Prop := Claim7.holds Tryd.pinned (.plain (OpenSpec.ofChange wireStreamSpec)) wireStreamCard

/-- THE TIED CARD OF 'quorumlaw1.WireBatches'. -/
def wireBatchesCard : Claim7 := { stood := { row := wireBatchesRow, standIns := [], harness := (true, "0d14426e5db0fe2e9996d2b65c714a18fcc0dff074072910dad9c6ea9daa0017"), looks := true }, kinds := [], alts := [], laidByText := true, laidKinds := [.data, .pinned], laidTests := true, laidLooks := .later }
def WireBatchesCardSaid : Prop := Claim7.holds Tryd.pinned (.plain (OpenSpec.ofChange wireBatchesSpec)) wireBatchesCard

/-- THE TIED CARD OF 'quorumlaw1.WireRecords'. -/
def wireRecordsCard : Claim7 := { stood := { row := wireRecordsRow, standIns := [], harness := (true, "0d14426e5db0fe2e9996d2b65c714a18fcc0dff074072910dad9c6ea9daa0017"), looks := true }, kinds := [], alts := [], laidByText := true, laidKinds := [.data, .data, .pinned], laidTests := true, laidLooks := .later }
def WireRecordsCardSaid : Prop := Claim7.holds Tryd.pinned (.plain (OpenSpec.ofChange wireRecordsSpec)) wireRecordsCard

/-- THE TIED CARD OF 'quorumlaw1.WireBurst'. -/
def wireBurstCard : Claim7 := { stood := { row := wireBurstRow, standIns := [], harness := (true, "0d14426e5db0fe2e9996d2b65c714a18fcc0dff074072910dad9c6ea9daa0017"), looks := true }, kinds := [], alts := [], laidByText := true, laidKinds := [.data, .data, .pinned], laidTests := true, laidLooks := .later }
def WireBurstCardSaid : Prop := Claim7.holds Tryd.pinned (.plain (OpenSpec.ofChange wireBurstSpec)) wireBurstCard

/-- THE TIED CARD OF 'quorumlaw1.WireApart'. -/
def wireApartCard : Claim7 := { stood := { row := wireApartRow, standIns := [], harness := (true, "0d14426e5db0fe2e9996d2b65c714a18fcc0dff074072910dad9c6ea9daa0017"), looks := true }, kinds := [], alts := [], laidByText := true, laidKinds := [.data, .data, .pinned], laidTests := true, laidLooks := .later }
def WireApartCardSaid : Prop := Claim7.holds Tryd.pinned (.plain (OpenSpec.ofChange wireApartSpec)) wireApartCard

/-- THE SECOND FORM's CARD OF 'quorumlaw1.WireSums'. -/
def wireSumsUptoCard : Claim7 := { stood := { row := wireSumsUptoRow, standIns := [], harness := (true, "0d14426e5db0fe2e9996d2b65c714a18fcc0dff074072910dad9c6ea9daa0017"), looks := true }, kinds := [], alts := [], laidByText := true, laidKinds := [.data], laidTests := true, laidLooks := .later }
def WireSumsUptoCardSaid : Prop := Claim7.holds Tryd.pinned (.plain (OpenSpec.upto wireSumsSpec)) wireSumsUptoCard

/-- THE SECOND FORM's CARD OF 'quorumlaw1.WireFrames'. -/
def wireFramesUptoCard : Claim7 := { stood := { row := wireFramesUptoRow, standIns := [], harness := (true, "0d14426e5db0fe2e9996d2b65c714a18fcc0dff074072910dad9c6ea9daa0017"), looks := true }, kinds := [], alts := [], laidByText := true, laidKinds := [.data], laidTests := true, laidLooks := .later }
def WireFramesUptoCardSaid : Prop := Claim7.holds Tryd.pinned (.plain (OpenSpec.upto wireFramesSpec)) wireFramesUptoCard

/-- THE SECOND FORM's CARD OF 'quorumlaw1.WireOdd'. -/
def wireOddUptoCard : Claim7 := { stood := { row := wireOddUptoRow, standIns := [], harness := (true, "0d14426e5db0fe2e9996d2b65c714a18fcc0dff074072910dad9c6ea9daa0017"), looks := true }, kinds := [], alts := [], laidByText := true, laidKinds := [.data], laidTests := true, laidLooks := .later }
def WireOddUptoCardSaid : Prop := Claim7.holds Tryd.pinned (.plain (OpenSpec.upto wireOddSpec)) wireOddUptoCard

/-- THE SECOND FORM's CARD OF 'quorumlaw1.WireWrites'. -/
def wireWritesUptoCard : Claim7 := { stood := { row := wireWritesUptoRow, standIns := [], harness := (true, "0d14426e5db0fe2e9996d2b65c714a18fcc0dff074072910dad9c6ea9daa0017"), looks := true }, kinds := [], alts := [], laidByText := true, laidKinds := [.data, .pinned], laidTests := true, laidLooks := .later }
def WireWritesUptoCardSaid : Prop := Claim7.holds Tryd.pinned (.plain (OpenSpec.upto wireWritesSpec)) wireWritesUptoCard

/-- THE SECOND FORM's CARD OF 'quorumlaw1.WireReads'. -/
def wireReadsUptoCard : Claim7 := { stood := { row := wireReadsUptoRow, standIns := [], harness := (true, "0d14426e5db0fe2e9996d2b65c714a18fcc0dff074072910dad9c6ea9daa0017"), looks := true }, kinds := [], alts := [], laidByText := true, laidKinds := [.data, .pinned], laidTests := true, laidLooks := .later }
def WireReadsUptoCardSaid : Prop := Claim7.holds Tryd.pinned (.plain (OpenSpec.upto wireReadsSpec)) wireReadsUptoCard

/-- THE SECOND FORM's CARD OF 'quorumlaw1.WireStream'. -/
def wireStreamUptoCard : Claim7 := { stood := { row := wireStreamUptoRow, standIns := [], harness := (true, "0d14426e5db0fe2e9996d2b65c714a18fcc0dff074072910dad9c6ea9daa0017"), looks := true }, kinds := [], alts := [], laidByText := true, laidKinds := [.data, .pinned], laidTests := true, laidLooks := .later }
def WireStreamUptoCardSaid : Prop := Claim7.holds Tryd.pinned (.plain (OpenSpec.upto wireStreamSpec)) wireStreamUptoCard

/-- THE SECOND FORM's CARD OF 'quorumlaw1.WireBatches'. -/
def wireBatchesUptoCard : Claim7 := { stood := { row := wireBatchesUptoRow, standIns := [], harness := (true, "0d14426e5db0fe2e9996d2b65c714a18fcc0dff074072910dad9c6ea9daa0017"), looks := true }, kinds := [], alts := [], laidByText := true, laidKinds := [.data, .pinned], laidTests := true, laidLooks := .later }
def WireBatchesUptoCardSaid : Prop := Claim7.holds Tryd.pinned (.plain (OpenSpec.upto wireBatchesSpec)) wireBatchesUptoCard

/-- THE SECOND FORM's CARD OF 'quorumlaw1.WireRecords'. -/
def wireRecordsUptoCard : Claim7 := { stood := { row := wireRecordsUptoRow, standIns := [], harness := (true, "0d14426e5db0fe2e9996d2b65c714a18fcc0dff074072910dad9c6ea9daa0017"), looks := true }, kinds := [], alts := [], laidByText := true, laidKinds := [.data, .data, .pinned], laidTests := true, laidLooks := .later }
def WireRecordsUptoCardSaid : Prop := Claim7.holds Tryd.pinned (.plain (OpenSpec.upto wireRecordsSpec)) wireRecordsUptoCard

/-- THE SECOND FORM's CARD OF 'quorumlaw1.WireBurst'. -/
def wireBurstUptoCard : Claim7 := { stood := { row := wireBurstUptoRow, standIns := [], harness := (true, "0d14426e5db0fe2e9996d2b65c714a18fcc0dff074072910dad9c6ea9daa0017"), looks := true }, kinds := [], alts := [], laidByText := true, laidKinds := [.data, .data, .pinned], laidTests := true, laidLooks := .later }
def WireBurstUptoCardSaid : Prop := Claim7.holds Tryd.pinned (.plain (OpenSpec.upto wireBurstSpec)) wireBurstUptoCard

/-- THE SECOND FORM's CARD OF 'quorumlaw1.WireApart'. -/
def wireApartUptoCard : Claim7 := { stood := { row := wireApartUptoRow, standIns := [], harness := (true, "0d14426e5db0fe2e9996d2b65c714a18fcc0dff074072910dad9c6ea9daa0017"), looks := true }, kinds := [], alts := [], laidByText := true, laidKinds := [.data, .data, .pinned], laidTests := true, laidLooks := .later }
def WireApartUptoCardSaid : Prop := Claim7.holds Tryd.pinned (.plain (OpenSpec.upto wireApartSpec)) wireApartUptoCard
end Rows
end Go.Proofs.YtbhmnkpbaeemeaaDoor
