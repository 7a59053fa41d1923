/-
  NARROWER THAN 'FOR EVERY INPUT', by the rows' own cells (each row's printed sentence says how): WireSums: laid · WireFrames: laid · WireOdd: laid · WireWrites: laid · WireReads: laid · WireStream: laid · WireBatches: laid · WireRecords: laid · WireBurst: laid · WireApart: laid.
  DERIVED. THE GIVEN ROWS OF THIS SEAT. 10 by the template 'for every input the law returns true; each argument reads behind the call as it read before'; 0 by the template 'total and deterministic' (their statements: YtbhmnkpbaeemeaaDoorTotals.lean).
  GIVEN WITH THE SEED: the statements are not yours to turn. If you find one false, say at which input.
  Laid BY PROGRAM, IN A SANDBOX (cutbox-rows.mjs): the forced cells as the released guide's own fill.sh prints them over the translation e680300e300dae75… (all of the seat's roots in one cut). By AI agents, Wed Nov 11 2026. No macro, syntax, notation, axiom, sorry.
-/
import Derived.Test.YtbhmnkpbaeemeaaDoorChecked
import GoSem.PinnedTables
import GoSem.Claim
import GoSem.ClaimJoined
import GoSem.ClaimMapViews
import Derived.JoinedTies
import Derived.KernelRfl
namespace Go.Proofs.YtbhmnkpbaeemeaaDoor
/- THE CELL 'sum', in the pinned program and in every row, IS THE sha256 OF THE DUMP (.gsa) THAT YtbhmnkpbaeemeaaDoorProg.lean LOADS. Nothing in Lean hashes anything: it is a label: what it is worth is what the hold of that sum in a sandbox is worth. -/
noncomputable def Tryd.pinned : Pinned := { name := "ytbhmnkpbaeemeaadoor", sum := "e680300e300dae756cf74c11196f02772a3c6acbc018a92753298baef999eae8", checked := Tryd.checked }
namespace Rows
def none {H : Type} : Left H := { results := [], args := [] }

/- WHAT THE LISTED PACKAGE-LEVEL VARIABLES READ AS WHEN THE CALL BEGINS. Each datum BY PROGRAM (the guide's laid-datum.mjs) off the statement by which the dump's own 'gosem.cut.vars' lays the variable. In a bare row this is a premise. The card (YtbhmnkpbaeemeaaDoorCards.lean) ties it to the program's text. -/
def laid_quorum_wire_nibbles {H : Type} : DataW H := .agg [.lit (.int .u32 0), .lit (.int .u32 274646895), .lit (.int .u32 549293790), .lit (.int .u32 820201905), .lit (.int .u32 1098587580), .lit (.int .u32 1361435347), .lit (.int .u32 1640403810), .lit (.int .u32 1905808397), .lit (.int .u32 2197175160), .lit (.int .u32 2460548119), .lit (.int .u32 2722870694), .lit (.int .u32 2987750089), .lit (.int .u32 3280807620), .lit (.int .u32 3553878443), .lit (.int .u32 3811616794), .lit (.int .u32 4084100981)]
def laid_unicode_utf8_acceptRanges {H : Type} : DataW H := .agg [.agg [.lit (.int .u8 128), .lit (.int .u8 191)], .agg [.lit (.int .u8 160), .lit (.int .u8 191)], .agg [.lit (.int .u8 128), .lit (.int .u8 159)], .agg [.lit (.int .u8 144), .lit (.int .u8 191)], .agg [.lit (.int .u8 128), .lit (.int .u8 143)], .agg [.lit (.int .u8 0), .lit (.int .u8 0)], .agg [.lit (.int .u8 0), .lit (.int .u8 0)], .agg [.lit (.int .u8 0), .lit (.int .u8 0)], .agg [.lit (.int .u8 0), .lit (.int .u8 0)], .agg [.lit (.int .u8 0), .lit (.int .u8 0)], .agg [.lit (.int .u8 0), .lit (.int .u8 0)], .agg [.lit (.int .u8 0), .lit (.int .u8 0)], .agg [.lit (.int .u8 0), .lit (.int .u8 0)], .agg [.lit (.int .u8 0), .lit (.int .u8 0)], .agg [.lit (.int .u8 0), .lit (.int .u8 0)], .agg [.lit (.int .u8 0), .lit (.int .u8 0)]]
/-- One of Go's own tables, pinned by name: the form's constant. -/
def laid_unicode_utf8_first : DataW Unit := Go.Pinned.utf8First
def laid_quorum_wire_recUses {H : Type} : DataW H := .agg [.lit (.int .i64 0), .lit (.int .i64 2), .lit (.int .i64 38), .lit (.int .i64 2), .lit (.int .i64 4), .lit (.int .i64 1028)]

/-- 'quorumlaw1.WireSums': WHATEVER THE INPUT: true; the input reads as it did. -/
def wireSumsSpec : ChangeSpec := { name := "wireSums", fn := fun _ => fun
  | [d] => { results := [.lit (.bool true)], args := [d] }
  | _ => none }
def wireSumsRow : OpenClaim := { program := "ytbhmnkpbaeemeaadoor", sum := "e680300e300dae756cf74c11196f02772a3c6acbc018a92753298baef999eae8", func := "quorum/quorumlaw1.WireSums", spec := "wireSums", named := ["quorum/wire.nibbles"], apart := false, laid := [("quorum/wire.nibbles", laid_quorum_wire_nibbles)] }
def WireSumsSaid : Prop := wireSumsRow.holds Tryd.pinned (OpenSpec.ofChange wireSumsSpec)

/-- ITS FALSE NEIGHBOUR: 'it returns false'. Refute it at one input. -/
def wireSumsWrong : ChangeSpec := { name := "wireSums", fn := fun _ => fun
  | [d] => { results := [.lit (.bool false)], args := [d] }
  | _ => none }
def WireSumsWrongFalsely : Prop := wireSumsRow.holds Tryd.pinned (OpenSpec.ofChange wireSumsWrong)

/-- 'quorumlaw1.WireFrames': WHATEVER THE INPUT: true; the input reads as it did. -/
def wireFramesSpec : ChangeSpec := { name := "wireFrames", fn := fun _ => fun
  | [d1, d2, d3] => { results := [.lit (.bool true)], args := [d1, d2, d3] }
  | _ => none }
def wireFramesRow : OpenClaim := { program := "ytbhmnkpbaeemeaadoor", sum := "e680300e300dae756cf74c11196f02772a3c6acbc018a92753298baef999eae8", func := "quorum/quorumlaw1.WireFrames", spec := "wireFrames", named := ["quorum/wire.nibbles"], apart := false, laid := [("quorum/wire.nibbles", laid_quorum_wire_nibbles)] }
def WireFramesSaid : Prop := wireFramesRow.holds Tryd.pinned (OpenSpec.ofChange wireFramesSpec)

/-- ITS FALSE NEIGHBOUR: 'it returns false'. Refute it at one input. -/
def wireFramesWrong : ChangeSpec := { name := "wireFrames", fn := fun _ => fun
  | [d1, d2, d3] => { results := [.lit (.bool false)], args := [d1, d2, d3] }
  | _ => none }
def WireFramesWrongFalsely : Prop := wireFramesRow.holds Tryd.pinned (OpenSpec.ofChange wireFramesWrong)

/-- 'quorumlaw1.WireOdd': WHATEVER THE INPUT: true; the input reads as it did. -/
def wireOddSpec : ChangeSpec := { name := "wireOdd", fn := fun _ => fun
  | [d1, d2, d3] => { results := [.lit (.bool true)], args := [d1, d2, d3] }
  | _ => none }
def wireOddRow : OpenClaim := { program := "ytbhmnkpbaeemeaadoor", sum := "e680300e300dae756cf74c11196f02772a3c6acbc018a92753298baef999eae8", func := "quorum/quorumlaw1.WireOdd", spec := "wireOdd", named := ["quorum/wire.nibbles"], apart := false, laid := [("quorum/wire.nibbles", laid_quorum_wire_nibbles)] }
def WireOddSaid : Prop := wireOddRow.holds Tryd.pinned (OpenSpec.ofChange wireOddSpec)

/-- ITS FALSE NEIGHBOUR: 'it returns false'. Refute it at one input. -/
def wireOddWrong : ChangeSpec := { name := "wireOdd", fn := fun _ => fun
  | [d1, d2, d3] => { results := [.lit (.bool false)], args := [d1, d2, d3] }
  | _ => none }
def WireOddWrongFalsely : Prop := wireOddRow.holds Tryd.pinned (OpenSpec.ofChange wireOddWrong)

/-- 'quorumlaw1.WireWrites': WHATEVER THE INPUT: true; the input reads as it did. -/
def wireWritesSpec : ChangeSpec := { name := "wireWrites", fn := fun _ => fun
  | [d1, d2, d3] => { results := [.lit (.bool true)], args := [d1, d2, d3] }
  | _ => none }
def wireWritesRow : OpenClaim := { program := "ytbhmnkpbaeemeaadoor", sum := "e680300e300dae756cf74c11196f02772a3c6acbc018a92753298baef999eae8", func := "quorum/quorumlaw1.WireWrites", spec := "wireWrites", named := ["unicode/utf8.first", "unicode/utf8.acceptRanges"], apart := false, laid := [("unicode/utf8.acceptRanges", laid_unicode_utf8_acceptRanges), ("unicode/utf8.first", laid_unicode_utf8_first)] }
def WireWritesSaid : Prop := wireWritesRow.holds Tryd.pinned (OpenSpec.ofChange wireWritesSpec)

/-- ITS FALSE NEIGHBOUR: 'it returns false'. Refute it at one input. -/
def wireWritesWrong : ChangeSpec := { name := "wireWrites", fn := fun _ => fun
  | [d1, d2, d3] => { results := [.lit (.bool false)], args := [d1, d2, d3] }
  | _ => none }
def WireWritesWrongFalsely : Prop := wireWritesRow.holds Tryd.pinned (OpenSpec.ofChange wireWritesWrong)

/-- 'quorumlaw1.WireReads': WHATEVER THE INPUT: true; the input reads as it did. -/
def wireReadsSpec : ChangeSpec := { name := "wireReads", fn := fun _ => fun
  | [d1, d2, d3] => { results := [.lit (.bool true)], args := [d1, d2, d3] }
  | _ => none }
def wireReadsRow : OpenClaim := { program := "ytbhmnkpbaeemeaadoor", sum := "e680300e300dae756cf74c11196f02772a3c6acbc018a92753298baef999eae8", func := "quorum/quorumlaw1.WireReads", spec := "wireReads", named := ["unicode/utf8.first", "unicode/utf8.acceptRanges"], apart := false, laid := [("unicode/utf8.acceptRanges", laid_unicode_utf8_acceptRanges), ("unicode/utf8.first", laid_unicode_utf8_first)] }
def WireReadsSaid : Prop := wireReadsRow.holds Tryd.pinned (OpenSpec.ofChange wireReadsSpec)

/-- ITS FALSE NEIGHBOUR: 'it returns false'. Refute it at one input. -/
def wireReadsWrong : ChangeSpec := { name := "wireReads", fn := fun _ => fun
  | [d1, d2, d3] => { results := [.lit (.bool false)], args := [d1, d2, d3] }
  | _ => none }
def WireReadsWrongFalsely : Prop := wireReadsRow.holds Tryd.pinned (OpenSpec.ofChange wireReadsWrong)

/-- 'quorumlaw1.WireStream': WHATEVER THE INPUT: true; the input reads as it did. -/
def wireStreamSpec : ChangeSpec := { name := "wireStream", fn := fun _ => fun
  | [d] => { results := [.lit (.bool true)], args := [d] }
  | _ => none }
def wireStreamRow : OpenClaim := { program := "ytbhmnkpbaeemeaadoor", sum := "e680300e300dae756cf74c11196f02772a3c6acbc018a92753298baef999eae8", func := "quorum/quorumlaw1.WireStream", spec := "wireStream", named := ["unicode/utf8.first", "unicode/utf8.acceptRanges"], apart := false, laid := [("unicode/utf8.acceptRanges", laid_unicode_utf8_acceptRanges), ("unicode/utf8.first", laid_unicode_utf8_first)] }
def WireStreamSaid : Prop := wireStreamRow.holds Tryd.pinned (OpenSpec.ofChange wireStreamSpec)

/-- ITS FALSE NEIGHBOUR: 'it returns false'. Refute it at one input. -/
def wireStreamWrong : ChangeSpec := { name := "wireStream", fn := fun _ => fun
  | [d] => { results := [.lit (.bool false)], args := [d] }
  | _ => none }
def WireStreamWrongFalsely : Prop := wireStreamRow.holds Tryd.pinned (OpenSpec.ofChange wireStreamWrong)

/-- 'quorumlaw1.WireBatches': WHATEVER THE INPUT: true; the input reads as it did. -/
def wireBatchesSpec : ChangeSpec := { name := "wireBatches", fn := fun _ => fun
  | [d1, d2] => { results := [.lit (.bool true)], args := [d1, d2] }
  | _ => none }
def wireBatchesRow : OpenClaim := { program := "ytbhmnkpbaeemeaadoor", sum := "e680300e300dae756cf74c11196f02772a3c6acbc018a92753298baef999eae8", func := "quorum/quorumlaw1.WireBatches", spec := "wireBatches", named := ["unicode/utf8.first", "unicode/utf8.acceptRanges"], apart := false, laid := [("unicode/utf8.acceptRanges", laid_unicode_utf8_acceptRanges), ("unicode/utf8.first", laid_unicode_utf8_first)] }
def WireBatchesSaid : Prop := wireBatchesRow.holds Tryd.pinned (OpenSpec.ofChange wireBatchesSpec)

/-- ITS FALSE NEIGHBOUR: 'it returns false'. Refute it at one input. -/
def wireBatchesWrong : ChangeSpec := { name := "wireBatches", fn := fun _ => fun
  | [d1, d2] => { results := [.lit (.bool false)], args := [d1, d2] }
  | _ => none }
def WireBatchesWrongFalsely : Prop := wireBatchesRow.holds Tryd.pinned (OpenSpec.ofChange wireBatchesWrong)

/-- 'quorumlaw1.WireRecords': WHATEVER THE INPUT: true; the input reads as it did. -/
def wireRecordsSpec : ChangeSpec := { name := "wireRecords", fn := fun _ => fun
  | [d1, d2] => { results := [.lit (.bool true)], args := [d1, d2] }
  | _ => none }
def wireRecordsRow : OpenClaim := { program := "ytbhmnkpbaeemeaadoor", sum := "e680300e300dae756cf74c11196f02772a3c6acbc018a92753298baef999eae8", func := "quorum/quorumlaw1.WireRecords", spec := "wireRecords", unfollowed := true, recurses := true, named := ["quorum/wire.recUses", "unicode/utf8.first", "unicode/utf8.acceptRanges"], apart := false, laid := [("unicode/utf8.acceptRanges", laid_unicode_utf8_acceptRanges), ("quorum/wire.recUses", laid_quorum_wire_recUses), ("unicode/utf8.first", laid_unicode_utf8_first)] }
def WireRecordsSaid : Prop := wireRecordsRow.holds Tryd.pinned (OpenSpec.ofChange wireRecordsSpec)

/-- ITS FALSE NEIGHBOUR: 'it returns false'. Refute it at one input. -/
def wireRecordsWrong : ChangeSpec := { name := "wireRecords", fn := fun _ => fun
  | [d1, d2] => { results := [.lit (.bool false)], args := [d1, d2] }
  | _ => none }
def WireRecordsWrongFalsely : Prop := wireRecordsRow.holds Tryd.pinned (OpenSpec.ofChange wireRecordsWrong)

/-- 'quorumlaw1.WireBurst': WHATEVER THE INPUT: true; the input reads as it did. -/
def wireBurstSpec : ChangeSpec := { name := "wireBurst", fn := fun _ => fun
  | [d1, d2, d3, d4] => { results := [.lit (.bool true)], args := [d1, d2, d3, d4] }
  | _ => none }
def wireBurstRow : OpenClaim := { program := "ytbhmnkpbaeemeaadoor", sum := "e680300e300dae756cf74c11196f02772a3c6acbc018a92753298baef999eae8", func := "quorum/quorumlaw1.WireBurst", spec := "wireBurst", unfollowed := true, recurses := true, named := ["quorum/wire.nibbles", "unicode/utf8.first", "unicode/utf8.acceptRanges"], apart := false, laid := [("unicode/utf8.acceptRanges", laid_unicode_utf8_acceptRanges), ("quorum/wire.nibbles", laid_quorum_wire_nibbles), ("unicode/utf8.first", laid_unicode_utf8_first)] }
def WireBurstSaid : Prop := wireBurstRow.holds Tryd.pinned (OpenSpec.ofChange wireBurstSpec)

/-- ITS FALSE NEIGHBOUR: 'it returns false'. Refute it at one input. -/
def wireBurstWrong : ChangeSpec := { name := "wireBurst", fn := fun _ => fun
  | [d1, d2, d3, d4] => { results := [.lit (.bool false)], args := [d1, d2, d3, d4] }
  | _ => none }
def WireBurstWrongFalsely : Prop := wireBurstRow.holds Tryd.pinned (OpenSpec.ofChange wireBurstWrong)

/-- 'quorumlaw1.WireApart': WHATEVER THE INPUT: true; the input reads as it did. -/
def wireApartSpec : ChangeSpec := { name := "wireApart", fn := fun _ => fun
  | [d1, d2, d3] => { results := [.lit (.bool true)], args := [d1, d2, d3] }
  | _ => none }
def wireApartRow : OpenClaim := { program := "ytbhmnkpbaeemeaadoor", sum := "e680300e300dae756cf74c11196f02772a3c6acbc018a92753298baef999eae8", func := "quorum/quorumlaw1.WireApart", spec := "wireApart", unfollowed := true, recurses := true, named := ["unicode/utf8.first", "unicode/utf8.acceptRanges", "quorum/wire.recUses"], apart := false, laid := [("unicode/utf8.acceptRanges", laid_unicode_utf8_acceptRanges), ("quorum/wire.recUses", laid_quorum_wire_recUses), ("unicode/utf8.first", laid_unicode_utf8_first)] }
def WireApartSaid : Prop := wireApartRow.holds Tryd.pinned (OpenSpec.ofChange wireApartSpec)

/-- ITS FALSE NEIGHBOUR: 'it returns false'. Refute it at one input. -/
def wireApartWrong : ChangeSpec := { name := "wireApart", fn := fun _ => fun
  | [d1, d2, d3] => { results := [.lit (.bool false)], args := [d1, d2, d3] }
  | _ => none }
def WireApartWrongFalsely : Prop := wireApartRow.holds Tryd.pinned (OpenSpec.ofChange wireApartWrong)

/- THE SECOND FORM. 'bulk': how many values and letters a reading holds, each counted each time it is reached (what is shared counts as often as it is met; a slice's spare places count too). A statement '..UptoSaid' is the law's where the arguments, and the package variables that the reading takes, are together of bulk at most 1048576: NARROWER than '..Said'. Prove '..Said' where nothing that the law and all that it calls make is longer than what came in: it says more and counts as full. Else prove '..UptoSaid'. A law counts once. -/
mutual
def uptoBulk {H : Type} : DataW H → Nat
  | .lit (.string bytes) => bytes.length + 1
  | .lit _ => 1
  | .nil => 1
  | .ptr d => uptoBulk d + 1
  | .slice elems spare => uptoBulkAll elems + uptoBulkAll spare + 1
  | .agg parts => uptoBulkAll parts + 1
  | .iface _ d => uptoBulk d + 1
  | .map entries => uptoBulkEntries entries + 1
  | .held _ => 1
def uptoBulkAll {H : Type} : List (DataW H) → Nat
  | [] => 0
  | d :: r => uptoBulk d + uptoBulkAll r
def uptoBulkEntries {H : Type} : List (Lit × DataW H) → Nat
  | [] => 0
  | x :: r => uptoBulkEntry x + uptoBulkEntries r
def uptoBulkEntry {H : Type} : Lit × DataW H → Nat
  | (.string bytes, d) => bytes.length + uptoBulk d + 1
  | (_, d) => uptoBulk d + 1
 end
def uptoSmall : (H : Type) → List (DataW H) → Bool := fun _ ds => decide (uptoBulkAll ds ≤ 1048576)
def OpenSpec.upto (s : _root_.Go.ChangeSpec) : _root_.Go.OpenSpec := { _root_.Go.OpenSpec.ofChange s with cond := some uptoSmall }

/-- 'quorumlaw1.WireSums', WHERE WHAT IT READS IS OF BULK AT MOST 1048576: true; the input reads as it did. -/
def wireSumsUptoRow : OpenClaim := { program := "ytbhmnkpbaeemeaadoor", sum := "e680300e300dae756cf74c11196f02772a3c6acbc018a92753298baef999eae8", func := "quorum/quorumlaw1.WireSums", spec := "wireSums", named := ["quorum/wire.nibbles"], apart := false, laid := [("quorum/wire.nibbles", laid_quorum_wire_nibbles)], narrowed := true }
def WireSumsUptoSaid : Prop := wireSumsUptoRow.holds Tryd.pinned (OpenSpec.upto wireSumsSpec)

/-- 'quorumlaw1.WireFrames', WHERE WHAT IT READS IS OF BULK AT MOST 1048576: true; the input reads as it did. -/
def wireFramesUptoRow : OpenClaim := { program := "ytbhmnkpbaeemeaadoor", sum := "e680300e300dae756cf74c11196f02772a3c6acbc018a92753298baef999eae8", func := "quorum/quorumlaw1.WireFrames", spec := "wireFrames", named := ["quorum/wire.nibbles"], apart := false, laid := [("quorum/wire.nibbles", laid_quorum_wire_nibbles)], narrowed := true }
def WireFramesUptoSaid : Prop := wireFramesUptoRow.holds Tryd.pinned (OpenSpec.upto wireFramesSpec)

/-- 'quorumlaw1.WireOdd', WHERE WHAT IT READS IS OF BULK AT MOST 1048576: true; the input reads as it did. -/
def wireOddUptoRow : OpenClaim := { program := "ytbhmnkpbaeemeaadoor", sum := "e680300e300dae756cf74c11196f02772a3c6acbc018a92753298baef999eae8", func := "quorum/quorumlaw1.WireOdd", spec := "wireOdd", named := ["quorum/wire.nibbles"], apart := false, laid := [("quorum/wire.nibbles", laid_quorum_wire_nibbles)], narrowed := true }
def WireOddUptoSaid : Prop := wireOddUptoRow.holds Tryd.pinned (OpenSpec.upto wireOddSpec)

/-- 'quorumlaw1.WireWrites', WHERE WHAT IT READS IS OF BULK AT MOST 1048576: true; the input reads as it did. -/
def wireWritesUptoRow : OpenClaim := { program := "ytbhmnkpbaeemeaadoor", sum := "e680300e300dae756cf74c11196f02772a3c6acbc018a92753298baef999eae8", func := "quorum/quorumlaw1.WireWrites", spec := "wireWrites", named := ["unicode/utf8.first", "unicode/utf8.acceptRanges"], apart := false, laid := [("unicode/utf8.acceptRanges", laid_unicode_utf8_acceptRanges), ("unicode/utf8.first", laid_unicode_utf8_first)], narrowed := true }
def WireWritesUptoSaid : Prop := wireWritesUptoRow.holds Tryd.pinned (OpenSpec.upto wireWritesSpec)

/-- 'quorumlaw1.WireReads', WHERE WHAT IT READS IS OF BULK AT MOST 1048576: true; the input reads as it did. -/
def wireReadsUptoRow : OpenClaim := { program := "ytbhmnkpbaeemeaadoor", sum := "e680300e300dae756cf74c11196f02772a3c6acbc018a92753298baef999eae8", func := "quorum/quorumlaw1.WireReads", spec := "wireReads", named := ["unicode/utf8.first", "unicode/utf8.acceptRanges"], apart := false, laid := [("unicode/utf8.acceptRanges", laid_unicode_utf8_acceptRanges), ("unicode/utf8.first", laid_unicode_utf8_first)], narrowed := true }
def WireReadsUptoSaid : Prop := wireReadsUptoRow.holds Tryd.pinned (OpenSpec.upto wireReadsSpec)

/-- 'quorumlaw1.WireStream', WHERE WHAT IT READS IS OF BULK AT MOST 1048576: true; the input reads as it did. -/
def wireStreamUptoRow : OpenClaim := { program := "ytbhmnkpbaeemeaadoor", sum := "e680300e300dae756cf74c11196f02772a3c6acbc018a92753298baef999eae8", func := "quorum/quorumlaw1.WireStream", spec := "wireStream", named := ["unicode/utf8.first", "unicode/utf8.acceptRanges"], apart := false, laid := [("unicode/utf8.acceptRanges", laid_unicode_utf8_acceptRanges), ("unicode/utf8.first", laid_unicode_utf8_first)], narrowed := true }
def WireStreamUptoSaid : Prop := wireStreamUptoRow.holds Tryd.pinned (OpenSpec.upto wireStreamSpec)

/-- 'quorumlaw1.WireBatches', WHERE WHAT IT READS IS OF BULK AT MOST 1048576: true; the input reads as it did. -/
def wireBatchesUptoRow : OpenClaim := { program := "ytbhmnkpbaeemeaadoor", sum := "e680300e300dae756cf74c11196f02772a3c6acbc018a92753298baef999eae8", func := "quorum/quorumlaw1.WireBatches", spec := "wireBatches", named := ["unicode/utf8.first", "unicode/utf8.acceptRanges"], apart := false, laid := [("unicode/utf8.acceptRanges", laid_unicode_utf8_acceptRanges), ("unicode/utf8.first", laid_unicode_utf8_first)], narrowed := true }
def WireBatchesUptoSaid : Prop := wireBatchesUptoRow.holds Tryd.pinned (OpenSpec.upto wireBatchesSpec)

/-- 'quorumlaw1.WireRecords', WHERE WHAT IT READS IS OF BULK AT MOST 1048576: true; the input reads as it did. -/
def wireRecordsUptoRow : OpenClaim := { program := "ytbhmnkpbaeemeaadoor", sum := "e680300e300dae756cf74c11196f02772a3c6acbc018a92753298baef999eae8", func := "quorum/quorumlaw1.WireRecords", spec := "wireRecords", unfollowed := true, recurses := true, named := ["quorum/wire.recUses", "unicode/utf8.first", "unicode/utf8.acceptRanges"], apart := false, laid := [("unicode/utf8.acceptRanges", laid_unicode_utf8_acceptRanges), ("quorum/wire.recUses", laid_quorum_wire_recUses), ("unicode/utf8.first", laid_unicode_utf8_first)], narrowed := true }
def WireRecordsUptoSaid : Prop := wireRecordsUptoRow.holds Tryd.pinned (OpenSpec.upto wireRecordsSpec)

/-- 'quorumlaw1.WireBurst', WHERE WHAT IT READS IS OF BULK AT MOST 1048576: true; the input reads as it did. -/
def wireBurstUptoRow : OpenClaim := { program := "ytbhmnkpbaeemeaadoor", sum := "e680300e300dae756cf74c11196f02772a3c6acbc018a92753298baef999eae8", func := "quorum/quorumlaw1.WireBurst", spec := "wireBurst", unfollowed := true, recurses := true, named := ["quorum/wire.nibbles", "unicode/utf8.first", "unicode/utf8.acceptRanges"], apart := false, laid := [("unicode/utf8.acceptRanges", laid_unicode_utf8_acceptRanges), ("quorum/wire.nibbles", laid_quorum_wire_nibbles), ("unicode/utf8.first", laid_unicode_utf8_first)], narrowed := true }
def WireBurstUptoSaid : Prop := wireBurstUptoRow.holds Tryd.pinned (OpenSpec.upto wireBurstSpec)

/-- 'quorumlaw1.WireApart', WHERE WHAT IT READS IS OF BULK AT MOST 1048576: true; the input reads as it did. -/
def wireApartUptoRow : OpenClaim := { program := "ytbhmnkpbaeemeaadoor", sum := "e680300e300dae756cf74c11196f02772a3c6acbc018a92753298baef999eae8", func := "quorum/quorumlaw1.WireApart", spec := "wireApart", unfollowed := true, recurses := true, named := ["unicode/utf8.first", "unicode/utf8.acceptRanges", "quorum/wire.recUses"], apart := false, laid := [("unicode/utf8.acceptRanges", laid_unicode_utf8_acceptRanges), ("quorum/wire.recUses", laid_quorum_wire_recUses), ("unicode/utf8.first", laid_unicode_utf8_first)], narrowed := true }
def WireApartUptoSaid : Prop := wireApartUptoRow.holds Tryd.pinned (OpenSpec.upto wireApartSpec)

end Rows
end Go.Proofs.YtbhmnkpbaeemeaaDoor
