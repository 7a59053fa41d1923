/-
  No cell of these rows narrows 'for every input' (looked for: loops, veiled, ifaces, maps, wideKeys, modest, calm, conditions, laid).
  DERIVED. THE GIVEN ROWS OF THIS SEAT. 9 by the template 'for every input the law returns true; each argument reads behind the call as it read before'; 0 by the template 'total and deterministic' (their statements: YtcieeghaikkldaaTotals.lean).
  GIVEN WITH THE SEED: the statements are not yours to turn. If you find one false, say at which input.
  Laid BY PROGRAM, IN A SANDBOX (cutbox-rows.mjs): the forced cells as the released guide's own fill.sh prints them over the translation 97da6f97691d09bd… (all of the seat's roots in one cut). By AI agents, Wed Nov 11 2026. No macro, syntax, notation, axiom, sorry.
-/
import Derived.Test.YtcieeghaikkldaaChecked
import GoSem.Claim
import GoSem.ClaimJoined
import GoSem.ClaimMapViews
import Derived.JoinedTies
import Derived.KernelRfl
namespace Go.Proofs.Ytcieeghaikkldaa
/- THE CELL 'sum', in the pinned program and in every row, IS THE sha256 OF THE DUMP (.gsa) THAT YtcieeghaikkldaaProg.lean LOADS. Nothing in Lean hashes anything: it is a label: what it is worth is what the hold of that sum in a sandbox is worth. -/
noncomputable def Try.pinned : Pinned := { name := "ytcieeghaikkldaa", sum := "97da6f97691d09bdefed80daaebaec399f89b18fafb8530686bd8b37b7236e1a", checked := Try.checked }
namespace Rows
def none {H : Type} : Left H := { results := [], args := [] }

/-- 'quorumlaw2.LedgerNames': WHATEVER THE INPUT: true; the input reads as it did. -/
def ledgerNamesSpec : ChangeSpec := { name := "ledgerNames", fn := fun _ => fun
  | [] => { results := [.lit (.bool true)], args := [] }
  | _ => none }
def ledgerNamesRow : OpenClaim := { program := "ytcieeghaikkldaa", sum := "97da6f97691d09bdefed80daaebaec399f89b18fafb8530686bd8b37b7236e1a", func := "quorum/quorumlaw2.LedgerNames", spec := "ledgerNames", apart := false }
def LedgerNamesSaid : Prop := ledgerNamesRow.holds Try.pinned (OpenSpec.ofChange ledgerNamesSpec)

/-- ITS FALSE NEIGHBOUR: 'it returns false'. Refute it at one input. -/
def ledgerNamesWrong : ChangeSpec := { name := "ledgerNames", fn := fun _ => fun
  | [] => { results := [.lit (.bool false)], args := [] }
  | _ => none }
def LedgerNamesWrongFalsely : Prop := ledgerNamesRow.holds Try.pinned (OpenSpec.ofChange ledgerNamesWrong)

/-- 'quorumlaw2.LedgerBegins': WHATEVER THE INPUT: true; the input reads as it did. -/
def ledgerBeginsSpec : ChangeSpec := { name := "ledgerBegins", fn := fun _ => fun
  | [d] => { results := [.lit (.bool true)], args := [d] }
  | _ => none }
def ledgerBeginsRow : OpenClaim := { program := "ytcieeghaikkldaa", sum := "97da6f97691d09bdefed80daaebaec399f89b18fafb8530686bd8b37b7236e1a", func := "quorum/quorumlaw2.LedgerBegins", spec := "ledgerBegins", unfollowed := true, recurses := true, apart := false }
def LedgerBeginsSaid : Prop := ledgerBeginsRow.holds Try.pinned (OpenSpec.ofChange ledgerBeginsSpec)

/-- ITS FALSE NEIGHBOUR: 'it returns false'. Refute it at one input. -/
def ledgerBeginsWrong : ChangeSpec := { name := "ledgerBegins", fn := fun _ => fun
  | [d] => { results := [.lit (.bool false)], args := [d] }
  | _ => none }
def LedgerBeginsWrongFalsely : Prop := ledgerBeginsRow.holds Try.pinned (OpenSpec.ofChange ledgerBeginsWrong)

/-- 'quorumlaw2.LedgerKeeps': WHATEVER THE INPUT: true; the input reads as it did. -/
def ledgerKeepsSpec : ChangeSpec := { name := "ledgerKeeps", fn := fun _ => fun
  | [d1, d2] => { results := [.lit (.bool true)], args := [d1, d2] }
  | _ => none }
def ledgerKeepsRow : OpenClaim := { program := "ytcieeghaikkldaa", sum := "97da6f97691d09bdefed80daaebaec399f89b18fafb8530686bd8b37b7236e1a", func := "quorum/quorumlaw2.LedgerKeeps", spec := "ledgerKeeps", unfollowed := true, recurses := true, apart := false }
def LedgerKeepsSaid : Prop := ledgerKeepsRow.holds Try.pinned (OpenSpec.ofChange ledgerKeepsSpec)

/-- ITS FALSE NEIGHBOUR: 'it returns false'. Refute it at one input. -/
def ledgerKeepsWrong : ChangeSpec := { name := "ledgerKeeps", fn := fun _ => fun
  | [d1, d2] => { results := [.lit (.bool false)], args := [d1, d2] }
  | _ => none }
def LedgerKeepsWrongFalsely : Prop := ledgerKeepsRow.holds Try.pinned (OpenSpec.ofChange ledgerKeepsWrong)

/-- 'quorumlaw2.LedgerBooks': WHATEVER THE INPUT: true; the input reads as it did. -/
def ledgerBooksSpec : ChangeSpec := { name := "ledgerBooks", fn := fun _ => fun
  | [d1, d2] => { results := [.lit (.bool true)], args := [d1, d2] }
  | _ => none }
def ledgerBooksRow : OpenClaim := { program := "ytcieeghaikkldaa", sum := "97da6f97691d09bdefed80daaebaec399f89b18fafb8530686bd8b37b7236e1a", func := "quorum/quorumlaw2.LedgerBooks", spec := "ledgerBooks", unfollowed := true, recurses := true, apart := false }
def LedgerBooksSaid : Prop := ledgerBooksRow.holds Try.pinned (OpenSpec.ofChange ledgerBooksSpec)

/-- ITS FALSE NEIGHBOUR: 'it returns false'. Refute it at one input. -/
def ledgerBooksWrong : ChangeSpec := { name := "ledgerBooks", fn := fun _ => fun
  | [d1, d2] => { results := [.lit (.bool false)], args := [d1, d2] }
  | _ => none }
def LedgerBooksWrongFalsely : Prop := ledgerBooksRow.holds Try.pinned (OpenSpec.ofChange ledgerBooksWrong)

/-- 'quorumlaw2.LedgerUndone': WHATEVER THE INPUT: true; the input reads as it did. -/
def ledgerUndoneSpec : ChangeSpec := { name := "ledgerUndone", fn := fun _ => fun
  | [d1, d2, d3, d4] => { results := [.lit (.bool true)], args := [d1, d2, d3, d4] }
  | _ => none }
def ledgerUndoneRow : OpenClaim := { program := "ytcieeghaikkldaa", sum := "97da6f97691d09bdefed80daaebaec399f89b18fafb8530686bd8b37b7236e1a", func := "quorum/quorumlaw2.LedgerUndone", spec := "ledgerUndone", unfollowed := true, recurses := true, apart := false }
def LedgerUndoneSaid : Prop := ledgerUndoneRow.holds Try.pinned (OpenSpec.ofChange ledgerUndoneSpec)

/-- ITS FALSE NEIGHBOUR: 'it returns false'. Refute it at one input. -/
def ledgerUndoneWrong : ChangeSpec := { name := "ledgerUndone", fn := fun _ => fun
  | [d1, d2, d3, d4] => { results := [.lit (.bool false)], args := [d1, d2, d3, d4] }
  | _ => none }
def LedgerUndoneWrongFalsely : Prop := ledgerUndoneRow.holds Try.pinned (OpenSpec.ofChange ledgerUndoneWrong)

/-- 'quorumlaw2.LedgerKept': WHATEVER THE INPUT: true; the input reads as it did. -/
def ledgerKeptSpec : ChangeSpec := { name := "ledgerKept", fn := fun _ => fun
  | [d1, d2] => { results := [.lit (.bool true)], args := [d1, d2] }
  | _ => none }
def ledgerKeptRow : OpenClaim := { program := "ytcieeghaikkldaa", sum := "97da6f97691d09bdefed80daaebaec399f89b18fafb8530686bd8b37b7236e1a", func := "quorum/quorumlaw2.LedgerKept", spec := "ledgerKept", unfollowed := true, recurses := true, apart := false }
def LedgerKeptSaid : Prop := ledgerKeptRow.holds Try.pinned (OpenSpec.ofChange ledgerKeptSpec)

/-- ITS FALSE NEIGHBOUR: 'it returns false'. Refute it at one input. -/
def ledgerKeptWrong : ChangeSpec := { name := "ledgerKept", fn := fun _ => fun
  | [d1, d2] => { results := [.lit (.bool false)], args := [d1, d2] }
  | _ => none }
def LedgerKeptWrongFalsely : Prop := ledgerKeptRow.holds Try.pinned (OpenSpec.ofChange ledgerKeptWrong)

/-- 'quorumlaw2.LedgerApart': WHATEVER THE INPUT: true; the input reads as it did. -/
def ledgerApartSpec : ChangeSpec := { name := "ledgerApart", fn := fun _ => fun
  | [d1, d2] => { results := [.lit (.bool true)], args := [d1, d2] }
  | _ => none }
def ledgerApartRow : OpenClaim := { program := "ytcieeghaikkldaa", sum := "97da6f97691d09bdefed80daaebaec399f89b18fafb8530686bd8b37b7236e1a", func := "quorum/quorumlaw2.LedgerApart", spec := "ledgerApart", unfollowed := true, recurses := true, apart := false }
def LedgerApartSaid : Prop := ledgerApartRow.holds Try.pinned (OpenSpec.ofChange ledgerApartSpec)

/-- ITS FALSE NEIGHBOUR: 'it returns false'. Refute it at one input. -/
def ledgerApartWrong : ChangeSpec := { name := "ledgerApart", fn := fun _ => fun
  | [d1, d2] => { results := [.lit (.bool false)], args := [d1, d2] }
  | _ => none }
def LedgerApartWrongFalsely : Prop := ledgerApartRow.holds Try.pinned (OpenSpec.ofChange ledgerApartWrong)

/-- 'quorumlaw2.LedgerNobody': WHATEVER THE INPUT: true; the input reads as it did. -/
def ledgerNobodySpec : ChangeSpec := { name := "ledgerNobody", fn := fun _ => fun
  | [d1, d2] => { results := [.lit (.bool true)], args := [d1, d2] }
  | _ => none }
def ledgerNobodyRow : OpenClaim := { program := "ytcieeghaikkldaa", sum := "97da6f97691d09bdefed80daaebaec399f89b18fafb8530686bd8b37b7236e1a", func := "quorum/quorumlaw2.LedgerNobody", spec := "ledgerNobody", unfollowed := true, recurses := true, apart := false }
def LedgerNobodySaid : Prop := ledgerNobodyRow.holds Try.pinned (OpenSpec.ofChange ledgerNobodySpec)

/-- ITS FALSE NEIGHBOUR: 'it returns false'. Refute it at one input. -/
def ledgerNobodyWrong : ChangeSpec := { name := "ledgerNobody", fn := fun _ => fun
  | [d1, d2] => { results := [.lit (.bool false)], args := [d1, d2] }
  | _ => none }
def LedgerNobodyWrongFalsely : Prop := ledgerNobodyRow.holds Try.pinned (OpenSpec.ofChange ledgerNobodyWrong)

/-- 'quorumlaw2.LedgerAnew': WHATEVER THE INPUT: true; the input reads as it did. -/
def ledgerAnewSpec : ChangeSpec := { name := "ledgerAnew", fn := fun _ => fun
  | [d1, d2, d3] => { results := [.lit (.bool true)], args := [d1, d2, d3] }
  | _ => none }
def ledgerAnewRow : OpenClaim := { program := "ytcieeghaikkldaa", sum := "97da6f97691d09bdefed80daaebaec399f89b18fafb8530686bd8b37b7236e1a", func := "quorum/quorumlaw2.LedgerAnew", spec := "ledgerAnew", unfollowed := true, recurses := true, apart := false }
def LedgerAnewSaid : Prop := ledgerAnewRow.holds Try.pinned (OpenSpec.ofChange ledgerAnewSpec)

/-- ITS FALSE NEIGHBOUR: 'it returns false'. Refute it at one input. -/
def ledgerAnewWrong : ChangeSpec := { name := "ledgerAnew", fn := fun _ => fun
  | [d1, d2, d3] => { results := [.lit (.bool false)], args := [d1, d2, d3] }
  | _ => none }
def LedgerAnewWrongFalsely : Prop := ledgerAnewRow.holds Try.pinned (OpenSpec.ofChange ledgerAnewWrong)

/- THE SECOND FORM. 'bulk': how many values and letters a reading holds, each counted each time it is reached (what is shared counts as often as it is met; a slice's spare places count too). A statement '..UptoSaid' is the law's where the arguments, and the package variables that the reading takes, are together of bulk at most 1048576: NARROWER than '..Said'. Prove '..Said' where nothing that the law and all that it calls make is longer than what came in: it says more and counts as full. Else prove '..UptoSaid'. A law counts once. -/
mutual
def uptoBulk {H : Type} : DataW H → Nat
  | .lit (.string bytes) => bytes.length + 1
  | .lit _ => 1
  | .nil => 1
  | .ptr d => uptoBulk d + 1
  | .slice elems spare => uptoBulkAll elems + uptoBulkAll spare + 1
  | .agg parts => uptoBulkAll parts + 1
  | .iface _ d => uptoBulk d + 1
  | .map entries => uptoBulkEntries entries + 1
  | .held _ => 1
def uptoBulkAll {H : Type} : List (DataW H) → Nat
  | [] => 0
  | d :: r => uptoBulk d + uptoBulkAll r
def uptoBulkEntries {H : Type} : List (Lit × DataW H) → Nat
  | [] => 0
  | x :: r => uptoBulkEntry x + uptoBulkEntries r
def uptoBulkEntry {H : Type} : Lit × DataW H → Nat
  | (.string bytes, d) => bytes.length + uptoBulk d + 1
  | (_, d) => uptoBulk d + 1
 end
def uptoSmall : (H : Type) → List (DataW H) → Bool := fun _ ds => decide (uptoBulkAll ds ≤ 1048576)
def OpenSpec.upto (s : _root_.Go.ChangeSpec) : _root_.Go.OpenSpec := { _root_.Go.OpenSpec.ofChange s with cond := some uptoSmall }

/-- 'quorumlaw2.LedgerNames', WHERE WHAT IT READS IS OF BULK AT MOST 1048576: true; the input reads as it did. -/
def ledgerNamesUptoRow : OpenClaim := { program := "ytcieeghaikkldaa", sum := "97da6f97691d09bdefed80daaebaec399f89b18fafb8530686bd8b37b7236e1a", func := "quorum/quorumlaw2.LedgerNames", spec := "ledgerNames", apart := false, narrowed := true }
def LedgerNamesUptoSaid : Prop := ledgerNamesUptoRow.holds Try.pinned (OpenSpec.upto ledgerNamesSpec)

/-- 'quorumlaw2.LedgerBegins', WHERE WHAT IT READS IS OF BULK AT MOST 1048576: true; the input reads as it did. -/
def ledgerBeginsUptoRow : OpenClaim := { program := "ytcieeghaikkldaa", sum := "97da6f97691d09bdefed80daaebaec399f89b18fafb8530686bd8b37b7236e1a", func := "quorum/quorumlaw2.LedgerBegins", spec := "ledgerBegins", unfollowed := true, recurses := true, apart := false, narrowed := true }
def LedgerBeginsUptoSaid : Prop := ledgerBeginsUptoRow.holds Try.pinned (OpenSpec.upto ledgerBeginsSpec)

/-- 'quorumlaw2.LedgerKeeps', WHERE WHAT IT READS IS OF BULK AT MOST 1048576: true; the input reads as it did. -/
def ledgerKeepsUptoRow : OpenClaim := { program := "ytcieeghaikkldaa", sum := "97da6f97691d09bdefed80daaebaec399f89b18fafb8530686bd8b37b7236e1a", func := "quorum/quorumlaw2.LedgerKeeps", spec := "ledgerKeeps", unfollowed := true, recurses := true, apart := false, narrowed := true }
def LedgerKeepsUptoSaid : Prop := ledgerKeepsUptoRow.holds Try.pinned (OpenSpec.upto ledgerKeepsSpec)

/-- 'quorumlaw2.LedgerBooks', WHERE WHAT IT READS IS OF BULK AT MOST 1048576: true; the input reads as it did. -/
def ledgerBooksUptoRow : OpenClaim := { program := "ytcieeghaikkldaa", sum := "97da6f97691d09bdefed80daaebaec399f89b18fafb8530686bd8b37b7236e1a", func := "quorum/quorumlaw2.LedgerBooks", spec := "ledgerBooks", unfollowed := true, recurses := true, apart := false, narrowed := true }
def LedgerBooksUptoSaid : Prop := ledgerBooksUptoRow.holds Try.pinned (OpenSpec.upto ledgerBooksSpec)

/-- 'quorumlaw2.LedgerUndone', WHERE WHAT IT READS IS OF BULK AT MOST 1048576: true; the input reads as it did. -/
def ledgerUndoneUptoRow : OpenClaim := { program := "ytcieeghaikkldaa", sum := "97da6f97691d09bdefed80daaebaec399f89b18fafb8530686bd8b37b7236e1a", func := "quorum/quorumlaw2.LedgerUndone", spec := "ledgerUndone", unfollowed := true, recurses := true, apart := false, narrowed := true }
def LedgerUndoneUptoSaid : Prop := ledgerUndoneUptoRow.holds Try.pinned (OpenSpec.upto ledgerUndoneSpec)

/-- 'quorumlaw2.LedgerKept', WHERE WHAT IT READS IS OF BULK AT MOST 1048576: true; the input reads as it did. -/
def ledgerKeptUptoRow : OpenClaim := { program := "ytcieeghaikkldaa", sum := "97da6f97691d09bdefed80daaebaec399f89b18fafb8530686bd8b37b7236e1a", func := "quorum/quorumlaw2.LedgerKept", spec := "ledgerKept", unfollowed := true, recurses := true, apart := false, narrowed := true }
def LedgerKeptUptoSaid : Prop := ledgerKeptUptoRow.holds Try.pinned (OpenSpec.upto ledgerKeptSpec)

/-- 'quorumlaw2.LedgerApart', WHERE WHAT IT READS IS OF BULK AT MOST 1048576: true; the input reads as it did. -/
def ledgerApartUptoRow : OpenClaim := { program := "ytcieeghaikkldaa", sum := "97da6f97691d09bdefed80daaebaec399f89b18fafb8530686bd8b37b7236e1a", func := "quorum/quorumlaw2.LedgerApart", spec := "ledgerApart", unfollowed := true, recurses := true, apart := false, narrowed := true }
def LedgerApartUptoSaid : Prop := ledgerApartUptoRow.holds Try.pinned (OpenSpec.upto ledgerApartSpec)

/-- 'quorumlaw2.LedgerNobody', WHERE WHAT IT READS IS OF BULK AT MOST 1048576: true; the input reads as it did. -/
def ledgerNobodyUptoRow : OpenClaim := { program := "ytcieeghaikkldaa", sum := "97da6f97691d09bdefed80daaebaec399f89b18fafb8530686bd8b37b7236e1a", func := "quorum/quorumlaw2.LedgerNobody", spec := "ledgerNobody", unfollowed := true, recurses := true, apart := false, narrowed := true }
def LedgerNobodyUptoSaid : Prop := ledgerNobodyUptoRow.holds Try.pinned (OpenSpec.upto ledgerNobodySpec)

/-- 'quorumlaw2.LedgerAnew', WHERE WHAT IT READS IS OF BULK AT MOST 1048576: true; the input reads as it did. -/
def ledgerAnewUptoRow : OpenClaim := { program := "ytcieeghaikkldaa", sum := "97da6f97691d09bdefed80daaebaec399f89b18fafb8530686bd8b37b7236e1a", func := "quorum/quorumlaw2.LedgerAnew", spec := "ledgerAnew", unfollowed := true, recurses := true, apart := false, narrowed := true }
def LedgerAnewUptoSaid : Prop := ledgerAnewUptoRow.holds Try.pinned (OpenSpec.upto ledgerAnewSpec)

end Rows
end Go.Proofs.Ytcieeghaikkldaa
