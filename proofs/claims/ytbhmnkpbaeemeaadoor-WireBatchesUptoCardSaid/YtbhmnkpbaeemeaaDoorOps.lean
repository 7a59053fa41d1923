import Derived.Test.YtbhmnkpbaeemeaaDoorK1
set_option linter.unusedVariables false
set_option linter.unusedSimpArgs false
namespace Go.Proofs.YtbhmnkpbaeemeaaDoor
open Go.RowKit

/-- One operation of a drawn list. -/
structure OpV where
  kind : Int
  num : Nat
  int : Int
  A : Option Addr
  n : Nat
  c : Nat
  b : List UInt8
  s : ByteArray
  most : Int
def OpV.val (o : OpV) : Value := .agg #[.int .i64 o.kind, .int .u64 (o.num : Int), .int .i64 o.int, .slice o.A o.n o.c, .string o.s, .int .i64 o.most]
def OpV.cells (o : OpV) : Array Value := #[.int .i64 o.kind, .int .u64 (o.num : Int), .int .i64 o.int, .slice o.A o.n o.c, .string o.s, .int .i64 o.most]
structure OpOk (w : World) (o : OpV) : Prop where
  num : o.num < 18446744073709551616
  int0 : -9223372036854775808 ≤ o.int
  int : o.int ≤ 9223372036854775807
  rd : Rd w o.A o.n o.c o.b
  n : o.n ≤ 2000000
  s : o.s.size ≤ 2000000
  most0 : -9223372036854775808 ≤ o.most
  most : o.most ≤ 9223372036854775807

/-- What reads as these operations. -/
structure RdO (w : World) (A : Option Addr) (n c : Nat) (os : List OpV) : Prop where
  len : os.length = n
  le : n ≤ c
  max : c ≤ 9223372036854775807
  at_ : ∀ i (h : i < os.length), ∃ b o, A = some ⟨b, o, none⟩ ∧ w.cell? ⟨b, o + i * 6, none⟩ = some (.int .i64 (os[i]'h).kind) ∧ w.cell? ⟨b, o + i * 6 + 1, none⟩ = some (.int .u64 ((os[i]'h).num : Int)) ∧ w.cell? ⟨b, o + i * 6 + 2, none⟩ = some (.int .i64 (os[i]'h).int) ∧ w.cell? ⟨b, o + i * 6 + 3, none⟩ = some (.slice (os[i]'h).A (os[i]'h).n (os[i]'h).c) ∧ w.cell? ⟨b, o + i * 6 + 4, none⟩ = some (.string (os[i]'h).s) ∧ w.cell? ⟨b, o + i * 6 + 5, none⟩ = some (.int .i64 (os[i]'h).most)
  ok : ∀ o ∈ os, OpOk w o

end Go.Proofs.YtbhmnkpbaeemeaaDoor
