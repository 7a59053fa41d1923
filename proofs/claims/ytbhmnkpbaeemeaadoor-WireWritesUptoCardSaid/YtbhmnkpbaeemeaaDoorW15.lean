import Derived.Test.YtbhmnkpbaeemeaaDoorW14
set_option linter.unusedVariables false
set_option linter.unusedSimpArgs false
namespace Go.Proofs.YtbhmnkpbaeemeaaDoor
open Go.RowKit

/-! ### What Unframe says of any bytes -/
def hd2 (b : List UInt8) : Nat := beV (b.take 2)
def ver (b : List UInt8) : Nat := beV ((b.drop 2).take 1)
def kd (b : List UInt8) : Nat := beV ((b.drop 3).take 1)
def sz (b : List UInt8) : Nat := beV ((b.drop 4).take 4)
def sumOk (b : List UInt8) : Prop := (b.drop (8 + sz b)).take 4 = lowR (Crc.sum (b.take (8 + sz b))) 4
def bodyOf (b : List UInt8) : List UInt8 := (b.drop 8).take (b.length - 12)

/-- Why bytes are no datagram: the number and the place. -/
inductive UnfErr (b : List UInt8) : Nat → Nat → Prop
  | long (h : 65507 < b.length) : UnfErr b 21 65507
  | short (h : b.length < 12) : UnfErr b 20 b.length
  | magic (h1 : b.length ≤ 65507) (h2 : 12 ≤ b.length) (h3 : hd2 b ≠ 20813) : UnfErr b 22 0
  | version (h1 : b.length ≤ 65507) (h2 : 12 ≤ b.length) (h3 : hd2 b = 20813) (h4 : ver b ≠ 1) : UnfErr b 23 2
  | less (h1 : b.length ≤ 65507) (h2 : 12 ≤ b.length) (h3 : hd2 b = 20813) (h4 : ver b = 1) (h5 : b.length < 12 + sz b) : UnfErr b 20 b.length
  | more (h1 : b.length ≤ 65507) (h2 : 12 ≤ b.length) (h3 : hd2 b = 20813) (h4 : ver b = 1) (h5 : 12 + sz b < b.length) : UnfErr b 28 (12 + sz b)
  | sum (h1 : b.length ≤ 65507) (h2 : 12 ≤ b.length) (h3 : hd2 b = 20813) (h4 : ver b = 1) (h5 : b.length = 12 + sz b) (h6 : ¬ sumOk b) : UnfErr b 24 (8 + sz b)
structure UnfOk (b : List UInt8) : Prop where
  max : b.length ≤ 65507
  min : 12 ≤ b.length
  magic : hd2 b = 20813
  version : ver b = 1
  size : b.length = 12 + sz b
  sum : sumOk b

def rs (b : List UInt8) (o : Nat) : RdS := ⟨true, false, 0, 0, b.take 8, o⟩
theorem rs_sumV (b : List UInt8) (o n : Nat) (h : o + n ≤ 8) (hb : 8 ≤ b.length) : (rs b o).sumV n = beV ((b.drop o).take n) := by
  unfold RdS.sumV
  rw [if_neg (by simp [rs, RdS.stuck]), if_neg (by simp only [rs, List.length_take]; omega)]
  simp only [rs]
  rw [List.drop_take, List.take_take, Nat.min_eq_left (by omega)]
theorem rs_sumS (b : List UInt8) (o n : Nat) (h : o + n ≤ 8) (hb : 8 ≤ b.length) : (rs b o).sumS n = rs b (o + n) := by
  unfold RdS.sumS
  rw [if_neg (by simp [rs, RdS.stuck]), if_neg (by simp only [rs, List.length_take]; omega)]
  rfl

theorem kd_lt (b : List UInt8) : kd b < 256 := by
  have := beV_lt ((b.drop 3).take 1)
  refine Nat.lt_of_lt_of_le this (Nat.le_trans (Nat.pow_le_pow_right (n := 256) (by omega) (i := _) (j := 1) ?_) (by omega))
  rw [List.length_take]
  exact Nat.min_le_left _ _
theorem sz_lt (b : List UInt8) : sz b < 4294967296 := by
  have := beV_lt ((b.drop 4).take 4)
  refine Nat.lt_of_lt_of_le this (Nat.le_trans (Nat.pow_le_pow_right (n := 256) (by omega) (i := _) (j := 4) ?_) (by omega))
  rw [List.length_take]
  exact Nat.min_le_left _ _

/-- Unframe of the program at bytes that are none: the error. -/
def UnfBad (w w' : World) (e : Ending) (b : List UInt8) : Prop :=
  ∃ code at_ p, UnfErr b code at_ ∧ e = .returned (.tuple #[.int .u8 0, .slice none 0 0, .iface 129 (.pointer (some ⟨p, 0, none⟩))]) ∧ ErrAt w' p (code : Nat) (at_ : Nat) ∧ w.heap.size ≤ p ∧ Below w.heap.size w w'
def UnfGood (w w' : World) (e : Ending) (b : List UInt8) : Prop :=
  ∃ A' m, UnfOk b ∧ e = .returned (.tuple #[.int .u8 (kd b : Int), .slice A' m m, .nilIface]) ∧ Ob w' w.heap.size A' m m (bodyOf b) ∧ Below w.heap.size w w'

set_option maxRecDepth 100000 in
theorem wunframe_size (w : World) (A : Option Addr) (n c : Nat) (b : List UInt8) (hx : Rd w A n c b) (hn : n ≤ 1000000000) (hs : 65507 < n ∨ n < 12) :
    Calls Tryd.prog 23 #[.slice A n c] w fun e w' => UnfBad w w' e b := by
  have hl := hx.len
  subst hl
  rcases hs with hs | hs
  · have hb : decide ((65507 : Int) < (b.length : Int)) = true := by simp; omega
    have HE := Lib.hid (UnfErr.long hs)
    clear hs
    go_enter Tryd.func23, Tryd.ntmps23
    go_wp2_with (go_at_call 61; refine (fault_any _ _ _).mono ?_; rintro e w' ⟨rfl, rfl⟩)
    go_ret3
    exact ⟨_, _, _, HE.out, rfl, Blk.new _ _ _, Nat.le_refl _, by go_grown⟩
  · have hb : decide ((65507 : Int) < (b.length : Int)) = false := by simp; omega
    have hb2 : decide ((b.length : Int) < 12) = true := by simp; omega
    have HE := Lib.hid (UnfErr.short hs)
    clear hs
    go_enter Tryd.func23, Tryd.ntmps23
    go_wp2_with (go_at_call 61; refine (fault_any _ _ _).mono ?_; rintro e w' ⟨rfl, rfl⟩)
    go_ret3
    exact ⟨_, _, _, HE.out, rfl, Blk.new _ _ _, Nat.le_refl _, by go_grown⟩
end Go.Proofs.YtbhmnkpbaeemeaaDoor
