import Derived.Test.YtbhmnkpbaeemeaaDoorW16
set_option linter.unusedVariables false
set_option linter.unusedSimpArgs false
namespace Go.Proofs.YtbhmnkpbaeemeaaDoor
open Go.RowKit

/-- byte i of a list, as a number -/
def yb (b : List UInt8) (i : Nat) : Nat := (b.getD i 0).toNat
theorem yb_lt (b : List UInt8) (i : Nat) : yb b i < 256 := UInt8.toNat_lt _
theorem yb_get (b : List UInt8) (i : Nat) (h : i < b.length) : yb b i = (b[i]'h).toNat := by simp [yb, h]
theorem take_yb (b : List UInt8) (o n : Nat) (h : o + n ≤ b.length) : (b.drop o).take n = (List.range n).map fun i => b.getD (o + i) 0 := by
  apply List.ext_getElem
  · simp; omega
  · intro i h1 h2
    simp at h1 h2
    simp [List.getElem_take, List.getElem_drop, show o + i < b.length by omega]
theorem hd2_yb (b : List UInt8) (h : 2 ≤ b.length) : hd2 b = yb b 0 * 256 + yb b 1 := by
  unfold hd2
  have := take_yb b 0 2 (by omega)
  rw [List.drop_zero] at this
  rw [this]
  simp [beV, List.range_succ, yb]
theorem ver_yb (b : List UInt8) (h : 3 ≤ b.length) : ver b = yb b 2 := by
  unfold ver
  rw [take_yb b 2 1 (by omega)]
  simp [beV, List.range_succ, yb]
theorem kd_yb (b : List UInt8) (h : 4 ≤ b.length) : kd b = yb b 3 := by
  unfold kd
  rw [take_yb b 3 1 (by omega)]
  simp [beV, List.range_succ, yb]
theorem sz_yb (b : List UInt8) (h : 8 ≤ b.length) : sz b = yb b 4 * 16777216 + yb b 5 * 65536 + yb b 6 * 256 + yb b 7 := by
  unfold sz
  rw [take_yb b 4 4 (by omega)]
  simp [beV, List.range_succ, yb]
  omega
theorem sumOk_yb (b : List UInt8) (h : b.length = 12 + sz b) :
    sumOk b ↔ yb b (8 + sz b) + yb b (9 + sz b) * 256 + yb b (10 + sz b) * 65536 + yb b (11 + sz b) * 16777216 = Crc.sum (b.take (8 + sz b)) := by
  unfold sumOk
  rw [take_yb b (8 + sz b) 4 (by omega)]
  have hS := Crc.sum_lt (b.take (8 + sz b))
  generalize Crc.sum (b.take (8 + sz b)) = S at hS
  simp only [lowR, List.range_succ, List.range_zero, List.nil_append, List.cons_append, List.map_cons, List.map_nil, List.cons.injEq, and_true]
  rw [show 8 + sz b + 1 = 9 + sz b by omega, show 8 + sz b + 2 = 10 + sz b by omega, show 8 + sz b + 3 = 11 + sz b by omega, Nat.add_zero]
  have e : ∀ (i z : Nat), z < 256 → (b.getD i 0 = lastB z ↔ yb b i = z) := by
    intro i z hz
    unfold yb
    rw [← UInt8.toNat_inj, lastB_toNat z hz]
  rw [e _ _ (by omega), e _ _ (by omega), e _ _ (by omega), e _ _ (by omega)]
  have h0 := yb_lt b (8 + sz b)
  have h1 := yb_lt b (9 + sz b)
  have h2 := yb_lt b (10 + sz b)
  have h3 := yb_lt b (11 + sz b)
  simp only [Nat.pow_zero, Nat.reducePow]
  omega

theorem Rd.yat {w : World} {bb o n c : Nat} {b : List UInt8} (h : Rd w (some ⟨bb, o, none⟩) n c b) (i : Nat) (hi : i < n) : w.cell? ⟨bb, o + i, none⟩ = some (.int .u8 (yb b i : Int)) := by
  have hl := h.len
  obtain ⟨b', o', e, hc⟩ := h.at_ i (by omega)
  cases e
  rw [hc, yb_get b i (by omega)]

/-- Unframe of the document at bytes that are none, and at a datagram. -/
def RUnfBad (w w' : World) (e : Ending) (b : List UInt8) : Prop :=
  ∃ code at_ : Nat, UnfErr b code at_ ∧ e = .returned (.tuple #[.int .i64 0, .slice none 0 0, .agg #[.int .i64 (code : Int), .int .i64 (at_ : Int)]]) ∧ Below w.heap.size w w'
def RUnfGood (w w' : World) (e : Ending) (b : List UInt8) : Prop :=
  ∃ A' m c', UnfOk b ∧ e = .returned (.tuple #[.int .i64 (kd b : Int), .slice A' m c', .agg #[.int .i64 0, .int .i64 0]]) ∧ Ob w' w.heap.size A' m c' (bodyOf b) ∧ Below w.heap.size w w'

set_option maxRecDepth 100000 in
theorem runframe_size (w : World) (A : Option Addr) (n c : Nat) (b : List UInt8) (hx : Rd w A n c b) (hn : n ≤ 1000000000) (hs : 65507 < n ∨ n < 12) :
    Calls Tryd.prog 67 #[.slice A n c] w fun e w' => RUnfBad w w' e b := by
  have hl := hx.len
  subst hl
  rcases hs with hs | hs
  · have hb : decide ((65507 : Int) < (b.length : Int)) = true := by simp; omega
    have HE := Lib.hid (UnfErr.long hs)
    clear hs
    go_enter Tryd.func67, Tryd.ntmps67
    go_wp2
    refine bodyPost_ret (v := .tuple #[.int .i64 0, .slice none 0 0, .agg #[.int .i64 21, .int .i64 65507]]) (by simp [results, Tryd.results67, go_sem]) rfl ?_
    exact ⟨_, _, HE.out, rfl, by go_grown⟩
  · have hb : decide ((65507 : Int) < (b.length : Int)) = false := by simp; omega
    have hb2 : decide ((b.length : Int) < 12) = true := by simp; omega
    have HE := Lib.hid (UnfErr.short hs)
    clear hs
    go_enter Tryd.func67, Tryd.ntmps67
    go_wp2
    refine bodyPost_ret (v := .tuple #[.int .i64 0, .slice none 0 0, .agg #[.int .i64 20, .int .i64 (b.length : Int)]]) (by simp [results, Tryd.results67, go_sem]) rfl ?_
    exact ⟨_, _, HE.out, rfl, by go_grown⟩
end Go.Proofs.YtbhmnkpbaeemeaaDoor
