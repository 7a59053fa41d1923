import Derived.Test.YtbhmnkpbaeemeaaDoorW1
set_option linter.unusedVariables false
set_option linter.unusedSimpArgs false
namespace Go.Proofs.YtbhmnkpbaeemeaaDoor
open Go.RowKit

/-- A copy: fresh, and just as long as it is; nil where there is nothing. -/
theorem twin_nil (w : World) (A : Option Addr) (c : Nat) :
    Calls Tryd.prog 71 #[.slice A 0 c] w fun e w' => e = .returned (.slice none 0 0) ∧ w = w' := by
  go_enter Tryd.func71, Tryd.ntmps71
  go_wp2
  go_ret
  exact ⟨rfl, rfl⟩

set_option maxRecDepth 100000 in
theorem twin_some (w : World) (A : Option Addr) (n c : Nat) (xs : List UInt8) (hx : Rd w A n c xs) (h0 : 0 < n) (hn : n ≤ 1000000000) :
    Calls Tryd.prog 71 #[.slice A n c] w fun e w' => e = .returned (.slice (some ⟨w.heap.size, 0, none⟩) n n) ∧ Blk w' w.heap.size (bs xs).toArray 5 ∧ w'.heap.size = w.heap.size + 1 ∧ Below w.heap.size w w' := by
  obtain ⟨ad, rfl, hsp, hsrc⟩ := (hx.alloc (.cells (madeCells #[.int .u8 0] n) 5)).src h0
  have hl := hx.len
  have hlb : ((n : Int) == 0) = false := by simp; omega
  have hmk := run_make_row' (P := Tryd.prog) 22 5 (.int .u8 0) 1 Tryd.underlying22 info5 rfl .i64 .i64 n (by omega) (by omega)
  have Hl := Lib.hid hl; clear hl
  have Hsp := Lib.hid hsp; clear hsp
  have Hsrc := Lib.hid hsrc; clear hsrc
  clear hx
  go_enter Tryd.func71, Tryd.ntmps71
  go_wp2_with (refine wpList_copy_own rfl (.tmp 10) (.tmp 11) 22 22 rfl 5 Tryd.underlying22 size5 w.heap.size 0 n n ad n c rfl rfl (madeCells #[.int .u8 0] n) 5 (Blk.new _ _ _) (bs xs) ?c1 Hsrc.out ?c2 (bs_oneCell xs) ?_)
  case c1 => simp [bs_length, Hl.out]
  case c2 => simp [bs_length, Hl.out, size_madeCells]
  go_ret
  have e1 : List.drop (bs xs).length (madeCells #[Value.int .u8 0] n).toList = [] := List.drop_eq_nil_of_le (by simp [bs_length, Hl.out, size_madeCells])
  rw [e1, List.append_nil]
  exact ⟨rfl, setRow_heap _ _ _ _ _ _ (Blk.new _ _ _), by simp, below_setRow ((Below.refl _ _).alloc (Nat.le_refl _) _) (Nat.le_refl _) _⟩

theorem twin_any (w : World) (A : Option Addr) (n c : Nat) (xs : List UInt8) (hx : Rd w A n c xs) (hn : n ≤ 1000000000) :
    Calls Tryd.prog 71 #[.slice A n c] w fun e w' => ∃ A', e = .returned (.slice A' n n) ∧ Ob w' w.heap.size A' n n xs ∧ Below w.heap.size w w' := by
  rcases Nat.eq_zero_or_pos n with rfl | h0
  · refine (twin_nil w A c).mono ?_
    rintro e w' ⟨rfl, rfl⟩
    have : xs = [] := List.eq_nil_of_length_eq_zero hx.len
    subst this
    exact ⟨_, rfl, Ob.nil _ _, Below.refl _ _⟩
  · refine (twin_some w A n c xs hx h0 hn).mono ?_
    rintro e w' ⟨rfl, hb, hs, hB⟩
    have hl := hx.len
    subst hl
    exact ⟨_, rfl, Ob.ofBlk hb (Nat.le_refl _) (by unfold maxLen; omega), hB⟩

/-- The four bytes of a sum, the low one first. -/
def low4 (s : Int) : List UInt8 := [u8of (s % 256), u8of (s / 256 % 256), u8of (s / 65536 % 256), u8of (s / 16777216)]

theorem low4_bs {s : Int} (h0 : 0 ≤ s) (h1 : s < 4294967296) : bs (low4 s) = [.int .u8 (s % 256), .int .u8 (s / 256 % 256), .int .u8 (s / 65536 % 256), .int .u8 (s / 16777216)] := by
  simp only [bs, low4, List.map_cons, List.map_nil]
  rw [bs_u8of (by omega) (by omega), bs_u8of (by omega) (by omega), bs_u8of (by omega) (by omega), bs_u8of (by omega) (by omega)]

theorem low_any (s : Int) (w : World) (h0 : 0 ≤ s) (h1 : s < 4294967296) :
    Calls Tryd.prog 66 #[.int .u32 s] w fun e w' => e = .returned (.slice (some ⟨w.heap.size, 0, none⟩) 4 4) ∧ w' = w.alloc (.cells (bs (low4 s)).toArray 5) := by
  go_enter Tryd.func66, Tryd.ntmps66
  go_wp2
  go_ret
  exact ⟨rfl, by rw [low4_bs h0 h1]⟩

/-! ### The writer -/
structure WrS where
  made : Bool
  bad : Bool
  code : Int
  at_ : Int
  most : Int
  buf : List UInt8

/-- A writer at block p, its row at A. -/
structure Wr (w : World) (p : Nat) (A : Option Addr) (c : Nat) (s : WrS) : Prop where
  blk : Blk w p #[.bool s.made, .bool s.bad, .int .i64 s.code, .int .i64 s.at_, .int .i64 s.most, .slice A s.buf.length c] 128
  row : Ob w 0 A s.buf.length c s.buf
  ne : ¬ inA A p
  small : s.buf.length ≤ 65507
  most0 : 0 ≤ s.most
  most1 : s.most ≤ 65507

/-- What a writer's calls may touch. -/
def wrF (p : Nat) (A : Option Addr) (k : Nat) : Prop := k = p ∨ inA A k

theorem Wr.chg {w w' : World} {p : Nat} {A : Option Addr} {c : Nat} {s : WrS} {F : Nat → Prop} (h : Wr w p A c s) (hc : Chg w w' F) (hF : ∀ k, wrF p A k → ¬ F k) : Wr w' p A c s :=
  ⟨h.blk.chg hc (hF _ (.inl rfl)), h.row.chg hc fun k hk => hF k (.inr hk), h.ne, h.small, h.most0, h.most1⟩
theorem Wr.below {w w' : World} {p : Nat} {A : Option Addr} {c : Nat} {s : WrS} (h : Wr w p A c s) (hc : Below w.heap.size w w') : Wr w' p A c s :=
  h.chg (Chg.ofBelow hc fun _ => False) fun _ _ => id
theorem Wr.lt {w : World} {p : Nat} {A : Option Addr} {c : Nat} {s : WrS} (h : Wr w p A c s) {k : Nat} (hk : wrF p A k) : k < w.heap.size := by
  rcases hk with rfl | hk
  · exact h.blk.lt
  · exact (h.row.lt hk).2

theorem newWriter_any (m : Int) (w : World) :
    Calls Tryd.prog 36 #[.int .i64 m] w fun e w' => e = .returned (.pointer (some ⟨w.heap.size, 0, none⟩)) ∧ Wr w' w.heap.size none 0 ⟨true, false, 0, 0, max 0 (min m 65507), []⟩ ∧ Below w.heap.size w w' := by
  have fin : ∀ m' : Int, m' = max 0 (min m 65507) → Wr (w.alloc (.cells #[.bool true, .bool false, .int .i64 0, .int .i64 0, .int .i64 m', .slice none 0 0] 128)) w.heap.size none 0 ⟨true, false, 0, 0, max 0 (min m 65507), []⟩ := by
    rintro m' rfl
    exact ⟨Blk.new _ _ _, Ob.nil _ _, (by rintro ⟨a, e, _⟩; cases e), by simp, by simp only []; omega, by simp only []; omega⟩
  have Fin := Lib.hid fin; clear fin
  go_enter Tryd.func36, Tryd.ntmps36
  go_wp2
  all_goals
    go_ret
    refine ⟨rfl, Fin.out _ (by omega), by go_grown⟩

theorem newReader_any (w : World) (A : Option Addr) (n c : Nat) (xs : List UInt8) (hx : Rd w A n c xs) (hn : n ≤ 1000000000) :
    Calls Tryd.prog 29 #[.slice A n c] w fun e w' => ∃ p A', e = .returned (.pointer (some ⟨p, 0, none⟩)) ∧ w.heap.size ≤ p ∧ Ob w' w.heap.size A' n n xs ∧ 
      Blk w' p #[.bool true, .bool false, .int .i64 0, .int .i64 0, .slice A' n n, .int .i64 0] 64 ∧ ¬ inA A' p ∧ Below w.heap.size w w' := by
  go_enter Tryd.func29, Tryd.ntmps29
  go_wp2_with (go_at_call 71; refine (twin_any _ _ _ _ xs hx hn).mono ?_; rintro e w1 ⟨A', rfl, hv, hb⟩)
  go_ret
  have hs := hb.size
  refine ⟨_, A', rfl, hs, hv.alloc _, Blk.new _ _ _, fun h => ?_, hb.alloc hs _⟩
  have := (hv.lt h).2
  omega

end Go.Proofs.YtbhmnkpbaeemeaaDoor
