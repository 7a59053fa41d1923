import Derived.Test.YtbhmnkpbaeemeaaDoorW13
set_option linter.unusedVariables false
set_option linter.unusedSimpArgs false
namespace Go.Proofs.YtbhmnkpbaeemeaaDoor
open Go.RowKit

theorem RdS.sumV_lt (s : RdS) (n : Nat) : s.sumV n < 256 ^ n := by
  have h0 : 0 < 256 ^ n := Nat.pow_pos (by omega)
  unfold RdS.sumV
  split
  · exact h0
  · split
    · exact h0
    · refine Nat.lt_of_lt_of_le (beV_lt _) (Nat.pow_le_pow_right (by omega) ?_)
      rw [List.length_take]
      exact Nat.min_le_left _ _

set_option maxRecDepth 100000 in
theorem rU8_any (w : World) (p : Nat) (A : Option Addr) (c : Nat) (s : RdS) (h : Rdr w p A c s) :
    Calls Tryd.prog 69 #[.pointer (some ⟨p, 0, none⟩)] w fun e w' => e = .returned (.int .u8 (s.sumV 1 : Int)) ∧ Rdr w' p A c (s.sumS 1) ∧ Chg w w' (· = p) := by
  have HT := Lib.hid (sum_any w p A c s h 1 (by omega) (by omega))
  have hV : s.sumV 1 < 256 := s.sumV_lt 1
  generalize s.sumV 1 = V at *
  clear h
  go_enter Tryd.func69, Tryd.ntmps69
  go_wp2_with (go_at_call 134; refine HT.out.mono ?_; rintro e w1 ⟨rfl, hr, hch⟩)
  go_ret
  exact ⟨rfl, hr, hch⟩

set_option maxRecDepth 100000 in
theorem rU16_any (w : World) (p : Nat) (A : Option Addr) (c : Nat) (s : RdS) (h : Rdr w p A c s) :
    Calls Tryd.prog 68 #[.pointer (some ⟨p, 0, none⟩)] w fun e w' => e = .returned (.int .u16 (s.sumV 2 : Int)) ∧ Rdr w' p A c (s.sumS 2) ∧ Chg w w' (· = p) := by
  have HT := Lib.hid (sum_any w p A c s h 2 (by omega) (by omega))
  have hV : s.sumV 2 < 65536 := s.sumV_lt 2
  generalize s.sumV 2 = V at *
  clear h
  go_enter Tryd.func68, Tryd.ntmps68
  go_wp2_with (go_at_call 134; refine HT.out.mono ?_; rintro e w1 ⟨rfl, hr, hch⟩)
  go_ret
  exact ⟨rfl, hr, hch⟩

set_option maxRecDepth 100000 in
theorem rU32_any (w : World) (p : Nat) (A : Option Addr) (c : Nat) (s : RdS) (h : Rdr w p A c s) :
    Calls Tryd.prog 70 #[.pointer (some ⟨p, 0, none⟩)] w fun e w' => e = .returned (.int .u32 (s.sumV 4 : Int)) ∧ Rdr w' p A c (s.sumS 4) ∧ Chg w w' (· = p) := by
  have HT := Lib.hid (sum_any w p A c s h 4 (by omega) (by omega))
  have hV : s.sumV 4 < 4294967296 := s.sumV_lt 4
  generalize s.sumV 4 = V at *
  clear h
  go_enter Tryd.func70, Tryd.ntmps70
  go_wp2_with (go_at_call 134; refine HT.out.mono ?_; rintro e w1 ⟨rfl, hr, hch⟩)
  go_ret
  exact ⟨rfl, hr, hch⟩

set_option maxRecDepth 100000 in
theorem rU64_any (w : World) (p : Nat) (A : Option Addr) (c : Nat) (s : RdS) (h : Rdr w p A c s) :
    Calls Tryd.prog 103 #[.pointer (some ⟨p, 0, none⟩)] w fun e w' => e = .returned (.int .u64 (s.sumV 8 : Int)) ∧ Rdr w' p A c (s.sumS 8) ∧ Chg w w' (· = p) := by
  have HT := Lib.hid (sum_any w p A c s h 8 (by omega) (by omega))
  have hV : s.sumV 8 < 18446744073709551616 := s.sumV_lt 8
  generalize s.sumV 8 = V at *
  clear h
  go_enter Tryd.func103, Tryd.ntmps103
  go_wp2_with (go_at_call 134; refine HT.out.mono ?_; rintro e w1 ⟨rfl, hr, hch⟩)
  go_ret
  exact ⟨rfl, hr, hch⟩
end Go.Proofs.YtbhmnkpbaeemeaaDoor
