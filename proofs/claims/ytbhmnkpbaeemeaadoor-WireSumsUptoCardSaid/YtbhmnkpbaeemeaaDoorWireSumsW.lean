import Derived.Test.YtbhmnkpbaeemeaaDoorW10
set_option linter.unusedVariables false
set_option linter.unusedSimpArgs false
namespace Go.Proofs.YtbhmnkpbaeemeaaDoor
open Go.RowKit

theorem ret_bool {a b : Bool} (h : a = b) : Ending.returned (.bool a) = .returned (.bool b) := by rw [h]

theorem wireSums_walk (w : World) (A : Option Addr) (n c : Nat) (xs : List UInt8) (hx : Rd w A n c xs) (hn : n ≤ 999999000) (hT : Tab w) :
    Calls Tryd.prog 3 #[.slice A n c] w fun e w' => e = .returned (.bool true) ∧ Below w.heap.size w w' := by
  have hl := hx.len
  subst hl
  have hTl := hT.lt
  have hL := Lib.hid (lend_any w A xs.length c xs hx hn)
  go_enter Tryd.func3, Tryd.ntmps3
  go_wp2_with (go_at_call 13; refine hL.out.mono ?_; rintro e w1 ⟨A1, c1, rfl, ho, hb⟩)
  go_wp2_with first | (go_at_call 14; refine (Sum_any w1 _ _ _ xs (ho.rd.front rfl) (hT.below hb hTl)).mono ?_; rintro e w2 ⟨rfl, rfl⟩) | (go_at_call 15; refine (refSum_any w1 _ _ _ xs (hx.below hb)).mono ?_; rintro e w2 ⟨rfl, rfl⟩) | (go_at_call 16; refine (kept_true w1 _ _ _ xs ho.rd _ _ (hx.below hb) hn).mono ?_; rintro e w2 ⟨rfl, q, rfl⟩)
  go_ret
  exact ⟨ret_bool (by simp), below_drewN hb q⟩
end Go.Proofs.YtbhmnkpbaeemeaaDoor
