import Derived.Test.YtbhmnkpbaeemeaaDoorBase
set_option linter.unusedVariables false
set_option linter.unusedSimpArgs false
namespace Go.Proofs.YtbhmnkpbaeemeaaDoor
open Go.RowKit

def wireS : ByteArray := ⟨#[119, 105, 114, 101]⟩

theorem fault_any (code at_ : Int) (w : World) :
    Calls Tryd.prog 61 #[.int .i64 code, .int .i64 at_] w fun e w' => e = .returned (.iface 129 (.pointer (some ⟨w.heap.size, 0, none⟩))) ∧
      w' = w.alloc (.cells #[.string wireS, .int .i64 at_, .iface 60 (.int .i64 code)] 131) := by
  go_enter Tryd.func61, Tryd.ntmps61
  go_wp2
  go_ret
  exact ⟨rfl, rfl⟩

theorem stuck_any (w : World) (p : Nat) (made bad : Bool) (h0 : w.cell? ⟨p, 0, none⟩ = some (.bool made)) (h1 : w.cell? ⟨p, 1, none⟩ = some (.bool bad)) :
    Calls Tryd.prog 132 #[.pointer (some ⟨p, 0, none⟩)] w fun e w' => e = .returned (.bool (!made || bad)) ∧ w = w' := by
  cases made
  all_goals
    go_enter Tryd.func132, Tryd.ntmps132
    go_wp2
    go_ret
    exact ⟨rfl, rfl⟩

theorem fail_bad (w : World) (p : Nat) (code at_ : Int) (h1 : w.cell? ⟨p, 1, none⟩ = some (.bool true)) :
    Calls Tryd.prog 133 #[.pointer (some ⟨p, 0, none⟩), .int .i64 code, .int .i64 at_] w fun e w' => e = .returned (.tuple #[]) ∧ w = w' := by
  go_enter Tryd.func133, Tryd.ntmps133
  go_wp2
  go_end0
  exact ⟨rfl, rfl⟩

theorem fail_good (w : World) (p : Nat) (code at_ : Int) (cs : Array Value) (T : TypeId) (h : Blk w p cs T) (h1 : cs[1]? = some (.bool false)) (h2 : 3 < cs.size) :
    Calls Tryd.prog 133 #[.pointer (some ⟨p, 0, none⟩), .int .i64 code, .int .i64 at_] w fun e w' => e = .returned (.tuple #[]) ∧
      w' = ((w.setCell ⟨p, 1, none⟩ (.bool true)).setCell ⟨p, 2, none⟩ (.int .i64 code)).setCell ⟨p, 3, none⟩ (.int .i64 at_) := by
  have c1 : w.cell? ⟨p, 1, none⟩ = some (.bool false) := (h.cell 1).trans h1
  have c2 : w.cell? ⟨p, 2, none⟩ = some (cs[2]'(by omega)) := (h.cell 2).trans (Array.getElem?_eq_getElem (by omega))
  have c3 : w.cell? ⟨p, 3, none⟩ = some (cs[3]'h2) := (h.cell 3).trans (Array.getElem?_eq_getElem (by omega))
  have f1 := h.frozen 1
  have f2 := h.frozen 2
  have f3 := h.frozen 3
  clear h1 h
  go_enter Tryd.func133, Tryd.ntmps133
  go_wp2
  go_end0
  exact ⟨rfl, rfl⟩

theorem told_good (w : World) (p : Nat) (h0 : w.cell? ⟨p, 0, none⟩ = some (.bool true)) (h1 : w.cell? ⟨p, 1, none⟩ = some (.bool false)) :
    Calls Tryd.prog 98 #[.pointer (some ⟨p, 0, none⟩)] w fun e w' => e = .returned .nilIface ∧ w = w' := by
  go_enter Tryd.func98, Tryd.ntmps98
  go_wp2
  go_ret
  exact ⟨rfl, rfl⟩

/-- An error of this layer: its number and its place. -/
def ErrAt (w : World) (b : Nat) (code at_ : Int) : Prop := Blk w b #[.string wireS, .int .i64 at_, .iface 60 (.int .i64 code)] 131

theorem told_unmade (w : World) (p : Nat) (h0 : w.cell? ⟨p, 0, none⟩ = some (.bool false)) :
    Calls Tryd.prog 98 #[.pointer (some ⟨p, 0, none⟩)] w fun e w' => ∃ b, e = .returned (.iface 129 (.pointer (some ⟨b, 0, none⟩))) ∧ w.heap.size ≤ b ∧ ErrAt w' b 3 0 ∧ Below w.heap.size w w' := by
  go_enter Tryd.func98, Tryd.ntmps98
  go_wp2_with (go_at_call 61; refine (fault_any _ _ _).mono ?_; rintro e w' ⟨rfl, rfl⟩)
  go_ret
  exact ⟨_, rfl, Nat.le_refl _, Blk.new _ _ _, (Below.refl _ _).alloc (Nat.le_refl _) _⟩

theorem told_bad (w : World) (p : Nat) (code at_ : Int) (h0 : w.cell? ⟨p, 0, none⟩ = some (.bool true)) (h1 : w.cell? ⟨p, 1, none⟩ = some (.bool true)) (h2 : w.cell? ⟨p, 2, none⟩ = some (.int .i64 code)) (h3 : w.cell? ⟨p, 3, none⟩ = some (.int .i64 at_)) :
    Calls Tryd.prog 98 #[.pointer (some ⟨p, 0, none⟩)] w fun e w' => ∃ b, e = .returned (.iface 129 (.pointer (some ⟨b, 0, none⟩))) ∧ w.heap.size ≤ b ∧ ErrAt w' b code at_ ∧ Below w.heap.size w w' := by
  go_enter Tryd.func98, Tryd.ntmps98
  go_wp2_with (go_at_call 61; refine (fault_any _ _ _).mono ?_; rintro e w' ⟨rfl, rfl⟩)
  go_region_with (go_at_call 61; refine (fault_any _ _ _).mono ?_; rintro e w' ⟨rfl, rfl⟩)
  all_goals
    go_wp2
    go_ret
    exact ⟨_, rfl, Nat.le_refl _, Blk.new _ _ _, by go_grown⟩
end Go.Proofs.YtbhmnkpbaeemeaaDoor
