import Derived.Test.YtbhmnkpbaeemeaaDoorW4
set_option linter.unusedVariables false
set_option linter.unusedSimpArgs false
namespace Go.Proofs.YtbhmnkpbaeemeaaDoor
open Go.RowKit

theorem lay_any (w : World) (p : Nat) (A : Option Addr) (c : Nat) (s : WrS) (h : Wr w p A c s) (own : Int) (P : Option Addr) (ps : List Part) (hp : Parts w (wrF p A) P ps)
    (hl : (flat ps).length ≤ 1000000000) :
    Calls Tryd.prog 65 #[.pointer (some ⟨p, 0, none⟩), .int .i64 own, .slice P ps.length ps.length] w fun e w' => e = .returned (.tuple #[]) ∧ WrPost w w' p A (s.lay own (flat ps)) := by
  by_cases hs : (!s.made || s.bad) = true
  · refine (lay_stuck w p A c s h own P _ _ hs).mono ?_
    rintro e w' ⟨rfl, rfl⟩
    refine ⟨rfl, A, c, ?_, Chg.refl _ _, fun k hk => .inl hk⟩
    rw [show s.lay own (flat ps) = s by unfold WrS.lay; rw [if_pos hs]]
    exact h
  · exact lay_live w p A c s h own P ps hp hl (by simpa using hs)

theorem Parts.none {w : World} {F : Nat → Prop} : Parts w F none [] := ⟨fun _ => rfl, .inl rfl, fun _ h => by simp at h, by simp⟩
theorem Parts.one {w : World} {F : Nat → Prop} {q : Nat} {A : Option Addr} {n c : Nat} {xs : List UInt8} (hb : Blk w q #[.slice A n c] 22) (hq : ¬ F q) (hr : Rd w A n c xs) (hF : 0 < n → ∀ k, inA A k → ¬ F k) :
    Parts w F (some ⟨q, 0, Option.none⟩) [⟨A, n, c, xs⟩] :=
  ⟨(fun e => by cases e), .inr ⟨q, rfl, hq, hb⟩, (fun p hp => by simp at hp; subst hp; exact ⟨hr, hF⟩), by simp⟩
theorem Parts.two {w : World} {F : Nat → Prop} {q : Nat} {A A' : Option Addr} {n c n' c' : Nat} {xs ys : List UInt8} (hb : Blk w q #[.slice A n c, .slice A' n' c'] 22) (hq : ¬ F q) (hr : Rd w A n c xs) (hF : 0 < n → ∀ k, inA A k → ¬ F k) (hr' : Rd w A' n' c' ys) (hF' : 0 < n' → ∀ k, inA A' k → ¬ F k) :
    Parts w F (some ⟨q, 0, Option.none⟩) [⟨A, n, c, xs⟩, ⟨A', n', c', ys⟩] :=
  ⟨(fun e => by cases e), .inr ⟨q, rfl, hq, hb⟩, (fun p hp => by
    simp at hp
    rcases hp with rfl | rfl
    · exact ⟨hr, hF⟩
    · exact ⟨hr', hF'⟩), by simp⟩

/-- A number as so many bytes, the high one first. -/
def big2 (v : Int) : List UInt8 := [u8of (v / 256), u8of (v % 256)]
def big4 (v : Int) : List UInt8 := [u8of (v / 16777216), u8of (v / 65536 % 256), u8of (v / 256 % 256), u8of (v % 256)]
def big8 (v : Int) : List UInt8 := [u8of (v / 72057594037927936), u8of (v / 281474976710656 % 256), u8of (v / 1099511627776 % 256), u8of (v / 4294967296 % 256), u8of (v / 16777216 % 256), u8of (v / 65536 % 256), u8of (v / 256 % 256), u8of (v % 256)]


theorem make2 : ∀ w : World, (Instr.makeSlice 22 (.int .i64 2) (.int .i64 2)).run Tryd.prog w = .ok (.slice (some ⟨w.heap.size, 0, none⟩) 2 2) (w.alloc (.cells #[.int .u8 0, .int .u8 0] 5)) := fun _ => by kernel_rfl
set_option maxRecDepth 100000 in
theorem high2 (v : Int) (w : World) (h0 : 0 ≤ v) (h1 : v ≤ 65535) :
    Calls Tryd.prog 131 #[.int .u64 v, .int .i64 2] w fun e w' => e = .returned (.slice (some ⟨w.heap.size, 0, none⟩) 2 2) ∧ w' = w.alloc (.cells (bs (big2 v)).toArray 5) := by
  have hmk := make2
  go_enter Tryd.func131, Tryd.ntmps131
  go_wp2
  go_rounds 3
  go_returns
  refine ⟨rfl, ?_⟩
  rw [show bs (big2 v) = _ by simp only [bs, big2, List.map_cons, List.map_nil]; rw [bs_u8of (by omega) (by omega), bs_u8of (by omega) (by omega)]]

theorem make4 : ∀ w : World, (Instr.makeSlice 22 (.int .i64 4) (.int .i64 4)).run Tryd.prog w = .ok (.slice (some ⟨w.heap.size, 0, none⟩) 4 4) (w.alloc (.cells #[.int .u8 0, .int .u8 0, .int .u8 0, .int .u8 0] 5)) := fun _ => by kernel_rfl
set_option maxRecDepth 100000 in
theorem high4 (v : Int) (w : World) (h0 : 0 ≤ v) (h1 : v ≤ 4294967295) :
    Calls Tryd.prog 131 #[.int .u64 v, .int .i64 4] w fun e w' => e = .returned (.slice (some ⟨w.heap.size, 0, none⟩) 4 4) ∧ w' = w.alloc (.cells (bs (big4 v)).toArray 5) := by
  have hmk := make4
  go_enter Tryd.func131, Tryd.ntmps131
  go_wp2
  go_rounds 5
  go_returns
  refine ⟨rfl, ?_⟩
  rw [show bs (big4 v) = _ by simp only [bs, big4, List.map_cons, List.map_nil]; rw [bs_u8of (by omega) (by omega), bs_u8of (by omega) (by omega), bs_u8of (by omega) (by omega), bs_u8of (by omega) (by omega)]]

theorem make8 : ∀ w : World, (Instr.makeSlice 22 (.int .i64 8) (.int .i64 8)).run Tryd.prog w = .ok (.slice (some ⟨w.heap.size, 0, none⟩) 8 8) (w.alloc (.cells #[.int .u8 0, .int .u8 0, .int .u8 0, .int .u8 0, .int .u8 0, .int .u8 0, .int .u8 0, .int .u8 0] 5)) := fun _ => by kernel_rfl
set_option maxRecDepth 100000 in
theorem high8 (v : Int) (w : World) (h0 : 0 ≤ v) (h1 : v ≤ 18446744073709551615) :
    Calls Tryd.prog 131 #[.int .u64 v, .int .i64 8] w fun e w' => e = .returned (.slice (some ⟨w.heap.size, 0, none⟩) 8 8) ∧ w' = w.alloc (.cells (bs (big8 v)).toArray 5) := by
  have hmk := make8
  go_enter Tryd.func131, Tryd.ntmps131
  go_wp2
  go_rounds 9
  go_returns
  refine ⟨rfl, ?_⟩
  rw [show bs (big8 v) = _ by simp only [bs, big8, List.map_cons, List.map_nil]; rw [bs_u8of (by omega) (by omega), bs_u8of (by omega) (by omega), bs_u8of (by omega) (by omega), bs_u8of (by omega) (by omega), bs_u8of (by omega) (by omega), bs_u8of (by omega) (by omega), bs_u8of (by omega) (by omega), bs_u8of (by omega) (by omega)]]
end Go.Proofs.YtbhmnkpbaeemeaaDoor
