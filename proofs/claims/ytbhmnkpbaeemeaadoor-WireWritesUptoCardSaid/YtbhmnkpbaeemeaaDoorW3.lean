import Derived.Test.YtbhmnkpbaeemeaaDoorW2
set_option linter.unusedVariables false
set_option linter.unusedSimpArgs false
namespace Go.Proofs.YtbhmnkpbaeemeaaDoor
open Go.RowKit

/-- One part of a field: a slice of bytes. -/
structure Part where
  A : Option Addr
  n : Nat
  c : Nat
  xs : List UInt8

def flat (ps : List Part) : List UInt8 := (ps.map (·.xs)).flatten
theorem flat_take_succ (ps : List Part) (k : Nat) (h : k < ps.length) : flat (ps.take (k + 1)) = flat (ps.take k) ++ (ps[k]'h).xs := by
  unfold flat
  rw [List.take_succ_eq_append_getElem h, List.map_append, List.flatten_append]
  simp
theorem flat_take_le (ps : List Part) (k : Nat) : (flat (ps.take k)).length ≤ (flat ps).length := by
  unfold flat
  have : ps.map (·.xs) = (ps.take k).map (·.xs) ++ (ps.drop k).map (·.xs) := by rw [← List.map_append, List.take_append_drop]
  rw [this, List.flatten_append, List.length_append]
  omega

structure Parts (w : World) (F : Nat → Prop) (P : Option Addr) (ps : List Part) : Prop where
  nil : P = none → ps = []
  blk : P = none ∨ ∃ q, P = some ⟨q, 0, none⟩ ∧ ¬ F q ∧ Blk w q (ps.map fun p => Value.slice p.A p.n p.c).toArray 22
  rd : ∀ p ∈ ps, Rd w p.A p.n p.c p.xs ∧ (0 < p.n → ∀ k, inA p.A k → ¬ F k)
  small : ps.length ≤ 1000

theorem Parts.chg {w w' : World} {F G : Nat → Prop} {P : Option Addr} {ps : List Part} (h : Parts w F P ps) (hc : Chg w w' G) (hG : ∀ k, k < w.heap.size → G k → F k) : Parts w' F P ps :=
  ⟨h.nil, by
    rcases h.blk with h0 | ⟨q, e, hq, hb⟩
    · exact .inl h0
    · exact .inr ⟨q, e, hq, hb.chg hc fun hg => hq (hG _ hb.lt hg)⟩, fun p hp => ⟨by
      have hr := h.rd p hp
      have : Chg w w' F := hc.mono hG
      exact hr.1.chg this hr.2, (h.rd p hp).2⟩, h.small⟩

def WrS.lay (s : WrS) (own : Int) (xs : List UInt8) : WrS :=
  if !s.made || s.bad then s
  else if own ≠ 0 then { s with bad := true, code := own, at_ := s.buf.length }
  else if s.most - s.buf.length < xs.length then { s with bad := true, code := 21, at_ := s.buf.length }
  else { s with buf := s.buf ++ xs }

theorem Wr.failed {w : World} {p : Nat} {A : Option Addr} {c : Nat} {s : WrS} (h : Wr w p A c s) (code at_ : Int) :
    Wr (((w.setCell ⟨p, 1, none⟩ (.bool true)).setCell ⟨p, 2, none⟩ (.int .i64 code)).setCell ⟨p, 3, none⟩ (.int .i64 at_)) p A c { s with bad := true, code := code, at_ := at_ } := by
  have hc : Chg w (((w.setCell ⟨p, 1, none⟩ (.bool true)).setCell ⟨p, 2, none⟩ (.int .i64 code)).setCell ⟨p, 3, none⟩ (.int .i64 at_)) (· = p) := by
    refine Chg.set (Chg.set (Chg.set (Chg.refl _ _) ?_ _) ?_ _) ?_ _ <;> exact fun _ => rfl
  refine ⟨?_, h.row.chg hc (fun k hk e => h.ne (by subst e; exact hk)), h.ne, h.small, h.most0, h.most1⟩
  exact ((h.blk.set 1 (.bool true)).set 2 (.int .i64 code)).set 3 (.int .i64 at_)

theorem chg_failed (w : World) (p : Nat) (code at_ : Int) (A : Option Addr) :
    Chg w (((w.setCell ⟨p, 1, none⟩ (.bool true)).setCell ⟨p, 2, none⟩ (.int .i64 code)).setCell ⟨p, 3, none⟩ (.int .i64 at_)) (wrF p A) := by
  refine Chg.set (Chg.set (Chg.set (Chg.refl _ _) ?_ _) ?_ _) ?_ _ <;> exact fun _ => .inl rfl

/-- What a call of a writer leaves. -/
def WrPost (w w' : World) (p : Nat) (A : Option Addr) (s' : WrS) : Prop :=
  ∃ A' c', Wr w' p A' c' s' ∧ Chg w w' (wrF p A) ∧ ∀ k, inA A' k → inA A k ∨ w.heap.size ≤ k

set_option maxRecDepth 100000 in
theorem lay_stuck (w : World) (p : Nat) (A : Option Addr) (c : Nat) (s : WrS) (h : Wr w p A c s) (own : Int) (P : Option Addr) (m m' : Nat) (hs : (!s.made || s.bad) = true) :
    Calls Tryd.prog 65 #[.pointer (some ⟨p, 0, none⟩), .int .i64 own, .slice P m m'] w fun e w' => e = .returned (.tuple #[]) ∧ w = w' := by
  have c0 := h.blk.cell 0
  have c1 := h.blk.cell 1
  have S := stuck_any w p s.made s.bad (c0.trans rfl) (c1.trans rfl)
  rw [hs] at S
  have HS := Lib.hid S; clear S c0 c1 h hs
  go_enter Tryd.func65, Tryd.ntmps65
  go_wp2_with (go_at_call 132; refine HS.out.mono ?_; rintro e w' ⟨rfl, rfl⟩)
  go_returns
  exact ⟨rfl, rfl⟩

theorem lay_nil (w : World) (own : Int) (P : Option Addr) (m m' : Nat) :
    Calls Tryd.prog 65 #[.pointer none, .int .i64 own, .slice P m m'] w fun e w' => e = .returned (.tuple #[]) ∧ w = w' := by
  go_enter Tryd.func65, Tryd.ntmps65
  go_wp2
  go_returns
  exact ⟨rfl, rfl⟩
end Go.Proofs.YtbhmnkpbaeemeaaDoor
