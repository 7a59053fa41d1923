import Derived.Test.YtbhmnkpbaeemeaaDoorW20
set_option linter.unusedVariables false
set_option linter.unusedSimpArgs false
namespace Go.Proofs.YtbhmnkpbaeemeaaDoor
open Go.RowKit

/-- The document's writer at block q, its row at A, in the same state. -/
structure Rw (w : World) (q : Nat) (A : Option Addr) (c : Nat) (s : WrS) : Prop where
  blk : Blk w q #[.bool s.made, .int .i64 s.most, .slice A s.buf.length c, .int .i64 s.code, .int .i64 s.at_] 56
  row : Rd w A s.buf.length c s.buf
  ne : ∀ k, inA A k → k ≠ q
  lt_ : ∀ k, inA A k → k < w.heap.size
  code : s.bad = decide (s.code ≠ 0)
  small : s.buf.length ≤ 65507
  most0 : 0 ≤ s.most
  most1 : s.most ≤ 65507

section
variable {w w' : World} {q : Nat} {A : Option Addr} {c : Nat} {s : WrS}
theorem Rw.chg {F : Nat → Prop} (h : Rw w q A c s) (hc : Chg w w' F) (hF : ∀ k, wrF q A k → ¬ F k) : Rw w' q A c s :=
  ⟨h.blk.chg hc (hF _ (.inl rfl)), h.row.chg hc fun _ k hk => hF k (.inr hk), h.ne, fun k hk => Nat.lt_of_lt_of_le (h.lt_ k hk) hc.size, h.code, h.small, h.most0, h.most1⟩
theorem Rw.below (h : Rw w q A c s) (hc : Below w.heap.size w w') : Rw w' q A c s := h.chg (Chg.ofBelow hc fun _ => False) fun _ _ => id

/-- What a call of the document's writer leaves. -/
def RwPost (w w' : World) (q : Nat) (A : Option Addr) (s' : WrS) : Prop :=
  ∃ A' c', Rw w' q A' c' s' ∧ Chg w w' (· = q) ∧ ∀ k, inA A' k → inA A k ∨ w.heap.size ≤ k

theorem put_stuck (h : Rw w q A c s) (Ab : Option Addr) (n cb : Nat) (own : Int) (hs : (!s.made || s.bad) = true) :
    Calls Tryd.prog 135 #[.pointer (some ⟨q, 0, none⟩), .slice Ab n cb, .int .i64 own] w fun e w' => e = .returned (.tuple #[]) ∧ w = w' := by
  have c0 : w.cell? ⟨q, 0, none⟩ = some (.bool s.made) := h.blk.cell 0
  have c3 : w.cell? ⟨q, 3, none⟩ = some (.int .i64 s.code) := h.blk.cell 3
  have hc := h.code
  clear h
  cases hm : s.made
  · rw [hm] at c0
    go_enter Tryd.func135, Tryd.ntmps135
    go_wp2
    go_returns
    exact ⟨rfl, rfl⟩
  · rw [hm] at c0
    rw [hm, hc] at hs
    have hne : (s.code != 0) = true := by simpa using hs
    go_enter Tryd.func135, Tryd.ntmps135
    go_wp2
    go_returns
    exact ⟨rfl, rfl⟩

theorem chg_two (w : World) (q : Nat) (i j : Nat) (v u : Value) : Chg w ((w.setCell ⟨q, i, none⟩ v).setCell ⟨q, j, none⟩ u) (· = q) := by
  refine Chg.set (Chg.set (Chg.refl _ _) ?_ _) ?_ _ <;> exact fun _ => rfl

set_option maxRecDepth 100000 in
theorem put_live (h : Rw w q A c s) (Ab : Option Addr) (n cb : Nat) (xs : List UInt8) (hr : Rd w Ab n cb xs) (own : Int) (hn : n ≤ 900000000) (hs : (!s.made || s.bad) = false) :
    Calls Tryd.prog 135 #[.pointer (some ⟨q, 0, none⟩), .slice Ab n cb, .int .i64 own] w fun e w' => e = .returned (.tuple #[]) ∧ RwPost w w' q A (s.lay own xs) := by
  have c0 : w.cell? ⟨q, 0, none⟩ = some (.bool s.made) := h.blk.cell 0
  have c1 : w.cell? ⟨q, 1, none⟩ = some (.int .i64 s.most) := h.blk.cell 1
  have c2 : w.cell? ⟨q, 2, none⟩ = some (.slice A s.buf.length c) := h.blk.cell 2
  have c3 : w.cell? ⟨q, 3, none⟩ = some (.int .i64 s.code) := h.blk.cell 3
  have f2 : w.frozen? ⟨q, 2, none⟩ = false := h.blk.frozen 2
  have f3 : w.frozen? ⟨q, 3, none⟩ = false := h.blk.frozen 3
  have f4 : w.frozen? ⟨q, 4, none⟩ = false := h.blk.frozen 4
  have c4 : w.cell? ⟨q, 4, none⟩ = some (.int .i64 s.at_) := h.blk.cell 4
  have hc := h.code
  have hle := h.row.le
  have hcm := h.row.max
  have hsm := h.small
  have hm0 := h.most0
  have hm1 := h.most1
  have hlt := h.blk.lt
  have hlx := hr.len
  obtain ⟨hm, hb⟩ : s.made = true ∧ s.bad = false := by simpa using hs
  have hcode : s.code = 0 := by rw [hb] at hc; simpa using hc.symm
  rw [hm] at c0
  rw [hcode] at c3
  have fail : ∀ (own' : Int) (k : Nat), own' ≠ 0 → RwPost w (((w.drewN k).setCell ⟨q, 3, none⟩ (.int .i64 own')).setCell ⟨q, 4, none⟩ (.int .i64 (s.buf.length : Int))) q A { s with bad := true, code := own', at_ := s.buf.length } := by
    intro own' k hne
    have hch : Chg w (((w.drewN k).setCell ⟨q, 3, none⟩ (.int .i64 own')).setCell ⟨q, 4, none⟩ (.int .i64 (s.buf.length : Int))) (· = q) := by
      refine Chg.set (Chg.set ((Chg.refl _ _).drewN k) ?_ _) ?_ _ <;> exact fun _ => rfl
    refine ⟨A, c, ⟨((h.blk.drewN k).set 3 _).set 4 _, h.row.chg hch (fun _ k hk e => h.ne k hk e), h.ne, fun k hk => Nat.lt_of_lt_of_le (h.lt_ k hk) hch.size, by simpa using hne, h.small, h.most0, h.most1⟩, hch, fun k hk => .inl hk⟩
  have Fail := Lib.hid fail
  have H := Lib.hid h
  have HX := Lib.hid hr
  clear h hr fail hc
  by_cases h0 : own = 0
  · subst h0
    by_cases hfit : s.most < (s.buf.length : Int) + n
    · have e : s.lay 0 xs = { s with bad := true, code := 21, at_ := s.buf.length } := by
        unfold WrS.lay
        rw [if_neg (by rw [hs]; decide), if_neg (by simp), if_pos (by omega)]
      have HE := Lib.hid e
      clear e hlx
      go_enter Tryd.func135, Tryd.ntmps135
      go_wp2
      go_quiet (fail)
      go_wp2
      go_returns
      rw [HE.out]
      exact ⟨rfl, Fail.out 21 _ (by decide)⟩
    · have e : s.lay 0 xs = { s with buf := s.buf ++ xs } := by
        unfold WrS.lay
        rw [if_neg (by rw [hs]; decide), if_neg (by simp), if_neg (by omega)]
      have HE := Lib.hid e
      have HLX := Lib.hid hlx
      have hj : s.buf.length + n ≤ 65507 := by omega
      have HJ := Lib.hid hj
      obtain ⟨l, hl⟩ : ∃ l, l = s.buf.length + n := ⟨_, rfl⟩
      have HL := Lib.hid hl
      have hdn : ¬ s.most < (s.buf.length : Int) + n := hfit
      clear e hlx hj hl
      go_enter Tryd.func135, Tryd.ntmps135
      go_wp2
      go_quiet (fail)
      go_wp2_with (go_at_call 59; refine (Join_l _ _ _ _ _ (H.out.row.drewN _) _ _ _ _ (HX.out.drewN _) l HL.out.symm (by have := HL.out; have := HJ.out; omega)).mono ?_; rintro e w3 ⟨A3, c3', rfl, ho, hb3⟩; have HO := Lib.hid ho; have HB := Lib.hid hb3; have f2' : w3.frozen? ⟨q, 2, none⟩ = false := (hb3.frozen (by exact hlt)).trans f2; have c2' : w3.cell? ⟨q, 2, none⟩ = some (.slice A s.buf.length c) := (hb3.cell (by exact hlt)).trans c2; clear ho hb3)
      go_returns
      rw [HE.out]
      refine ⟨rfl, A3, c3', ⟨?_, ?_, ?_, fun k hk => by simpa using (HO.out.lt hk).2, H.out.code, ?_, H.out.most0, H.out.most1⟩, ?_, ?_⟩
      · have h1 := (((H.out.blk.drewN nq).below HB.out (by exact hlt)).set 2 (.slice A3 l c3'))
        rw [show (s.buf ++ xs).length = l by rw [List.length_append, HL.out, HLX.out]]
        exact h1
      · rw [show (s.buf ++ xs).length = l by rw [List.length_append, HL.out, HLX.out]]
        refine HO.out.rd.chg (F := (· = q)) ?_ ?_
        · refine Chg.set (Chg.refl _ _) ?_ _
          exact fun _ => rfl
        · intro _ k hk e
          have := (HO.out.lt hk).1
          have h2 : w.heap.size ≤ k := this
          omega
      · intro k hk e
        have h2 : w.heap.size ≤ k := (HO.out.lt hk).1
        omega
      · rw [List.length_append, HLX.out]
        exact HJ.out
      · refine Chg.set ?_ ?_ _
        · exact Chg.ofBelow ((below_drewN (Below.refl _ w) _).trans HB.out) _
        · exact fun _ => rfl
      · intro k hk
        exact .inr (HO.out.lt hk).1
  · have ho1 : (own == 0) = false := by simpa using h0
    have ho2 : (own != 0) = true := by simpa using h0
    have e : s.lay own xs = { s with bad := true, code := own, at_ := s.buf.length } := by
      unfold WrS.lay
      rw [if_neg (by rw [hs]; decide), if_pos h0]
    have HE := Lib.hid e
    have H0 := Lib.hid h0
    clear e hlx h0
    go_enter Tryd.func135, Tryd.ntmps135
    go_wp2
    go_quiet (fail)
    go_wp2
    go_returns
    rw [HE.out]
    exact ⟨rfl, Fail.out own _ H0.out⟩

theorem put_any (h : Rw w q A c s) (Ab : Option Addr) (n cb : Nat) (xs : List UInt8) (hr : Rd w Ab n cb xs) (own : Int) (hn : n ≤ 900000000) :
    Calls Tryd.prog 135 #[.pointer (some ⟨q, 0, none⟩), .slice Ab n cb, .int .i64 own] w fun e w' => e = .returned (.tuple #[]) ∧ RwPost w w' q A (s.lay own xs) := by
  cases hs : (!s.made || s.bad)
  · exact put_live h Ab n cb xs hr own hn hs
  · refine (put_stuck h Ab n cb own hs).mono ?_
    rintro e w' ⟨rfl, rfl⟩
    refine ⟨rfl, A, c, ?_, Chg.refl _ _, fun k hk => .inl hk⟩
    unfold WrS.lay
    rw [if_pos hs]
    exact h
end
end Go.Proofs.YtbhmnkpbaeemeaaDoor
