import Derived.Test.YtbhmnkpbaeemeaaDoorK2
import Derived.Test.YtbhmnkpbaeemeaaDoorK3
import Derived.Laws.IdiomStrings
set_option linter.unusedVariables false
set_option linter.unusedSimpArgs false
/-! # W26 -/
namespace Go.Proofs.YtbhmnkpbaeemeaaDoor
open Go.RowKit

/-- The document's writer at block q, its row at A, in the same state. -/
structure Rw (w : World) (q : Nat) (A : Option Addr) (c : Nat) (s : WrS) : Prop where
  blk : Blk w q #[.bool s.made, .int .i64 s.most, .slice A s.buf.length c, .int .i64 s.code, .int .i64 s.at_] 56
  row : Rd w A s.buf.length c s.buf
  ne : ∀ k, inA A k → k ≠ q
  lt_ : ∀ k, inA A k → k < w.heap.size
  code : s.bad = decide (s.code ≠ 0)
  small : s.buf.length ≤ 65507
  most0 : 0 ≤ s.most
  most1 : s.most ≤ 65507

section
variable {w w' : World} {q : Nat} {A : Option Addr} {c : Nat} {s : WrS}
theorem Rw.chg {F : Nat → Prop} (h : Rw w q A c s) (hc : Chg w w' F) (hF : ∀ k, wrF q A k → ¬ F k) : Rw w' q A c s :=
  ⟨h.blk.chg hc (hF _ (.inl rfl)), h.row.chg hc fun _ k hk => hF k (.inr hk), h.ne, fun k hk => Nat.lt_of_lt_of_le (h.lt_ k hk) hc.size, h.code, h.small, h.most0, h.most1⟩
theorem Rw.below (h : Rw w q A c s) (hc : Below w.heap.size w w') : Rw w' q A c s := h.chg (Chg.ofBelow hc fun _ => False) fun _ _ => id

/-- What a call of the document's writer leaves. -/
def RwPost (w w' : World) (q : Nat) (A : Option Addr) (s' : WrS) : Prop :=
  ∃ A' c', Rw w' q A' c' s' ∧ Chg w w' (· = q) ∧ ∀ k, inA A' k → inA A k ∨ w.heap.size ≤ k

theorem put_stuck (h : Rw w q A c s) (Ab : Option Addr) (n cb : Nat) (own : Int) (hs : (!s.made || s.bad) = true) :
    Calls Tryd.prog 135 #[.pointer (some ⟨q, 0, none⟩), .slice Ab n cb, .int .i64 own] w fun e w' => e = .returned (.tuple #[]) ∧ w = w' := by
  have c0 : w.cell? ⟨q, 0, none⟩ = some (.bool s.made) := h.blk.cell 0
  have c3 : w.cell? ⟨q, 3, none⟩ = some (.int .i64 s.code) := h.blk.cell 3
  have hc := h.code
  clear h
  cases hm : s.made
  · rw [hm] at c0
    go_enter Tryd.func135, Tryd.ntmps135
    go_wp2
    go_returns
    exact ⟨rfl, rfl⟩
  · rw [hm] at c0
    rw [hm, hc] at hs
    have hne : (s.code != 0) = true := by simpa using hs
    go_enter Tryd.func135, Tryd.ntmps135
    go_wp2
    go_returns
    exact ⟨rfl, rfl⟩

theorem chg_two (w : World) (q : Nat) (i j : Nat) (v u : Value) : Chg w ((w.setCell ⟨q, i, none⟩ v).setCell ⟨q, j, none⟩ u) (· = q) := by
  refine Chg.set (Chg.set (Chg.refl _ _) ?_ _) ?_ _ <;> exact fun _ => rfl

set_option maxRecDepth 100000 in
theorem put_live (h : Rw w q A c s) (Ab : Option Addr) (n cb : Nat) (xs : List UInt8) (hr : Rd w Ab n cb xs) (own : Int) (hn : n ≤ 900000000) (hs : (!s.made || s.bad) = false) :
    Calls Tryd.prog 135 #[.pointer (some ⟨q, 0, none⟩), .slice Ab n cb, .int .i64 own] w fun e w' => e = .returned (.tuple #[]) ∧ RwPost w w' q A (s.lay own xs) := by
  have c0 : w.cell? ⟨q, 0, none⟩ = some (.bool s.made) := h.blk.cell 0
  have c1 : w.cell? ⟨q, 1, none⟩ = some (.int .i64 s.most) := h.blk.cell 1
  have c2 : w.cell? ⟨q, 2, none⟩ = some (.slice A s.buf.length c) := h.blk.cell 2
  have c3 : w.cell? ⟨q, 3, none⟩ = some (.int .i64 s.code) := h.blk.cell 3
  have f2 : w.frozen? ⟨q, 2, none⟩ = false := h.blk.frozen 2
  have f3 : w.frozen? ⟨q, 3, none⟩ = false := h.blk.frozen 3
  have f4 : w.frozen? ⟨q, 4, none⟩ = false := h.blk.frozen 4
  have c4 : w.cell? ⟨q, 4, none⟩ = some (.int .i64 s.at_) := h.blk.cell 4
  have hc := h.code
  have hle := h.row.le
  have hcm := h.row.max
  have hsm := h.small
  have hm0 := h.most0
  have hm1 := h.most1
  have hlt := h.blk.lt
  have hlx := hr.len
  obtain ⟨hm, hb⟩ : s.made = true ∧ s.bad = false := by simpa using hs
  have hcode : s.code = 0 := by rw [hb] at hc; simpa using hc.symm
  rw [hm] at c0
  rw [hcode] at c3
  have fail : ∀ (own' : Int) (k : Nat), own' ≠ 0 → RwPost w (((w.drewN k).setCell ⟨q, 3, none⟩ (.int .i64 own')).setCell ⟨q, 4, none⟩ (.int .i64 (s.buf.length : Int))) q A { s with bad := true, code := own', at_ := s.buf.length } := by
    intro own' k hne
    have hch : Chg w (((w.drewN k).setCell ⟨q, 3, none⟩ (.int .i64 own')).setCell ⟨q, 4, none⟩ (.int .i64 (s.buf.length : Int))) (· = q) := by
      refine Chg.set (Chg.set ((Chg.refl _ _).drewN k) ?_ _) ?_ _ <;> exact fun _ => rfl
    refine ⟨A, c, ⟨((h.blk.drewN k).set 3 _).set 4 _, h.row.chg hch (fun _ k hk e => h.ne k hk e), h.ne, fun k hk => Nat.lt_of_lt_of_le (h.lt_ k hk) hch.size, by simpa using hne, h.small, h.most0, h.most1⟩, hch, fun k hk => .inl hk⟩
  have Fail := Lib.hid fail
  have H := Lib.hid h
  have HX := Lib.hid hr
  clear h hr fail hc
  by_cases h0 : own = 0
  · subst h0
    by_cases hfit : s.most < (s.buf.length : Int) + n
    · have e : s.lay 0 xs = { s with bad := true, code := 21, at_ := s.buf.length } := by
        unfold WrS.lay
        rw [if_neg (by rw [hs]; decide), if_neg (by simp), if_pos (by omega)]
      have HE := Lib.hid e
      clear e hlx
      go_enter Tryd.func135, Tryd.ntmps135
      go_wp2
      go_quiet (fail)
      go_wp2
      go_returns
      rw [HE.out]
      exact ⟨rfl, Fail.out 21 _ (by decide)⟩
    · have e : s.lay 0 xs = { s with buf := s.buf ++ xs } := by
        unfold WrS.lay
        rw [if_neg (by rw [hs]; decide), if_neg (by simp), if_neg (by omega)]
      have HE := Lib.hid e
      have HLX := Lib.hid hlx
      have hj : s.buf.length + n ≤ 65507 := by omega
      have HJ := Lib.hid hj
      obtain ⟨l, hl⟩ : ∃ l, l = s.buf.length + n := ⟨_, rfl⟩
      have HL := Lib.hid hl
      have hdn : ¬ s.most < (s.buf.length : Int) + n := hfit
      clear e hlx hj hl
      go_enter Tryd.func135, Tryd.ntmps135
      go_wp2
      go_quiet (fail)
      go_wp2_with (go_at_call 59; refine (Join_l _ _ _ _ _ (H.out.row.drewN _) _ _ _ _ (HX.out.drewN _) l HL.out.symm (by have := HL.out; have := HJ.out; omega)).mono ?_; rintro e w3 ⟨A3, c3', rfl, ho, hb3⟩; have HO := Lib.hid ho; have HB := Lib.hid hb3; have f2' : w3.frozen? ⟨q, 2, none⟩ = false := (hb3.frozen (by exact hlt)).trans f2; have c2' : w3.cell? ⟨q, 2, none⟩ = some (.slice A s.buf.length c) := (hb3.cell (by exact hlt)).trans c2; clear ho hb3)
      go_returns
      rw [HE.out]
      refine ⟨rfl, A3, c3', ⟨?_, ?_, ?_, fun k hk => by simpa using (HO.out.lt hk).2, H.out.code, ?_, H.out.most0, H.out.most1⟩, ?_, ?_⟩
      · have h1 := (((H.out.blk.drewN nq).below HB.out (by exact hlt)).set 2 (.slice A3 l c3'))
        rw [show (s.buf ++ xs).length = l by rw [List.length_append, HL.out, HLX.out]]
        exact h1
      · rw [show (s.buf ++ xs).length = l by rw [List.length_append, HL.out, HLX.out]]
        refine HO.out.rd.chg (F := (· = q)) ?_ ?_
        · refine Chg.set (Chg.refl _ _) ?_ _
          exact fun _ => rfl
        · intro _ k hk e
          have := (HO.out.lt hk).1
          have h2 : w.heap.size ≤ k := this
          omega
      · intro k hk e
        have h2 : w.heap.size ≤ k := (HO.out.lt hk).1
        omega
      · rw [List.length_append, HLX.out]
        exact HJ.out
      · refine Chg.set ?_ ?_ _
        · exact Chg.ofBelow ((below_drewN (Below.refl _ w) _).trans HB.out) _
        · exact fun _ => rfl
      · intro k hk
        exact .inr (HO.out.lt hk).1
  · have ho1 : (own == 0) = false := by simpa using h0
    have ho2 : (own != 0) = true := by simpa using h0
    have e : s.lay own xs = { s with bad := true, code := own, at_ := s.buf.length } := by
      unfold WrS.lay
      rw [if_neg (by rw [hs]; decide), if_pos h0]
    have HE := Lib.hid e
    have H0 := Lib.hid h0
    clear e hlx h0
    go_enter Tryd.func135, Tryd.ntmps135
    go_wp2
    go_quiet (fail)
    go_wp2
    go_returns
    rw [HE.out]
    exact ⟨rfl, Fail.out own _ H0.out⟩

theorem put_any (h : Rw w q A c s) (Ab : Option Addr) (n cb : Nat) (xs : List UInt8) (hr : Rd w Ab n cb xs) (own : Int) (hn : n ≤ 900000000) :
    Calls Tryd.prog 135 #[.pointer (some ⟨q, 0, none⟩), .slice Ab n cb, .int .i64 own] w fun e w' => e = .returned (.tuple #[]) ∧ RwPost w w' q A (s.lay own xs) := by
  cases hs : (!s.made || s.bad)
  · exact put_live h Ab n cb xs hr own hn hs
  · refine (put_stuck h Ab n cb own hs).mono ?_
    rintro e w' ⟨rfl, rfl⟩
    refine ⟨rfl, A, c, ?_, Chg.refl _ _, fun k hk => .inl hk⟩
    unfold WrS.lay
    rw [if_pos hs]
    exact h
end
end Go.Proofs.YtbhmnkpbaeemeaaDoor

/-! # W27 -/
namespace Go.Proofs.YtbhmnkpbaeemeaaDoor
open Go.RowKit

set_option maxRecDepth 100000 in
theorem refNum_any (v : Nat) (w : World) (hv : v < 18446744073709551616) :
    Calls Tryd.prog 137 #[.int .u64 (v : Int)] w fun e w' => ∃ A' c', e = .returned (.slice A' (numB v).length c') ∧ Ob w' w.heap.size A' (numB v).length c' (numB v) ∧ Below w.heap.size w w' := by
  have hlen := numB_len64 v hv
  go_enter Tryd.func137, Tryd.ntmps137
  go_wp2
  go_loopw [0, 3] (fun x b wr => ∃ (y : Nat) (pre : List UInt8) (A : Option Addr) (c n : Nat), y < 18446744073709551616 ∧ x = .int .u64 (y : Int) ∧ b = .slice A n c ∧ Hid (pre.length = n) ∧ Hid (numB v = pre ++ numB y) ∧ Hid (Ob wr w.heap.size A n c pre) ∧ Hid (Below w.heap.size w wr)) (fun x _ _ => (intOf x).toNat)
  case atStart => exact ⟨v, [], none, 0, 0, hv, rfl, rfl, rfl, rfl, Ob.nil _ _, Below.refl _ _⟩
  case round =>
    obtain ⟨y, pre, A, c, n, hy, rfl, rfl, HN, HP, HO, HB⟩ := hrel
    have hpl : n ≤ 10 := by rw [← HN.out]; have := HP.out; rw [this, List.length_append] at hlen; omega
    by_cases hlt : 128 ≤ y
    · have hg : decide ((127 : Int) < (y : Int)) = true := by simp; omega
      have HZ : Hid ((y : Int) % 128 + 128 = ((contB y).toNat : Int)) := by show _ = _; rw [contB_toNat]; omega
      go_wp2_with (at_builtin; refine wpl_append_1 rfl (.tmp 6) (.tmp 11) rfl rfl HO.out rfl (contB y) HZ.out (by omega) HB.out.size ?_; intro A2 c2 w2 hown2 hchg2 hin2; have HA := Lib.hid (And.intro hown2 (And.intro hchg2 hin2)); clear hown2 hchg2 hin2)
      go_roundw
      case rel =>
        refine ⟨y / 128, pre ++ [contB y], A2, c2, n + 1, by omega, by go_num, rfl, ?_, ?_, HA.out.1, ?_⟩
        · show _ = _
          rw [List.length_append, HN.out]; rfl
        · show _ = _
          rw [HP.out, numB_ge y hlt, List.append_assoc]; rfl
        · exact below_of HB.out HO.out HA.out.2.1
      case measure => simp [intOf]; omega
    · have hn1 := numB_lt y (by omega)
      have hg : decide ((127 : Int) < (y : Int)) = false := by simp; omega
      have Hn1 := Lib.hid hn1; clear hn1
      have Hlb : Hid ((y : Int) = ((lastB y).toNat : Int)) := by show _ = _; rw [lastB_toNat y (by omega)]
      go_wp2_with (at_builtin; refine wpl_append_1 rfl (.tmp 15) (.tmp 18) rfl rfl HO.out rfl (lastB y) Hlb.out (by omega) HB.out.size ?_; intro A2 c2 w2 hown2 hchg2 hin2; have HA := Lib.hid (And.intro hown2 (And.intro hchg2 hin2)); clear hown2 hchg2 hin2)
      go_ret
      have e1 : pre ++ [lastB y] = numB v := by rw [HP.out, Hn1.out]
      have e2 : n + 1 = (numB v).length := by rw [← e1, List.length_append, HN.out]; rfl
      rw [e1, e2] at HA
      rw [e2]
      exact ⟨A2, c2, rfl, HA.out.1, below_of HB.out HO.out HA.out.2.1⟩

section
variable {w : World} {q : Nat} {A : Option Addr} {c : Nat} {s : WrS}
/-- The writer behind a call that only laid new blocks, and put behind that. -/
theorem put_after {w1 : World} (h : Rw w q A c s) (hb : Below w.heap.size w w1) (Ab : Option Addr) (n cb : Nat) (xs : List UInt8) (hr : Rd w1 Ab n cb xs) (own : Int) (hn : n ≤ 900000000) :
    Calls Tryd.prog 135 #[.pointer (some ⟨q, 0, none⟩), .slice Ab n cb, .int .i64 own] w1 fun e w' => e = .returned (.tuple #[]) ∧ RwPost w w' q A (s.lay own xs) := by
  refine (put_any (h.below hb) Ab n cb xs hr own hn).mono ?_
  rintro e w' ⟨rfl, A', c', h1, h2, h3⟩
  refine ⟨rfl, A', c', h1, (Chg.ofBelow hb _).trans h2 fun i _ hi => hi, fun k hk => ?_⟩
  rcases h3 k hk with h | h
  · exact .inl h
  · exact .inr (Nat.le_trans hb.size h)

theorem Fixed_any (h : Rw w q A c s) (v n : Nat) (hv : v < 18446744073709551616) (hn : n ≤ 8) :
    Calls Tryd.prog 73 #[.pointer (some ⟨q, 0, none⟩), .int .u64 (v : Int), .int .i64 (n : Int)] w fun e w' => e = .returned (.tuple #[]) ∧ RwPost w w' q A (s.lay 0 (bigR v n)) := by
  have hB := Lib.hid (Big_any w v n hv hn)
  have H := Lib.hid h
  clear h
  go_enter Tryd.func73, Tryd.ntmps73
  go_wp2_with first | (go_at_call 60; refine hB.out.mono ?_; rintro e w1 ⟨A1, c1, rfl, ho, hb⟩) | (go_at_call 135; refine (put_after H.out hb _ _ _ _ ho.rd 0 (by omega)).mono ?_; rintro e w' ⟨rfl, hq⟩)
  go_returns
  exact ⟨rfl, hq⟩

theorem rNum_any (h : Rw w q A c s) (v : Nat) (hv : v < 18446744073709551616) :
    Calls Tryd.prog 76 #[.pointer (some ⟨q, 0, none⟩), .int .u64 (v : Int)] w fun e w' => e = .returned (.tuple #[]) ∧ RwPost w w' q A (s.lay 0 (numB v)) := by
  have hN := Lib.hid (refNum_any v w hv)
  have hl := numB_len64 v hv
  have H := Lib.hid h
  clear h
  go_enter Tryd.func76, Tryd.ntmps76
  go_wp2_with first | (go_at_call 137; refine hN.out.mono ?_; rintro e w1 ⟨A1, c1, rfl, ho, hb⟩) | (go_at_call 135; refine (put_after H.out hb _ _ _ _ ho.rd 0 (by omega)).mono ?_; rintro e w' ⟨rfl, hq⟩)
  go_returns
  exact ⟨rfl, hq⟩

theorem rFlag_any (h : Rw w q A c s) (v : Bool) :
    Calls Tryd.prog 78 #[.pointer (some ⟨q, 0, none⟩), .bool v] w fun e w' => e = .returned (.tuple #[]) ∧ RwPost w w' q A (s.lay 0 [if v then 1 else 0]) := by
  have hL : ∀ v : UInt8, Hid (Calls Tryd.prog 135 #[.pointer (some ⟨q, 0, none⟩), .slice (some ⟨w.heap.size, 0, none⟩) 1 1, .int .i64 0] (w.alloc (.cells #[.int .u8 (v.toNat : Int)] 5)) fun e w' => e = .returned (.tuple #[]) ∧ RwPost w w' q A (s.lay 0 [v])) := by
    intro v
    have hb : Blk (w.alloc (.cells #[.int .u8 (v.toNat : Int)] 5)) w.heap.size (bs [v]).toArray 5 := Blk.new _ _ _
    exact Lib.hid (put_after h (below1 w _) _ _ _ _ (Rd.ofBlk hb (by simp)) 0 (by simp))
  cases v
  · have hL0 := hL 0
    clear hL h
    go_enter Tryd.func78, Tryd.ntmps78
    go_wp2_with (go_at_call 135; refine hL0.out.mono ?_; rintro e w' ⟨rfl, hq⟩)
    go_returns
    exact ⟨rfl, hq⟩
  · have hL0 := hL 1
    clear hL h
    go_enter Tryd.func78, Tryd.ntmps78
    go_wp2_with (go_at_call 135; refine hL0.out.mono ?_; rintro e w' ⟨rfl, hq⟩)
    go_returns
    exact ⟨rfl, hq⟩

theorem rCount_any (h : Rw w q A c s) (n most : Int) (hn : n ≤ 9223372036854775807) :
    Calls Tryd.prog 80 #[.pointer (some ⟨q, 0, none⟩), .int .i64 n, .int .i64 most] w fun e w' => e = .returned (.tuple #[]) ∧ RwPost w w' q A (s.count n most) := by
  have hL := Lib.hid (put_any h none 0 0 [] (Rd.nilRd w) 21 (by omega))
  by_cases hn0 : n < 0
  · have fin : s.count n most = s.lay 21 [] := by unfold WrS.count; rw [if_pos (.inl hn0)]
    have Fin := Lib.hid fin; clear fin h
    go_enter Tryd.func80, Tryd.ntmps80
    go_wp2_with (go_at_call 135; refine hL.out.mono ?_; rintro e w' ⟨rfl, hq⟩)
    go_returns
    exact ⟨rfl, by rw [Fin.out]; exact hq⟩
  · by_cases hm : most < n
    · have fin : s.count n most = s.lay 21 [] := by unfold WrS.count; rw [if_pos (.inr hm)]
      have Fin := Lib.hid fin; clear fin h
      go_enter Tryd.func80, Tryd.ntmps80
      go_wp2_with (go_at_call 135; refine hL.out.mono ?_; rintro e w' ⟨rfl, hq⟩)
      go_returns
      exact ⟨rfl, by rw [Fin.out]; exact hq⟩
    · have fin : s.count n most = s.lay 0 (numB n.toNat) := by unfold WrS.count; rw [if_neg (by omega)]
      have Fin := Lib.hid fin; clear fin hL
      obtain ⟨m, rfl⟩ := Int.eq_ofNat_of_zero_le (Int.not_lt.1 hn0)
      rw [Int.toNat_natCast] at Fin
      have hN := Lib.hid (refNum_any m w (by omega))
      have hl := numB_len64 m (by omega)
      have H := Lib.hid h
      clear h
      go_enter Tryd.func80, Tryd.ntmps80
      go_wp2_with first | (go_at_call 137; refine hN.out.mono ?_; rintro e w1 ⟨A1, c1, rfl, ho, hb⟩) | (go_at_call 135; refine (put_after H.out hb _ _ _ _ ho.rd 0 (by omega)).mono ?_; rintro e w' ⟨rfl, hq⟩)
      go_returns
      exact ⟨rfl, by rw [Fin.out]; exact hq⟩

theorem rBlob_any (h : Rw w q A c s) (Ab : Option Addr) (n cb : Nat) (b : List UInt8) (most : Int) (hr : Rd w Ab n cb b) (hn : n ≤ 800000000) :
    Calls Tryd.prog 82 #[.pointer (some ⟨q, 0, none⟩), .slice Ab n cb, .int .i64 most] w fun e w' => e = .returned (.tuple #[]) ∧ RwPost w w' q A (s.blob b most) := by
  have hL := Lib.hid (put_any h none 0 0 [] (Rd.nilRd w) 21 (by omega))
  have hlen := hr.len
  by_cases hm : most < n
  · have fin : s.blob b most = s.lay 21 [] := by unfold WrS.blob; rw [if_pos (by omega)]
    have Fin := Lib.hid fin; clear fin hlen h hr
    go_enter Tryd.func82, Tryd.ntmps82
    go_wp2_with (go_at_call 135; refine hL.out.mono ?_; rintro e w' ⟨rfl, hq⟩)
    go_returns
    exact ⟨rfl, by rw [Fin.out]; exact hq⟩
  · have fin : s.blob b most = s.lay 0 (numB n ++ b) := by unfold WrS.blob; rw [if_neg (by omega), hlen]
    have Fin := Lib.hid fin; clear fin hL
    have hN := Lib.hid (refNum_any n w (by omega))
    have hl := numB_len64 n (by omega)
    have Hlen := Lib.hid hlen
    have HR := Lib.hid hr
    have H := Lib.hid h
    obtain ⟨l, hll⟩ : ∃ l, l = (numB n).length + n := ⟨_, rfl⟩
    have HLL := Lib.hid hll
    clear hlen hr h hll
    go_enter Tryd.func82, Tryd.ntmps82
    go_wp2_with first | (go_at_call 137; refine hN.out.mono ?_; rintro e w1 ⟨A1, c1, rfl, ho, hb⟩; have HO := Lib.hid ho; have HB := Lib.hid hb; clear ho hb) | (go_at_call 59; refine (Join_l w1 _ _ _ _ HO.out.rd _ _ _ _ (HR.out.below HB.out) l HLL.out.symm (by have := HLL.out; omega)).mono ?_; rintro e w2 ⟨A2, c2, rfl, ho, hb⟩) | (go_at_call 135; refine (put_after H.out (below_then HB.out hb) _ _ _ _ ho.rd 0 (by have := HLL.out; omega)).mono ?_; rintro e w' ⟨rfl, hq⟩)
    go_returns
    exact ⟨rfl, by rw [Fin.out]; exact hq⟩
end
end Go.Proofs.YtbhmnkpbaeemeaaDoor

/-! # W28 -/
namespace Go.Proofs.YtbhmnkpbaeemeaaDoor
open Go.RowKit

/-- Text with its length ahead, or refused. -/
def WrS.text (s : WrS) (b : List UInt8) (most : Int) : WrS := if most < b.length then s.lay 21 [] else if Lib.validD b = false then s.lay 27 [] else s.lay 0 (numB b.length ++ b)

theorem strConv (w : World) (t : ByteArray) (ht : t.size ≤ 1000000000) : ∃ cap W', (convert 9 22 (.string t)).run Tryd.prog w = .ok (.slice (some ⟨w.heap.size, 0, none⟩) t.size cap) W' ∧ Rd W' (some ⟨w.heap.size, 0, none⟩) t.size cap t.data.toList ∧ Below w.heap.size w W' := by
  refine ⟨_, _, run_bytes_of_string w 9 22 5 t Tryd.underlying9 Tryd.underlying22 Tryd.underlying5, ?_, ?_⟩
  · have h1 := grownCap_ge w t.size 0 5
    have h2 := grownCap_le_maxLen w t.size 0 5 (by unfold maxLen; omega)
    generalize grownCap w t.size 0 5 = cap at h1 h2 ⊢
    unfold maxLen at h2
    refine ⟨by simp, h1, by omega, (fun e => by cases e), fun i hi => ⟨w.heap.size, 0, rfl, ?_⟩⟩
    have hi' : i < t.data.size := by simpa using hi
    simp only [World.cell?, Option.isSome_none, Bool.false_eq_true, if_false]
    rw [show (w.drew.alloc (.cells (bytesRow t cap) 5 ((bytesRow t cap).size, (bytesRow t cap).size + 1))).heap[w.heap.size]? = some (.cells (bytesRow t cap) 5 ((bytesRow t cap).size, (bytesRow t cap).size + 1)) by show (w.heap.push _)[w.heap.size]? = _; simp]
    simp only [Nat.zero_add, bytesRow]
    rw [Array.getElem?_append_left (by simpa using hi'), Array.getElem?_map, Array.getElem?_eq_getElem hi']
    rfl
  · exact (below_drewN (Below.refl _ w) 1).alloc (Nat.le_refl _) _

section
variable {w : World} {p : Nat} {A : Option Addr} {c : Nat} {s : WrS}
theorem RwPost.after {w1 w' : World} {s' : WrS} (hb : Below w.heap.size w w1) (h : RwPost w1 w' p A s') : RwPost w w' p A s' := by
  obtain ⟨A', c', h1, h2, h3⟩ := h
  refine ⟨A', c', h1, (Chg.ofBelow hb _).trans h2 fun i _ hi => hi, fun k hk => ?_⟩
  rcases h3 k hk with h | h
  · exact .inl h
  · exact .inr (Nat.le_trans hb.size h)

set_option maxRecDepth 100000 in
theorem Text_any (h : Wr w p A c s) (t : ByteArray) (most : Int) (hT : U8T w) (hn : t.size ≤ 800000000) :
    Calls Tryd.prog 83 #[.pointer (some ⟨p, 0, none⟩), .string t, .int .i64 most] w fun e w' => e = .returned (.tuple #[]) ∧ WrPost w w' p A (s.text t.data.toList most) := by
  have hR := Lib.hid (runes_any t w (by omega) hT)
  have hlen : t.data.toList.length = t.size := by simp
  by_cases hm : most < t.size
  · have hL := Lib.hid (lay_none h 21)
    have fin : s.text t.data.toList most = s.lay 21 [] := by unfold WrS.text; rw [if_pos (by omega)]
    have Fin := Lib.hid fin; clear fin h
    go_enter Tryd.func83, Tryd.ntmps83
    go_wp2_with (go_at_call 65; refine hL.out.mono ?_; rintro e w' ⟨rfl, hq⟩)
    go_returns
    exact ⟨rfl, by rw [Fin.out]; exact hq⟩
  · cases hv : Lib.validD t.data.toList
    · rw [hv] at hR
      have fin : s.text t.data.toList most = s.lay 27 [] := by unfold WrS.text; rw [if_neg (by omega), if_pos hv]
      have Fin := Lib.hid fin; clear fin
      have H := Lib.hid h; clear h
      go_enter Tryd.func83, Tryd.ntmps83
      go_wp2_with (go_at_call 138; refine hR.out.mono ?_; rintro e w1 ⟨rfl, hb⟩)
      refine (lay_none (H.out.below hb) 27).mono ?_
      rintro e w' ⟨rfl, hq⟩
      go_wp2
      go_returns
      exact ⟨rfl, by rw [Fin.out]; exact hq.after hb⟩
    · rw [hv] at hR
      have fin : s.text t.data.toList most = s.lay 0 (numB t.size ++ t.data.toList) := by unfold WrS.text; rw [if_neg (by omega), if_neg (by rw [hv]; decide), hlen]
      have Fin := Lib.hid fin; clear fin
      have hN := fun w => Lib.hid (number_any t.size w (by omega))
      have hl := numB_len64 t.size (by omega)
      have H := Lib.hid h; clear h
      go_enter Tryd.func83, Tryd.ntmps83
      go_wp2_with first | (go_at_call 138; refine hR.out.mono ?_; rintro e w1 ⟨rfl, hb⟩; have HB1 := Lib.hid hb; clear hb) | (go_at_call 136; refine (hN _).out.mono ?_; rintro e w2 ⟨A2, c2, rfl, ho, hb⟩; have HO := Lib.hid ho; have HB := Lib.hid hb; clear ho hb; obtain ⟨cap, w3, hcv, hrd, hbl⟩ := strConv w2 t (by omega); have HRD := Lib.hid hrd; have HBL := Lib.hid hbl; clear hrd hbl)
      refine (lay_two H.out (below_then (below_then HB1.out HB.out) HBL.out) (HO.out.rd.below HBL.out) (fun _ => H.out.fresh fun k hk => Nat.le_trans HB1.out.size (HO.out.lt hk).1) HRD.out (fun _ => H.out.fresh fun k hk => by rw [inA_some] at hk; subst hk; exact Nat.le_trans HB1.out.size HB.out.size) (by rw [hlen]; omega)).mono ?_
      rintro e w' ⟨rfl, hq⟩
      go_wp2
      go_returns
      exact ⟨rfl, by rw [Fin.out]; exact hq⟩

set_option maxRecDepth 100000 in
theorem rText_any {q : Nat} (h : Rw w q A c s) (t : ByteArray) (most : Int) (hn : t.size ≤ 800000000) :
    Calls Tryd.prog 84 #[.pointer (some ⟨q, 0, none⟩), .string t, .int .i64 most] w fun e w' => e = .returned (.tuple #[]) ∧ RwPost w w' q A (s.text t.data.toList most) := by
  have hR := Lib.hid (UTF8_any t w (by omega))
  have hlen : t.data.toList.length = t.size := by simp
  by_cases hm : most < t.size
  · have hL := Lib.hid (put_any h none 0 0 [] (Rd.nilRd w) 21 (by omega))
    have fin : s.text t.data.toList most = s.lay 21 [] := by unfold WrS.text; rw [if_pos (by omega)]
    have Fin := Lib.hid fin; clear fin h
    go_enter Tryd.func84, Tryd.ntmps84
    go_wp2_with (go_at_call 135; refine hL.out.mono ?_; rintro e w' ⟨rfl, hq⟩)
    go_returns
    exact ⟨rfl, by rw [Fin.out]; exact hq⟩
  · cases hv : Lib.validD t.data.toList
    · rw [hv] at hR
      have hL := Lib.hid (put_any h none 0 0 [] (Rd.nilRd w) 27 (by omega))
      have fin : s.text t.data.toList most = s.lay 27 [] := by unfold WrS.text; rw [if_neg (by omega), if_pos hv]
      have Fin := Lib.hid fin; clear fin h
      go_enter Tryd.func84, Tryd.ntmps84
      go_wp2_with first | (go_at_call 139; refine hR.out.mono ?_; rintro e w1 ⟨rfl, rfl⟩) | (go_at_call 135; refine hL.out.mono ?_; rintro e w' ⟨rfl, hq⟩)
      go_returns
      exact ⟨rfl, by rw [Fin.out]; exact hq⟩
    · rw [hv] at hR
      have fin : s.text t.data.toList most = s.lay 0 (numB t.size ++ t.data.toList) := by unfold WrS.text; rw [if_neg (by omega), if_neg (by rw [hv]; decide), hlen]
      have Fin := Lib.hid fin; clear fin
      have hN := Lib.hid (refNum_any t.size w (by omega))
      have hl := numB_len64 t.size (by omega)
      have H := Lib.hid h; clear h
      obtain ⟨l, hll⟩ : ∃ l, l = (numB t.size).length + t.size := ⟨_, rfl⟩
      have HLL := Lib.hid hll; clear hll
      go_enter Tryd.func84, Tryd.ntmps84
      go_wp2_with first | (go_at_call 139; refine hR.out.mono ?_; rintro e w1 ⟨rfl, rfl⟩) | (go_at_call 137; refine hN.out.mono ?_; rintro e w2 ⟨A2, c2, rfl, ho, hb⟩; have HO := Lib.hid ho; have HB := Lib.hid hb; clear ho hb; obtain ⟨cap, w3, hcv, hrd, hbl⟩ := strConv w2 t (by omega); have HRD := Lib.hid hrd; have HBL := Lib.hid hbl; clear hrd hbl) | (go_at_call 59; refine (Join_l w3 _ _ _ _ (HO.out.rd.below HBL.out) _ _ _ _ HRD.out l HLL.out.symm (by have := HLL.out; omega)).mono ?_; rintro e w4 ⟨A4, c4, rfl, ho, hb⟩) | (go_at_call 135; refine (put_after H.out (below_then (below_then HB.out HBL.out) hb) _ _ _ _ ho.rd 0 (by have := HLL.out; omega)).mono ?_; rintro e w' ⟨rfl, hq⟩)
      go_returns
      exact ⟨rfl, by rw [Fin.out]; exact hq⟩
end

theorem rNewWriter_any (m : Int) (w : World) :
    Calls Tryd.prog 72 #[.int .i64 m] w fun e w' => e = .returned (.pointer (some ⟨w.heap.size, 0, none⟩)) ∧ Rw w' w.heap.size none 0 ⟨true, false, 0, 0, max 0 (min m 65507), []⟩ ∧ Below w.heap.size w w' := by
  have fin : ∀ m' : Int, m' = max 0 (min m 65507) → Rw (w.alloc (.cells #[.bool true, .int .i64 m', .slice none 0 0, .int .i64 0, .int .i64 0] 56)) w.heap.size none 0 ⟨true, false, 0, 0, max 0 (min m 65507), []⟩ := by
    rintro m' rfl
    exact ⟨Blk.new _ _ _, Rd.nilRd _, (by rintro k ⟨a, e, _⟩; cases e), (by rintro k ⟨a, e, _⟩; cases e), by simp, by simp, by simp only []; omega, by simp only []; omega⟩
  have Fin := Lib.hid fin; clear fin
  go_enter Tryd.func72, Tryd.ntmps72
  go_wp2
  all_goals
    go_ret
    refine ⟨rfl, Fin.out _ (by omega), by go_grown⟩
end Go.Proofs.YtbhmnkpbaeemeaaDoor

/-! # W29 -/
namespace Go.Proofs.YtbhmnkpbaeemeaaDoor
open Go.RowKit

/-! ## The methods of a nil writer: nothing is laid -/
section
variable (w : World)
theorem U8_nil (v : Int) : Calls Tryd.prog 63 #[.pointer none, .int .u8 v] w fun e w' => e = .returned (.tuple #[]) ∧ Below w.heap.size w w' := by
  go_enter Tryd.func63, Tryd.ntmps63
  go_wp2_with (go_at_call 65; refine (lay_nil _ _ _ _ _).mono ?_; rintro e w' ⟨rfl, rfl⟩)
  all_goals
    go_returns
    exact ⟨rfl, by go_grown⟩
theorem U16_nil (v : Int) (h0 : 0 ≤ v) (h1 : v ≤ 65535) : Calls Tryd.prog 62 #[.pointer none, .int .u16 v] w fun e w' => e = .returned (.tuple #[]) ∧ Below w.heap.size w w' := by
  go_enter Tryd.func62, Tryd.ntmps62
  go_wp2_with first | (go_at_call 131; refine (high2 v w h0 h1).mono ?_; rintro e w' ⟨rfl, rfl⟩) | (go_at_call 65; refine (lay_nil _ _ _ _ _).mono ?_; rintro e w' ⟨rfl, rfl⟩)
  all_goals
    go_returns
    exact ⟨rfl, by go_grown⟩
theorem U32_nil (v : Int) (h0 : 0 ≤ v) (h1 : v ≤ 4294967295) : Calls Tryd.prog 64 #[.pointer none, .int .u32 v] w fun e w' => e = .returned (.tuple #[]) ∧ Below w.heap.size w w' := by
  go_enter Tryd.func64, Tryd.ntmps64
  go_wp2_with first | (go_at_call 131; refine (high4 v w h0 h1).mono ?_; rintro e w' ⟨rfl, rfl⟩) | (go_at_call 65; refine (lay_nil _ _ _ _ _).mono ?_; rintro e w' ⟨rfl, rfl⟩)
  all_goals
    go_returns
    exact ⟨rfl, by go_grown⟩
theorem U64_nil (v : Int) (h0 : 0 ≤ v) (h1 : v ≤ 18446744073709551615) : Calls Tryd.prog 74 #[.pointer none, .int .u64 v] w fun e w' => e = .returned (.tuple #[]) ∧ Below w.heap.size w w' := by
  go_enter Tryd.func74, Tryd.ntmps74
  go_wp2_with first | (go_at_call 131; refine (high8 v w h0 h1).mono ?_; rintro e w' ⟨rfl, rfl⟩) | (go_at_call 65; refine (lay_nil _ _ _ _ _).mono ?_; rintro e w' ⟨rfl, rfl⟩)
  all_goals
    go_returns
    exact ⟨rfl, by go_grown⟩
theorem Num_nil (v : Nat) (hv : v < 18446744073709551616) : Calls Tryd.prog 75 #[.pointer none, .int .u64 (v : Int)] w fun e w' => e = .returned (.tuple #[]) ∧ Below w.heap.size w w' := by
  go_enter Tryd.func75, Tryd.ntmps75
  go_wp2_with first | (go_at_call 136; refine (number_any _ _ hv).mono ?_; rintro e w1 ⟨A1, c1, rfl, ho, hb⟩) | (go_at_call 65; refine (lay_nil _ _ _ _ _).mono ?_; rintro e w' ⟨rfl, rfl⟩)
  all_goals
    go_returns
    exact ⟨rfl, hb.alloc hb.size _⟩
theorem Flag_nil (v : Bool) : Calls Tryd.prog 77 #[.pointer none, .bool v] w fun e w' => e = .returned (.tuple #[]) ∧ Below w.heap.size w w' := by
  cases v
  all_goals
    go_enter Tryd.func77, Tryd.ntmps77
    go_wp2_with (go_at_call 65; refine (lay_nil _ _ _ _ _).mono ?_; rintro e w' ⟨rfl, rfl⟩)
    go_returns
    exact ⟨rfl, by go_grown⟩
theorem Count_nil (n most : Int) (hn : n ≤ 9223372036854775807) : Calls Tryd.prog 79 #[.pointer none, .int .i64 n, .int .i64 most] w fun e w' => e = .returned (.tuple #[]) ∧ Below w.heap.size w w' := by
  by_cases hn0 : n < 0
  · go_enter Tryd.func79, Tryd.ntmps79
    go_wp2_with (go_at_call 65; refine (lay_nil _ _ _ _ _).mono ?_; rintro e w' ⟨rfl, rfl⟩)
    go_returns
    exact ⟨rfl, Below.refl _ _⟩
  · by_cases hm : most < n
    · go_enter Tryd.func79, Tryd.ntmps79
      go_wp2_with (go_at_call 65; refine (lay_nil _ _ _ _ _).mono ?_; rintro e w' ⟨rfl, rfl⟩)
      go_returns
      exact ⟨rfl, Below.refl _ _⟩
    · obtain ⟨m, rfl⟩ := Int.eq_ofNat_of_zero_le (Int.not_lt.1 hn0)
      have hN := Lib.hid (number_any m w (by omega))
      go_enter Tryd.func79, Tryd.ntmps79
      go_wp2_with first | (go_at_call 136; refine hN.out.mono ?_; rintro e w1 ⟨A1, c1, rfl, ho, hb⟩) | (go_at_call 65; refine (lay_nil _ _ _ _ _).mono ?_; rintro e w' ⟨rfl, rfl⟩)
      go_returns
      exact ⟨rfl, hb.alloc hb.size _⟩
theorem Blob_nil (Ab : Option Addr) (n cb : Nat) (most : Int) (hn : n ≤ 999999000) : Calls Tryd.prog 81 #[.pointer none, .slice Ab n cb, .int .i64 most] w fun e w' => e = .returned (.tuple #[]) ∧ Below w.heap.size w w' := by
  by_cases hm : most < n
  · go_enter Tryd.func81, Tryd.ntmps81
    go_wp2_with (go_at_call 65; refine (lay_nil _ _ _ _ _).mono ?_; rintro e w' ⟨rfl, rfl⟩)
    go_returns
    exact ⟨rfl, Below.refl _ _⟩
  · have hN := Lib.hid (number_any n w (by omega))
    go_enter Tryd.func81, Tryd.ntmps81
    go_wp2_with first | (go_at_call 136; refine hN.out.mono ?_; rintro e w1 ⟨A1, c1, rfl, ho, hb⟩) | (go_at_call 65; refine (lay_nil _ _ _ _ _).mono ?_; rintro e w' ⟨rfl, rfl⟩)
    go_returns
    exact ⟨rfl, hb.alloc hb.size _⟩
set_option maxRecDepth 100000 in
theorem Text_nil (t : ByteArray) (most : Int) (hT : U8T w) (hn : t.size ≤ 800000000) : Calls Tryd.prog 83 #[.pointer none, .string t, .int .i64 most] w fun e w' => e = .returned (.tuple #[]) ∧ Below w.heap.size w w' := by
  have hR := Lib.hid (runes_any t w (by omega) hT)
  by_cases hm : most < t.size
  · go_enter Tryd.func83, Tryd.ntmps83
    go_wp2_with (go_at_call 65; refine (lay_nil _ _ _ _ _).mono ?_; rintro e w' ⟨rfl, rfl⟩)
    go_returns
    exact ⟨rfl, Below.refl _ _⟩
  · cases hv : Lib.validD t.data.toList
    · rw [hv] at hR
      go_enter Tryd.func83, Tryd.ntmps83
      go_wp2_with first | (go_at_call 138; refine hR.out.mono ?_; rintro e w1 ⟨rfl, hb⟩) | (go_at_call 65; refine (lay_nil _ _ _ _ _).mono ?_; rintro e w' ⟨rfl, rfl⟩)
      go_returns
      exact ⟨rfl, hb⟩
    · rw [hv] at hR
      go_enter Tryd.func83, Tryd.ntmps83
      go_wp2_with first | (go_at_call 138; refine hR.out.mono ?_; rintro e w1 ⟨rfl, hb⟩; have HB1 := Lib.hid hb; clear hb) | (go_at_call 136; refine (number_any t.size _ (by omega)).mono ?_; rintro e w2 ⟨A2, c2, rfl, ho, hb⟩; have HO := Lib.hid ho; have HB := Lib.hid hb; clear ho hb; obtain ⟨cap, w3, hcv, hrd, hbl⟩ := strConv w2 t (by omega); have HBL := Lib.hid hbl; clear hrd hbl) | (go_at_call 65; refine (lay_nil _ _ _ _ _).mono ?_; rintro e w' ⟨rfl, rfl⟩)
      go_returns
      exact ⟨rfl, (below_then (below_then HB1.out HB.out) HBL.out).alloc (below_then (below_then HB1.out HB.out) HBL.out).size _⟩
theorem Len_nil : Calls Tryd.prog 27 #[.pointer none] w fun e w' => e = .returned (.int .i64 0) ∧ w = w' := by
  go_enter Tryd.func27, Tryd.ntmps27
  go_wp2
  go_ret
  exact ⟨rfl, rfl⟩
theorem Bytes_nil : Calls Tryd.prog 38 #[.pointer none] w fun e w' => ∃ b, e = .returned (.tuple #[.slice none 0 0, .iface 129 (.pointer (some ⟨b, 0, none⟩))]) ∧ w.heap.size ≤ b ∧ ErrAt w' b 3 0 ∧ Below w.heap.size w w' := by
  go_enter Tryd.func38, Tryd.ntmps38
  go_wp2_with (go_at_call 61; refine (fault_any _ _ _).mono ?_; rintro e w' ⟨rfl, rfl⟩)
  go_ret2
  exact ⟨_, rfl, Nat.le_refl _, Blk.new _ _ _, (Below.refl _ _).alloc (Nat.le_refl _) _⟩
end

/-! ## A writer, nil or not -/
def WN (w : World) (P A : Option Addr) (c : Nat) (s : WrS) : Prop :=
  (P = none ∧ A = none ∧ s.made = false ∧ s.buf = []) ∨ ∃ p, P = some ⟨p, 0, none⟩ ∧ Wr w p A c s
def wnF (P A : Option Addr) (k : Nat) : Prop := inA P k ∨ inA A k
def WNPost (w w' : World) (P A : Option Addr) (s' : WrS) : Prop :=
  ∃ A' c', WN w' P A' c' s' ∧ Chg w w' (wnF P A) ∧ ∀ k, inA A' k → inA A k ∨ w.heap.size ≤ k

section
variable {w w' : World} {P A : Option Addr} {c : Nat} {s s' : WrS}
theorem WN.chg {F : Nat → Prop} (h : WN w P A c s) (hc : Chg w w' F) (hF : ∀ k, wnF P A k → ¬ F k) : WN w' P A c s := by
  rcases h with h | ⟨p, rfl, h⟩
  · exact .inl h
  · refine .inr ⟨p, rfl, h.chg hc fun k hk => hF k ?_⟩
    rcases hk with rfl | hk
    · exact .inl (inA_some.2 rfl)
    · exact .inr hk
theorem WN.lt (h : WN w P A c s) {k : Nat} (hk : wnF P A k) : k < w.heap.size := by
  rcases h with ⟨rfl, rfl, _⟩ | ⟨p, rfl, h⟩
  · rcases hk with ⟨a, e, _⟩ | ⟨a, e, _⟩ <;> cases e
  · refine h.lt ?_
    rcases hk with hk | hk
    · exact .inl (inA_some.1 hk).symm
    · exact .inr hk
theorem WrPost.wn {p : Nat} (h : WrPost w w' p A s') : WNPost w w' (some ⟨p, 0, none⟩) A s' := by
  obtain ⟨A', c', h1, h2, h3⟩ := h
  refine ⟨A', c', .inr ⟨p, rfl, h1⟩, h2.mono fun k _ hk => ?_, h3⟩
  rcases hk with rfl | hk
  · exact .inl (inA_some.2 rfl)
  · exact .inr hk
theorem WNPost.nil (hs : s.made = false) (hb : s.buf = []) (h : Below w.heap.size w w') : WNPost w w' none none s :=
  ⟨none, 0, .inl ⟨rfl, rfl, hs, hb⟩, Chg.ofBelow h _, fun k hk => .inl hk⟩
theorem lay_dead (s : WrS) (h : s.made = false) (own : Int) (xs : List UInt8) : s.lay own xs = s := by
  unfold WrS.lay
  rw [if_pos (by rw [h]; rfl)]
theorem count_dead (s : WrS) (h : s.made = false) (n most : Int) : s.count n most = s := by
  unfold WrS.count
  split <;> exact lay_dead s h _ _
theorem blob_dead (s : WrS) (h : s.made = false) (b : List UInt8) (most : Int) : s.blob b most = s := by
  unfold WrS.blob
  split <;> exact lay_dead s h _ _
theorem text_dead (s : WrS) (h : s.made = false) (b : List UInt8) (most : Int) : s.text b most = s := by
  unfold WrS.text
  split
  · exact lay_dead s h _ _
  · split <;> exact lay_dead s h _ _

theorem U8_wn (h : WN w P A c s) (v : UInt8) : Calls Tryd.prog 63 #[.pointer P, .int .u8 (v.toNat : Int)] w fun e w' => e = .returned (.tuple #[]) ∧ WNPost w w' P A (s.lay 0 [v]) := by
  rcases h with ⟨rfl, rfl, h1, h2⟩ | ⟨p, rfl, h⟩
  · refine (U8_nil w _).mono ?_
    rintro e w' ⟨rfl, hb⟩
    exact ⟨rfl, by rw [lay_dead s h1]; exact WNPost.nil h1 h2 hb⟩
  · refine (U8_any h v).mono ?_
    rintro e w' ⟨rfl, hq⟩
    exact ⟨rfl, hq.wn⟩
theorem U16_wn (h : WN w P A c s) (v : Int) (h0 : 0 ≤ v) (hv : v ≤ 65535) : Calls Tryd.prog 62 #[.pointer P, .int .u16 v] w fun e w' => e = .returned (.tuple #[]) ∧ WNPost w w' P A (s.lay 0 (big2 v)) := by
  rcases h with ⟨rfl, rfl, h1, h2⟩ | ⟨p, rfl, h⟩
  · refine (U16_nil w v h0 hv).mono ?_
    rintro e w' ⟨rfl, hb⟩
    exact ⟨rfl, by rw [lay_dead s h1]; exact WNPost.nil h1 h2 hb⟩
  · refine (U16_any h v h0 hv).mono ?_
    rintro e w' ⟨rfl, hq⟩
    exact ⟨rfl, hq.wn⟩
theorem U32_wn (h : WN w P A c s) (v : Int) (h0 : 0 ≤ v) (hv : v ≤ 4294967295) : Calls Tryd.prog 64 #[.pointer P, .int .u32 v] w fun e w' => e = .returned (.tuple #[]) ∧ WNPost w w' P A (s.lay 0 (big4 v)) := by
  rcases h with ⟨rfl, rfl, h1, h2⟩ | ⟨p, rfl, h⟩
  · refine (U32_nil w v h0 hv).mono ?_
    rintro e w' ⟨rfl, hb⟩
    exact ⟨rfl, by rw [lay_dead s h1]; exact WNPost.nil h1 h2 hb⟩
  · refine (U32_any h v h0 hv).mono ?_
    rintro e w' ⟨rfl, hq⟩
    exact ⟨rfl, hq.wn⟩
theorem U64_wn (h : WN w P A c s) (v : Int) (h0 : 0 ≤ v) (hv : v ≤ 18446744073709551615) : Calls Tryd.prog 74 #[.pointer P, .int .u64 v] w fun e w' => e = .returned (.tuple #[]) ∧ WNPost w w' P A (s.lay 0 (big8 v)) := by
  rcases h with ⟨rfl, rfl, h1, h2⟩ | ⟨p, rfl, h⟩
  · refine (U64_nil w v h0 hv).mono ?_
    rintro e w' ⟨rfl, hb⟩
    exact ⟨rfl, by rw [lay_dead s h1]; exact WNPost.nil h1 h2 hb⟩
  · refine (U64_any h v h0 hv).mono ?_
    rintro e w' ⟨rfl, hq⟩
    exact ⟨rfl, hq.wn⟩
theorem Num_wn (h : WN w P A c s) (v : Nat) (hv : v < 18446744073709551616) : Calls Tryd.prog 75 #[.pointer P, .int .u64 (v : Int)] w fun e w' => e = .returned (.tuple #[]) ∧ WNPost w w' P A (s.lay 0 (numB v)) := by
  rcases h with ⟨rfl, rfl, h1, h2⟩ | ⟨p, rfl, h⟩
  · refine (Num_nil w v hv).mono ?_
    rintro e w' ⟨rfl, hb⟩
    exact ⟨rfl, by rw [lay_dead s h1]; exact WNPost.nil h1 h2 hb⟩
  · refine (Num_any h v hv).mono ?_
    rintro e w' ⟨rfl, hq⟩
    exact ⟨rfl, hq.wn⟩
theorem Flag_wn (h : WN w P A c s) (v : Bool) : Calls Tryd.prog 77 #[.pointer P, .bool v] w fun e w' => e = .returned (.tuple #[]) ∧ WNPost w w' P A (s.lay 0 [if v then 1 else 0]) := by
  rcases h with ⟨rfl, rfl, h1, h2⟩ | ⟨p, rfl, h⟩
  · refine (Flag_nil w v).mono ?_
    rintro e w' ⟨rfl, hb⟩
    exact ⟨rfl, by rw [lay_dead s h1]; exact WNPost.nil h1 h2 hb⟩
  · refine (Flag_any h v).mono ?_
    rintro e w' ⟨rfl, hq⟩
    exact ⟨rfl, hq.wn⟩
theorem Count_wn (h : WN w P A c s) (n most : Int) (hn : n ≤ 9223372036854775807) : Calls Tryd.prog 79 #[.pointer P, .int .i64 n, .int .i64 most] w fun e w' => e = .returned (.tuple #[]) ∧ WNPost w w' P A (s.count n most) := by
  rcases h with ⟨rfl, rfl, h1, h2⟩ | ⟨p, rfl, h⟩
  · refine (Count_nil w n most hn).mono ?_
    rintro e w' ⟨rfl, hb⟩
    exact ⟨rfl, by rw [count_dead s h1]; exact WNPost.nil h1 h2 hb⟩
  · refine (Count_any h n most hn).mono ?_
    rintro e w' ⟨rfl, hq⟩
    exact ⟨rfl, hq.wn⟩
theorem Blob_wn (h : WN w P A c s) (Ab : Option Addr) (n cb : Nat) (b : List UInt8) (most : Int) (hr : Rd w Ab n cb b) (hF : 0 < n → ∀ k, inA Ab k → ¬ wnF P A k) (hn : n ≤ 999999000) : Calls Tryd.prog 81 #[.pointer P, .slice Ab n cb, .int .i64 most] w fun e w' => e = .returned (.tuple #[]) ∧ WNPost w w' P A (s.blob b most) := by
  rcases h with ⟨rfl, rfl, h1, h2⟩ | ⟨p, rfl, h⟩
  · refine (Blob_nil w Ab n cb most hn).mono ?_
    rintro e w' ⟨rfl, hb⟩
    exact ⟨rfl, by rw [blob_dead s h1]; exact WNPost.nil h1 h2 hb⟩
  · refine (Blob_any h Ab n cb b most hr (fun h0 k hk hw => hF h0 k hk (by rcases hw with rfl | hw; exact .inl (inA_some.2 rfl); exact .inr hw)) hn).mono ?_
    rintro e w' ⟨rfl, hq⟩
    exact ⟨rfl, hq.wn⟩
theorem Text_wn (h : WN w P A c s) (t : ByteArray) (most : Int) (hT : U8T w) (hn : t.size ≤ 800000000) : Calls Tryd.prog 83 #[.pointer P, .string t, .int .i64 most] w fun e w' => e = .returned (.tuple #[]) ∧ WNPost w w' P A (s.text t.data.toList most) := by
  rcases h with ⟨rfl, rfl, h1, h2⟩ | ⟨p, rfl, h⟩
  · refine (Text_nil w t most hT hn).mono ?_
    rintro e w' ⟨rfl, hb⟩
    exact ⟨rfl, by rw [text_dead s h1]; exact WNPost.nil h1 h2 hb⟩
  · refine (Text_any h t most hT hn).mono ?_
    rintro e w' ⟨rfl, hq⟩
    exact ⟨rfl, hq.wn⟩
theorem Len_wn (h : WN w P A c s) : Calls Tryd.prog 27 #[.pointer P] w fun e w' => e = .returned (.int .i64 (s.buf.length : Int)) ∧ w = w' := by
  rcases h with ⟨rfl, rfl, h1, h2⟩ | ⟨p, rfl, h⟩
  · rw [h2]
    exact Len_nil w
  · exact Len_any h

/-- What Bytes tells. -/
def WrS.out (s : WrS) : List UInt8 := if !s.made || s.bad then [] else s.buf
def WrS.no (s : WrS) : Int := if !s.made then 3 else if s.bad then s.code else 0
def WrS.pl (s : WrS) : Int := if !s.made then 0 else if s.bad then s.at_ else 0
theorem Bytes_wn (h : WN w P A c s) (hc : s.bad = decide (s.code ≠ 0)) : Calls Tryd.prog 38 #[.pointer P] w fun e w' => FrmW w w' e s.out s.no s.pl := by
  have U : s.made = false → s.out = [] ∧ s.no = 3 ∧ s.pl = 0 := fun h => by simp [WrS.out, WrS.no, WrS.pl, h]
  rcases h with ⟨rfl, rfl, h1, h2⟩ | ⟨p, rfl, h⟩
  · obtain ⟨e1, e2, e3⟩ := U h1
    rw [e1, e2, e3]
    refine (Bytes_nil w).mono ?_
    rintro e w' ⟨b, rfl, hp, he, hb⟩
    exact ⟨none, 0, 0, _, rfl, Ob.nil _ _, .inr ⟨b, rfl, he, by decide⟩, hb⟩
  · cases hm : s.made
    · obtain ⟨e1, e2, e3⟩ := U hm
      rw [e1, e2, e3]
      refine (Bytes_unmade h hm).mono ?_
      rintro e w' ⟨b, rfl, hp, he, hb⟩
      exact ⟨none, 0, 0, _, rfl, Ob.nil _ _, .inr ⟨b, rfl, he, by decide⟩, hb⟩
    · cases hbd : s.bad
      · have e1 : s.out = s.buf ∧ s.no = 0 ∧ s.pl = 0 := by simp [WrS.out, WrS.no, WrS.pl, hm, hbd]
        rw [e1.1, e1.2.1, e1.2.2]
        refine (Bytes_good h hm hbd).mono ?_
        rintro e w' ⟨A', rfl, ho, hb⟩
        exact ⟨A', _, _, _, rfl, ho, .inl ⟨rfl, rfl, rfl⟩, hb⟩
      · have e1 : s.out = [] ∧ s.no = s.code ∧ s.pl = s.at_ := by simp [WrS.out, WrS.no, WrS.pl, hm, hbd]
        have hne : s.code ≠ 0 := by rw [hbd] at hc; simpa using hc.symm
        rw [e1.1, e1.2.1, e1.2.2]
        refine (Bytes_bad h hm hbd).mono ?_
        rintro e w' ⟨b, rfl, hp, he, hb⟩
        exact ⟨none, 0, 0, _, rfl, Ob.nil _ _, .inr ⟨b, rfl, he, hne⟩, hb⟩
end
end Go.Proofs.YtbhmnkpbaeemeaaDoor

/-! # W30 -/
namespace Go.Proofs.YtbhmnkpbaeemeaaDoor
open Go.RowKit

theorem rBytes_any {w : World} {q : Nat} {A : Option Addr} {c : Nat} {s : WrS} (h : Rw w q A c s) :
    Calls Tryd.prog 85 #[.pointer (some ⟨q, 0, none⟩)] w fun e w' => FrmR w w' e s.out s.no s.pl := by
  have c0 : w.cell? ⟨q, 0, none⟩ = some (.bool s.made) := h.blk.cell 0
  have c2 : w.cell? ⟨q, 2, none⟩ = some (.slice A s.buf.length c) := h.blk.cell 2
  have c3 : w.cell? ⟨q, 3, none⟩ = some (.int .i64 s.code) := h.blk.cell 3
  have c4 : w.cell? ⟨q, 4, none⟩ = some (.int .i64 s.at_) := h.blk.cell 4
  have hq := h.blk.lt
  have hne : ¬ q = w.heap.size := by omega
  have hsm := h.small
  cases hm : s.made
  · have e1 : s.out = [] ∧ s.no = 3 ∧ s.pl = 0 := by simp [WrS.out, WrS.no, WrS.pl, hm]
    rw [e1.1, e1.2.1, e1.2.2]
    rw [hm] at c0
    clear e1 h
    go_enter Tryd.func85, Tryd.ntmps85
    go_wp2
    refine bodyPost_ret (v := .tuple #[.slice none 0 0, .agg #[.int .i64 3, .int .i64 0]]) (by simp [results, Tryd.results85, go_sem]) rfl ?_
    exact ⟨none, 0, 0, rfl, Ob.nil _ _, by go_grown⟩
  · rw [hm] at c0
    cases hbd : s.bad
    · have e1 : s.out = s.buf ∧ s.no = 0 ∧ s.pl = 0 := by simp [WrS.out, WrS.no, WrS.pl, hm, hbd]
      rw [e1.1, e1.2.1, e1.2.2]
      have hc := h.code
      rw [hbd] at hc
      have hcode : s.code = 0 := by simpa using hc.symm
      rw [hcode] at c3
      have H := Lib.hid h
      clear e1 h hc
      go_enter Tryd.func85, Tryd.ntmps85
      have hbN := Blk.new w #[.int .i64 0, .int .i64 0] 29
      have HBN := Lib.hid hbN; clear hbN
      go_wp2_with (go_at_call 86; refine (Copy_any _ _ _ _ s.buf (H.out.row.alloc _) (by omega)).mono ?_; rintro e w5 ⟨A5, c5, rfl, ho, hb⟩; have HO := Lib.hid ho; have HB := Lib.hid hb; have bN := HBN.out.kept hb; have n0 : w5.cell? ⟨w.heap.size, 0, none⟩ = some (.int .i64 0) := bN.cell 0; have n1 : w5.cell? ⟨w.heap.size, 1, none⟩ = some (.int .i64 0) := bN.cell 1; have f0 := bN.frozen 0; have f1 := bN.frozen 1; clear ho hb bN)
      refine bodyPost_ret (v := .tuple #[.slice A5 s.buf.length c5, .agg #[.int .i64 0, .int .i64 0]]) (by simp [results, Tryd.results85, go_sem, n0, n1]) rfl ?_
      refine ⟨A5, _, c5, rfl, ?_, ?_⟩
      · have := HO.out.set2 w.heap.size (by simp) (.int .i64 0) (.int .i64 0)
        exact this.mono (by simp)
      · exact below_set2 (below_then (below1 w _) HB.out) _ (Nat.le_refl _) _ _
    · have e1 : s.out = [] ∧ s.no = s.code ∧ s.pl = s.at_ := by simp [WrS.out, WrS.no, WrS.pl, hm, hbd]
      rw [e1.1, e1.2.1, e1.2.2]
      have hc := h.code
      rw [hbd] at hc
      have hcode : (s.code != 0) = true := by simpa using hc.symm
      clear e1 h hc
      go_enter Tryd.func85, Tryd.ntmps85
      go_wp2
      go_region
      all_goals
        go_wp2
        refine bodyPost_ret (v := .tuple #[.slice none 0 0, .agg #[.int .i64 s.code, .int .i64 s.at_]]) (by simp [results, Tryd.results85, go_sem]) rfl ?_
        exact ⟨none, 0, 0, rfl, Ob.nil _ _, by go_grown⟩

set_option maxHeartbeats 800000 in
theorem written_any {w : World} {P A : Option Addr} {c : Nat} {s : WrS} {q : Nat} {A2 : Option Addr} {c2 : Nat} (h : WN w P A c s) (h2 : Rw w q A2 c2 s) :
    Calls Tryd.prog 28 #[.pointer P, .pointer (some ⟨q, 0, none⟩)] w fun e w' => e = .returned (.bool true) ∧ Below w.heap.size w w' := by
  have hR := Lib.hid (rBytes_any h2)
  have HC := Lib.hid h2.code
  have H := Lib.hid h
  have hout : s.out.length ≤ 65507 := by 
    unfold WrS.out
    split
    · simp
    · exact h2.small
  generalize hno : s.no = no at *
  generalize hpl : s.pl = pl at *
  clear h h2
  go_enter Tryd.func28, Tryd.ntmps28
  go_wp2_with (go_at_call 85; refine hR.out.mono ?_; rintro e w1 ⟨A5, m5, c5, rfl, ho, hb⟩; have HO := Lib.hid ho; have HB := Lib.hid hb; clear ho hb)
  go_loopw [7] (fun i wr => ∃ k : Nat, k ≤ 2 ∧ i = .int .i64 k ∧ Hid (Below w.heap.size w wr) ∧ Hid (Blk wr w1.heap.size #[.int .i64 no, .int .i64 pl] 29) ∧ Hid (Ob wr w.heap.size A5 m5 c5 s.out) ∧ Hid (∀ k, inA A5 k → k < w1.heap.size)) (fun i _ => 2 - (intOf i).toNat)
  case atStart => exact ⟨0, Nat.zero_le _, rfl, below_then HB.out (below1 _ _), Blk.new _ _ _, HO.out.alloc _, fun k hk => (HO.out.lt hk).2⟩
  case round =>
    obtain ⟨k, hk, rfl, B, X, O, L⟩ := hrel
    by_cases hlt : k < 2
    · have hk01 : k = 0 ∨ k = 1 := by omega
      rcases hk01 with rfl | rfl
      all_goals
        have hW := Lib.hid (Bytes_wn (H.out.chg (Chg.ofBelow B.out fun _ => False) fun _ _ => id) HC.out)
        rw [hno, hpl] at hW
        go_wp2_with (go_at_call 38; refine hW.out.mono ?_; rintro e w2 ⟨A8, m8, c8, err, rfl, ho, he, hb⟩; have HO8 := Lib.hid ho; have HE := Lib.hid he; have B2 := Lib.hid hb; have X2 := X.out.kept hb; have n0 : w2.cell? ⟨w1.heap.size, 0, none⟩ = some (.int .i64 no) := X2.cell 0; have n1 : w2.cell? ⟨w1.heap.size, 1, none⟩ = some (.int .i64 pl) := X2.cell 1; clear ho he hb X2)
        refine (told_any w2 err no pl HE.out).mono ?_
        rintro e w3 ⟨rfl, q1, rfl⟩
        go_wp2_with fail
        refine (sameBytes_any _ _ _ _ _ _ _ _ _ (HO8.out.rd.drewN _) ((O.out.below B2.out).rd.drewN _)).mono ?_
        rintro e w3 ⟨rfl, q2, rfl⟩
        go_wp2_with fail
        refine (spoil_any _ wr.heap.size A8 m8 c8 s.out (HO8.out.drewN _) (by have := HO8.out.rd.len; omega) (by exact B2.out.size) _ (by decide)).mono ?_
        rintro e w3 ⟨rfl, hc⟩
        have N8 : Hid (∀ k, inA A8 k → wr.heap.size ≤ k) := fun k hk => (HO8.out.lt hk).1
        have hsz : w.heap.size ≤ wr.heap.size := B.out.size
        have hxl := X.out.lt
        have HC3 := Lib.hid hc
        clear hc
        go_wp2
        go_roundw
        case rel =>
          have hB3 : Below wr.heap.size wr w3 := (below_drewN B2.out _).trans (HC3.out.below B2.out.size fun i hi hk => by
            have := N8.out i hk
            omega)
          exact ⟨_, by decide, rfl, below_then B.out hB3, X.out.kept hB3, O.out.below hB3, L⟩
        case measure => simp [intOf]
    · go_wp2
      go_ret
      exact ⟨rfl, B.out⟩
end Go.Proofs.YtbhmnkpbaeemeaaDoor

/-! # W31 -/
namespace Go.Proofs.YtbhmnkpbaeemeaaDoor
open Go.RowKit

/-- The two writers side by side, in the same state; all that is theirs lies above w0. -/
structure PW (w0 w : World) (P A : Option Addr) (c q : Nat) (A2 : Option Addr) (c2 : Nat) (s : WrS) : Prop where
  wn : WN w P A c s
  rw_ : Rw w q A2 c2 s
  new : ∀ k, wnF P A k → w0.heap.size ≤ k
  new2 : ∀ k, wrF q A2 k → w0.heap.size ≤ k
  sep : ∀ k, wnF P A k → ¬ wrF q A2 k
  bel : Below w0.heap.size w0 w

theorem Ob.front {w : World} {B : Nat} {A : Option Addr} {n m c : Nat} {xs ys : List UInt8} (h : Ob w B A m c (xs ++ ys)) (hn : xs.length = n) (hm : n ≤ m) : Ob w B A n c xs := by
  obtain ⟨hl, h2⟩ := h
  rw [bs_length, Nat.mul_one] at hl
  refine ⟨by rw [bs_length, Nat.mul_one]; exact hn, ?_⟩
  rcases h2 with ⟨e, h0⟩ | ⟨g, cap, cur, e, hB, hg, h1, h3, h4, h5⟩
  · cases e
    obtain rfl : n = 0 := by omega
    exact .inl ⟨rfl, rfl⟩
  · cases e
    refine .inr ⟨g, _, cur, rfl, hB, hg, by omega, h3, h4, ?_⟩
    rw [Nat.mul_one] at h5 ⊢
    have e2 : cur.toList.take n = (cur.toList.take m).take n := by rw [List.take_take, Nat.min_eq_left hm]
    rw [e2, h5, bs_append, List.take_left' (by rw [bs_length, hn])]

section
variable {w0 w w1 w2 w3 : World} {P A : Option Addr} {c q : Nat} {A2 : Option Addr} {c2 : Nat} {s s' : WrS}
theorem Rw.lt (h : Rw w q A2 c2 s) {k : Nat} (hk : wrF q A2 k) : k < w.heap.size := by
  rcases hk with rfl | hk
  · exact h.blk.lt
  · exact h.lt_ k hk

theorem PW.rd (h : PW w0 w P A c q A2 c2 s) {Ab : Option Addr} {n cb : Nat} {b : List UInt8} (hr : Rd w0 Ab n cb b) : Rd w Ab n cb b := hr.below h.bel
theorem PW.below (h : PW w0 w P A c q A2 c2 s) (hb : Below w.heap.size w w1) : PW w0 w1 P A c q A2 c2 s :=
  ⟨h.wn.chg (Chg.ofBelow hb fun _ => False) fun _ _ => id, h.rw_.below hb, h.new, h.new2, h.sep, below_then h.bel hb⟩
theorem PW.chg {F : Nat → Prop} (h : PW w0 w P A c q A2 c2 s) (hc : Chg w w1 F) (h1 : ∀ k, wnF P A k → ¬ F k) (h2 : ∀ k, wrF q A2 k → ¬ F k) (h3 : ∀ k, F k → w0.heap.size ≤ k) : PW w0 w1 P A c q A2 c2 s :=
  ⟨h.wn.chg hc h1, h.rw_.chg hc h2, h.new, h.new2, h.sep, h.bel.trans (hc.below h.bel.size fun i hi hf => by have := h3 i hf; omega)⟩
/-- The document's writer behind a call of the program's. -/
theorem PW.mid (h : PW w0 w P A c q A2 c2 s) (hq : WNPost w w1 P A s') : Rw w1 q A2 c2 s := by
  obtain ⟨A', c', h1, h2, h3⟩ := hq
  exact h.rw_.chg h2 fun k hk hw => h.sep k hw hk
theorem PW.step2 (h : PW w0 w P A c q A2 c2 s) (hq : WNPost w w1 P A s') (hr : RwPost w1 w2 q A2 s') : ∃ A' c' A2' c2', PW w0 w2 P A' c' q A2' c2' s' ∧ (∀ k, wnF P A' k → wnF P A k ∨ w.heap.size ≤ k) ∧ (∀ k, wrF q A2' k → wrF q A2 k ∨ w1.heap.size ≤ k) := by
  obtain ⟨A', c', h1, h2, h3⟩ := hq
  obtain ⟨A2', c2', r1, r2, r3⟩ := hr
  have hP : ∀ k, wnF P A' k → wnF P A k ∨ w.heap.size ≤ k := by
    intro k hk
    rcases hk with hk | hk
    · exact .inl (.inl hk)
    · rcases h3 k hk with hk | hk
      · exact .inl (.inr hk)
      · exact .inr hk
  have hQ : ∀ k, wrF q A2' k → wrF q A2 k ∨ w1.heap.size ≤ k := by
    intro k hk
    rcases hk with hk | hk
    · exact .inl (.inl hk)
    · rcases r3 k hk with hk | hk
      · exact .inl (.inr hk)
      · exact .inr hk
  have hq0 := h.rw_.lt (.inl rfl)
  have e1 : w0.heap.size ≤ w.heap.size := h.bel.size
  have e2 : w.heap.size ≤ w1.heap.size := h2.size
  refine ⟨A', c', A2', c2', ⟨h1.chg r2 ?_, r1, ?_, ?_, ?_, ?_⟩, hP, hQ⟩
  · intro k hk e
    rcases hP k hk with hk' | hk'
    · exact h.sep k hk' (.inl e)
    · omega
  · intro k hk
    rcases hP k hk with hk' | hk'
    · exact h.new k hk'
    · omega
  · intro k hk
    rcases hQ k hk with hk' | hk'
    · exact h.new2 k hk'
    · omega
  · intro k hk hk2
    have l1 := h1.lt hk
    rcases hQ k hk2 with hk2' | hk2'
    · rcases hP k hk with hk' | hk'
      · exact h.sep k hk' hk2'
      · have := h.rw_.lt hk2'
        omega
    · omega
  · refine (h.bel.trans (h2.below e1 fun i hi hf => ?_)).trans (r2.below (Nat.le_trans e1 e2) fun i hi hf => ?_)
    · have := h.new i hf
      omega
    · have := h.new2 i (.inl hf)
      omega
theorem PW.step (h : PW w0 w P A c q A2 c2 s) (hq : WNPost w w1 P A s') (hr : RwPost w1 w2 q A2 s') : ∃ A' c' A2' c2', PW w0 w2 P A' c' q A2' c2' s' := by
  obtain ⟨A', c', A2', c2', h, _⟩ := h.step2 hq hr
  exact ⟨A', c', A2', c2', h⟩
end
end Go.Proofs.YtbhmnkpbaeemeaaDoor
