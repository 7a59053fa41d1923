import Derived.Test.YtbhmnkpbaeemeaaDoorW26
set_option linter.unusedVariables false
set_option linter.unusedSimpArgs false
namespace Go.Proofs.YtbhmnkpbaeemeaaDoor
open Go.RowKit

set_option maxRecDepth 100000 in
theorem refNum_any (v : Nat) (w : World) (hv : v < 18446744073709551616) :
    Calls Tryd.prog 137 #[.int .u64 (v : Int)] w fun e w' => ∃ A' c', e = .returned (.slice A' (numB v).length c') ∧ Ob w' w.heap.size A' (numB v).length c' (numB v) ∧ Below w.heap.size w w' := by
  have hlen := numB_len64 v hv
  go_enter Tryd.func137, Tryd.ntmps137
  go_wp2
  go_loopw [0, 3] (fun x b wr => ∃ (y : Nat) (pre : List UInt8) (A : Option Addr) (c n : Nat), y < 18446744073709551616 ∧ x = .int .u64 (y : Int) ∧ b = .slice A n c ∧ Hid (pre.length = n) ∧ Hid (numB v = pre ++ numB y) ∧ Hid (Ob wr w.heap.size A n c pre) ∧ Hid (Below w.heap.size w wr)) (fun x _ _ => (intOf x).toNat)
  case atStart => exact ⟨v, [], none, 0, 0, hv, rfl, rfl, rfl, rfl, Ob.nil _ _, Below.refl _ _⟩
  case round =>
    obtain ⟨y, pre, A, c, n, hy, rfl, rfl, HN, HP, HO, HB⟩ := hrel
    have hpl : n ≤ 10 := by rw [← HN.out]; have := HP.out; rw [this, List.length_append] at hlen; omega
    by_cases hlt : 128 ≤ y
    · have hg : decide ((127 : Int) < (y : Int)) = true := by simp; omega
      have HZ : Hid ((y : Int) % 128 + 128 = ((contB y).toNat : Int)) := by show _ = _; rw [contB_toNat]; omega
      go_wp2_with (at_builtin; refine wpl_append_1 rfl (.tmp 6) (.tmp 11) rfl rfl HO.out rfl (contB y) HZ.out (by omega) HB.out.size ?_; intro A2 c2 w2 hown2 hchg2 hin2; have HA := Lib.hid (And.intro hown2 (And.intro hchg2 hin2)); clear hown2 hchg2 hin2)
      go_roundw
      case rel =>
        refine ⟨y / 128, pre ++ [contB y], A2, c2, n + 1, by omega, by go_num, rfl, ?_, ?_, HA.out.1, ?_⟩
        · show _ = _
          rw [List.length_append, HN.out]; rfl
        · show _ = _
          rw [HP.out, numB_ge y hlt, List.append_assoc]; rfl
        · exact below_of HB.out HO.out HA.out.2.1
      case measure => simp [intOf]; omega
    · have hn1 := numB_lt y (by omega)
      have hg : decide ((127 : Int) < (y : Int)) = false := by simp; omega
      have Hn1 := Lib.hid hn1; clear hn1
      have Hlb : Hid ((y : Int) = ((lastB y).toNat : Int)) := by show _ = _; rw [lastB_toNat y (by omega)]
      go_wp2_with (at_builtin; refine wpl_append_1 rfl (.tmp 15) (.tmp 18) rfl rfl HO.out rfl (lastB y) Hlb.out (by omega) HB.out.size ?_; intro A2 c2 w2 hown2 hchg2 hin2; have HA := Lib.hid (And.intro hown2 (And.intro hchg2 hin2)); clear hown2 hchg2 hin2)
      go_ret
      have e1 : pre ++ [lastB y] = numB v := by rw [HP.out, Hn1.out]
      have e2 : n + 1 = (numB v).length := by rw [← e1, List.length_append, HN.out]; rfl
      rw [e1, e2] at HA
      rw [e2]
      exact ⟨A2, c2, rfl, HA.out.1, below_of HB.out HO.out HA.out.2.1⟩

section
variable {w : World} {q : Nat} {A : Option Addr} {c : Nat} {s : WrS}
/-- The writer behind a call that only laid new blocks, and put behind that. -/
theorem put_after {w1 : World} (h : Rw w q A c s) (hb : Below w.heap.size w w1) (Ab : Option Addr) (n cb : Nat) (xs : List UInt8) (hr : Rd w1 Ab n cb xs) (own : Int) (hn : n ≤ 900000000) :
    Calls Tryd.prog 135 #[.pointer (some ⟨q, 0, none⟩), .slice Ab n cb, .int .i64 own] w1 fun e w' => e = .returned (.tuple #[]) ∧ RwPost w w' q A (s.lay own xs) := by
  refine (put_any (h.below hb) Ab n cb xs hr own hn).mono ?_
  rintro e w' ⟨rfl, A', c', h1, h2, h3⟩
  refine ⟨rfl, A', c', h1, (Chg.ofBelow hb _).trans h2 fun i _ hi => hi, fun k hk => ?_⟩
  rcases h3 k hk with h | h
  · exact .inl h
  · exact .inr (Nat.le_trans hb.size h)

theorem Fixed_any (h : Rw w q A c s) (v n : Nat) (hv : v < 18446744073709551616) (hn : n ≤ 8) :
    Calls Tryd.prog 73 #[.pointer (some ⟨q, 0, none⟩), .int .u64 (v : Int), .int .i64 (n : Int)] w fun e w' => e = .returned (.tuple #[]) ∧ RwPost w w' q A (s.lay 0 (bigR v n)) := by
  have hB := Lib.hid (Big_any w v n hv hn)
  have H := Lib.hid h
  clear h
  go_enter Tryd.func73, Tryd.ntmps73
  go_wp2_with first | (go_at_call 60; refine hB.out.mono ?_; rintro e w1 ⟨A1, c1, rfl, ho, hb⟩) | (go_at_call 135; refine (put_after H.out hb _ _ _ _ ho.rd 0 (by omega)).mono ?_; rintro e w' ⟨rfl, hq⟩)
  go_returns
  exact ⟨rfl, hq⟩

theorem rNum_any (h : Rw w q A c s) (v : Nat) (hv : v < 18446744073709551616) :
    Calls Tryd.prog 76 #[.pointer (some ⟨q, 0, none⟩), .int .u64 (v : Int)] w fun e w' => e = .returned (.tuple #[]) ∧ RwPost w w' q A (s.lay 0 (numB v)) := by
  have hN := Lib.hid (refNum_any v w hv)
  have hl := numB_len64 v hv
  have H := Lib.hid h
  clear h
  go_enter Tryd.func76, Tryd.ntmps76
  go_wp2_with first | (go_at_call 137; refine hN.out.mono ?_; rintro e w1 ⟨A1, c1, rfl, ho, hb⟩) | (go_at_call 135; refine (put_after H.out hb _ _ _ _ ho.rd 0 (by omega)).mono ?_; rintro e w' ⟨rfl, hq⟩)
  go_returns
  exact ⟨rfl, hq⟩

theorem rFlag_any (h : Rw w q A c s) (v : Bool) :
    Calls Tryd.prog 78 #[.pointer (some ⟨q, 0, none⟩), .bool v] w fun e w' => e = .returned (.tuple #[]) ∧ RwPost w w' q A (s.lay 0 [if v then 1 else 0]) := by
  have hL : ∀ v : UInt8, Hid (Calls Tryd.prog 135 #[.pointer (some ⟨q, 0, none⟩), .slice (some ⟨w.heap.size, 0, none⟩) 1 1, .int .i64 0] (w.alloc (.cells #[.int .u8 (v.toNat : Int)] 5)) fun e w' => e = .returned (.tuple #[]) ∧ RwPost w w' q A (s.lay 0 [v])) := by
    intro v
    have hb : Blk (w.alloc (.cells #[.int .u8 (v.toNat : Int)] 5)) w.heap.size (bs [v]).toArray 5 := Blk.new _ _ _
    exact Lib.hid (put_after h (below1 w _) _ _ _ _ (Rd.ofBlk hb (by simp)) 0 (by simp))
  cases v
  · have hL0 := hL 0
    clear hL h
    go_enter Tryd.func78, Tryd.ntmps78
    go_wp2_with (go_at_call 135; refine hL0.out.mono ?_; rintro e w' ⟨rfl, hq⟩)
    go_returns
    exact ⟨rfl, hq⟩
  · have hL0 := hL 1
    clear hL h
    go_enter Tryd.func78, Tryd.ntmps78
    go_wp2_with (go_at_call 135; refine hL0.out.mono ?_; rintro e w' ⟨rfl, hq⟩)
    go_returns
    exact ⟨rfl, hq⟩

theorem rCount_any (h : Rw w q A c s) (n most : Int) (hn : n ≤ 9223372036854775807) :
    Calls Tryd.prog 80 #[.pointer (some ⟨q, 0, none⟩), .int .i64 n, .int .i64 most] w fun e w' => e = .returned (.tuple #[]) ∧ RwPost w w' q A (s.count n most) := by
  have hL := Lib.hid (put_any h none 0 0 [] (Rd.nilRd w) 21 (by omega))
  by_cases hn0 : n < 0
  · have fin : s.count n most = s.lay 21 [] := by unfold WrS.count; rw [if_pos (.inl hn0)]
    have Fin := Lib.hid fin; clear fin h
    go_enter Tryd.func80, Tryd.ntmps80
    go_wp2_with (go_at_call 135; refine hL.out.mono ?_; rintro e w' ⟨rfl, hq⟩)
    go_returns
    exact ⟨rfl, by rw [Fin.out]; exact hq⟩
  · by_cases hm : most < n
    · have fin : s.count n most = s.lay 21 [] := by unfold WrS.count; rw [if_pos (.inr hm)]
      have Fin := Lib.hid fin; clear fin h
      go_enter Tryd.func80, Tryd.ntmps80
      go_wp2_with (go_at_call 135; refine hL.out.mono ?_; rintro e w' ⟨rfl, hq⟩)
      go_returns
      exact ⟨rfl, by rw [Fin.out]; exact hq⟩
    · have fin : s.count n most = s.lay 0 (numB n.toNat) := by unfold WrS.count; rw [if_neg (by omega)]
      have Fin := Lib.hid fin; clear fin hL
      obtain ⟨m, rfl⟩ := Int.eq_ofNat_of_zero_le (Int.not_lt.1 hn0)
      rw [Int.toNat_natCast] at Fin
      have hN := Lib.hid (refNum_any m w (by omega))
      have hl := numB_len64 m (by omega)
      have H := Lib.hid h
      clear h
      go_enter Tryd.func80, Tryd.ntmps80
      go_wp2_with first | (go_at_call 137; refine hN.out.mono ?_; rintro e w1 ⟨A1, c1, rfl, ho, hb⟩) | (go_at_call 135; refine (put_after H.out hb _ _ _ _ ho.rd 0 (by omega)).mono ?_; rintro e w' ⟨rfl, hq⟩)
      go_returns
      exact ⟨rfl, by rw [Fin.out]; exact hq⟩

theorem rBlob_any (h : Rw w q A c s) (Ab : Option Addr) (n cb : Nat) (b : List UInt8) (most : Int) (hr : Rd w Ab n cb b) (hn : n ≤ 800000000) :
    Calls Tryd.prog 82 #[.pointer (some ⟨q, 0, none⟩), .slice Ab n cb, .int .i64 most] w fun e w' => e = .returned (.tuple #[]) ∧ RwPost w w' q A (s.blob b most) := by
  have hL := Lib.hid (put_any h none 0 0 [] (Rd.nilRd w) 21 (by omega))
  have hlen := hr.len
  by_cases hm : most < n
  · have fin : s.blob b most = s.lay 21 [] := by unfold WrS.blob; rw [if_pos (by omega)]
    have Fin := Lib.hid fin; clear fin hlen h hr
    go_enter Tryd.func82, Tryd.ntmps82
    go_wp2_with (go_at_call 135; refine hL.out.mono ?_; rintro e w' ⟨rfl, hq⟩)
    go_returns
    exact ⟨rfl, by rw [Fin.out]; exact hq⟩
  · have fin : s.blob b most = s.lay 0 (numB n ++ b) := by unfold WrS.blob; rw [if_neg (by omega), hlen]
    have Fin := Lib.hid fin; clear fin hL
    have hN := Lib.hid (refNum_any n w (by omega))
    have hl := numB_len64 n (by omega)
    have Hlen := Lib.hid hlen
    have HR := Lib.hid hr
    have H := Lib.hid h
    obtain ⟨l, hll⟩ : ∃ l, l = (numB n).length + n := ⟨_, rfl⟩
    have HLL := Lib.hid hll
    clear hlen hr h hll
    go_enter Tryd.func82, Tryd.ntmps82
    go_wp2_with first | (go_at_call 137; refine hN.out.mono ?_; rintro e w1 ⟨A1, c1, rfl, ho, hb⟩; have HO := Lib.hid ho; have HB := Lib.hid hb; clear ho hb) | (go_at_call 59; refine (Join_l w1 _ _ _ _ HO.out.rd _ _ _ _ (HR.out.below HB.out) l HLL.out.symm (by have := HLL.out; omega)).mono ?_; rintro e w2 ⟨A2, c2, rfl, ho, hb⟩) | (go_at_call 135; refine (put_after H.out (below_then HB.out hb) _ _ _ _ ho.rd 0 (by have := HLL.out; omega)).mono ?_; rintro e w' ⟨rfl, hq⟩)
    go_returns
    exact ⟨rfl, by rw [Fin.out]; exact hq⟩
end
end Go.Proofs.YtbhmnkpbaeemeaaDoor
