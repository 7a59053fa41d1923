import Derived.Test.YtbhmnkpbaeemeaaDoorW9
set_option linter.unusedVariables false
set_option linter.unusedSimpArgs false
namespace Go.Proofs.YtbhmnkpbaeemeaaDoor
open Go.RowKit

theorem make_cap (n : Nat) (hn : n ≤ 1000000000) (W : World) : (Instr.makeSlice 22 (.int .i64 0) (.int .i64 ((n : Int) + 4))).run Tryd.prog W = .ok (.slice (some ⟨W.heap.size, 0, none⟩) 0 (n + 4)) (W.alloc (.cells (madeCells #[.int .u8 0] (n + 4)) 5)) := by
  obtain ⟨i0, hi, hz0, hz1, hz2⟩ := info_parts info5
  have := run_make (P := Tryd.prog) W 22 5 i0 (.int .u8 0) Tryd.underlying22 hi hz0 .i64 .i64 0 ((n : Int) + 4) (by omega) (by omega) (by rw [hz2]; omega) (by omega)
  rw [hz1, Nat.mul_one, show ((n : Int) + 4).toNat = n + 4 by omega] at this
  exact this
theorem Ob.made (W : World) (B n : Nat) (hB : B ≤ W.heap.size) (hn : n ≤ 1000000000) : Ob (W.alloc (.cells (madeCells #[.int .u8 0] n) 5)) B (some ⟨W.heap.size, 0, none⟩) 0 n [] :=
  World.ownsRow_made W _ n hB (by unfold maxLen; omega) (by rw [size_madeCells, Nat.mul_one])

def marks : List UInt8 := [160, 161, 162, 163]

theorem marks_get (k : Nat) (h : k < marks.length) : ((marks[k]'h).toNat : Int) = 160 + k := by
  have : k = 0 ∨ k = 1 ∨ k = 2 ∨ k = 3 := by simp [marks] at h; omega
  rcases this with rfl | rfl | rfl | rfl <;> rfl

theorem Rd.front {w : World} {A : Option Addr} {n m c : Nat} {xs ys : List UInt8} (h : Rd w A m c (xs ++ ys)) (hn : xs.length = n) : Rd w A n c xs :=
  ⟨hn, by have h1 := h.len; have h2 := h.le; rw [List.length_append] at h1; omega, h.max, h.nil, fun i hi => by
    obtain ⟨b, o, e, hc⟩ := h.at_ i (by rw [List.length_append]; omega)
    refine ⟨b, o, e, ?_⟩
    rw [hc, List.getElem_append_left hi]⟩

theorem lend_any (w : World) (A : Option Addr) (n c : Nat) (xs : List UInt8) (hx : Rd w A n c xs) (hn : n ≤ 999999000) :
    Calls Tryd.prog 13 #[.slice A n c] w fun e w' => ∃ A' c', e = .returned (.slice A' n c') ∧ Ob w' w.heap.size A' (n + 4) c' (xs ++ marks) ∧ Below w.heap.size w w' := by
  have HX := Lib.hid hx
  have hl := hx.len
  subst hl
  clear hx
  have hmk := make_cap xs.length (by omega)
  go_enter Tryd.func13, Tryd.ntmps13
  go_wp2
  clear hmk
  go_loopw [3, 4] (fun b i wr => ∃ (k : Nat) (A' : Option Addr) (c' : Nat), k ≤ xs.length ∧ i = .int .i64 k ∧ b = .slice A' k c' ∧ Hid (Ob wr w.heap.size A' k c' (xs.take k)) ∧ Hid (Below w.heap.size w wr)) (fun _ i _ => xs.length - (intOf i).toNat)
  case atStart => exact ⟨0, _, _, Nat.zero_le _, rfl, rfl, Ob.made w _ _ (Nat.le_refl _) (by omega), below1 w _⟩
  case round =>
    obtain ⟨k, A', c', hk, rfl, rfl, HO, HB⟩ := hrel
    by_cases hlt : k < xs.length
    · obtain ⟨b, o, rfl, hc⟩ := (HX.out.below HB.out).at_ k hlt
      go_wp2_with (at_builtin; refine wpl_append_1 rfl (.tmp 16) (.tmp 21) rfl rfl HO.out rfl (xs[k]'hlt) rfl (by omega) HB.out.size ?_; intro A2 c2 w2 hown2 hchg2 hin2; have HA := Lib.hid (And.intro hown2 (And.intro hchg2 hin2)); clear hown2 hchg2 hin2)
      go_roundw
      case rel => exact ⟨k + 1, A2, c2, by omega, by go_num, rfl, by rw [take_snoc hlt]; exact HA.out.1, below_of HB.out HO.out HA.out.2.1⟩
      case measure => simp [intOf]; omega
    · obtain rfl : k = xs.length := by omega
      rw [List.take_length] at HO
      go_wp2
      go_loopw [3, 5] (fun b i wr => ∃ (k : Nat) (A' : Option Addr) (c' l : Nat), k ≤ 4 ∧ i = .int .i64 k ∧ l = xs.length + k ∧ b = .slice A' l c' ∧ Hid (Ob wr w.heap.size A' l c' (xs ++ marks.take k)) ∧ Hid (Below w.heap.size w wr)) (fun _ i _ => 4 - (intOf i).toNat)
      case atStart => exact ⟨0, A', c', xs.length, Nat.zero_le _, rfl, rfl, rfl, by simpa using HO, HB⟩
      case round =>
        obtain ⟨k, A', c', l, hk, rfl, hl, rfl, HO, HB⟩ := hrel
        have hll : l ≤ 999999004 := by omega
        have HL := Lib.hid hl; clear hl
        by_cases hlt : k < 4
        · have hlm : k < marks.length := hlt
          have HZ : Hid (160 + (k : Int) = ((marks[k]'hlm).toNat : Int)) := (marks_get k hlm).symm
          go_wp2_with (at_builtin; refine wpl_append_1 rfl (.tmp 27) (.tmp 31) rfl rfl HO.out rfl (marks[k]'hlm) HZ.out (by omega) HB.out.size ?_; intro A2 c2 w2 hown2 hchg2 hin2; have HA := Lib.hid (And.intro hown2 (And.intro hchg2 hin2)); clear hown2 hchg2 hin2)
          go_roundw
          case rel => exact ⟨k + 1, A2, c2, l + 1, by omega, by go_num, by have := HL.out; omega, rfl, by rw [take_snoc hlm, ← List.append_assoc]; exact HA.out.1, below_of HB.out HO.out HA.out.2.1⟩
          case measure => simp [intOf]; omega
        · obtain rfl : k = 4 := by omega
          have hlc : xs.length ≤ c' := by have := HO.out.rd.le; have := HL.out; omega
          go_wp2
          go_ret
          obtain rfl := HL.out
          exact ⟨A', c', rfl, HO.out, HB.out⟩

theorem kept_true (w : World) (A : Option Addr) (n c : Nat) (xs : List UInt8) (hx : Rd w A (n + 4) c (xs ++ marks)) (A1 : Option Addr) (c1 : Nat) (hy : Rd w A1 n c1 xs) (hn : n ≤ 999999000) :
    Calls Tryd.prog 16 #[.slice A n c, .slice A1 n c1] w fun e w' => e = .returned (.bool true) ∧ ∃ q, w' = w.drewN q := by
  have HX := Lib.hid hx
  have HY := Lib.hid hy
  have hl := hy.len
  subst hl
  have hcap : xs.length + 4 ≤ c := hx.le
  clear hx hy
  go_enter Tryd.func16, Tryd.ntmps16
  go_wp2
  go_loopw [6] (fun i wr => ∃ k : Nat, k ≤ xs.length + 4 ∧ i = .int .i64 k ∧ ∃ q, wr = w.drewN q) (fun i _ => xs.length + 4 - (intOf i).toNat)
  case atStart => exact ⟨0, Nat.zero_le _, rfl, 0, rfl⟩
  case round =>
    obtain ⟨k, hk, rfl, q, rfl⟩ := hrel
    by_cases hlt : k < xs.length + 4
    · have hkl : k < (xs ++ marks).length := by rw [List.length_append]; exact hlt
      obtain ⟨b, o, rfl, hc⟩ := HX.out.at_ k hkl
      by_cases hlx : k < xs.length
      · obtain ⟨b1, o1, rfl, hc1⟩ := HY.out.at_ k hlx
        rw [List.getElem_append_left hlx] at hc
        have t2b : decide (xs.length ≤ k) = false := by simp; omega
        go_wp2
        go_quiet (fail)
        go_wp2
        go_roundw
        case rel => exact ⟨k + 1, by omega, by go_num, _, rfl⟩
        case measure => simp [intOf]; omega
      · have hm : k - xs.length < marks.length := by show _ < 4; omega
        rw [List.getElem_append_right (by omega)] at hc
        rw [marks_get _ hm] at hc
        have t2b : decide (xs.length ≤ k) = true := by simp; omega
        have t1b : decide (k < xs.length) = false := by simp; omega
        have ht4 : ((160 + ((k - xs.length : Nat) : Int)) != (160 + (k : Int) - (xs.length : Int)) % 256) = false := by
          rw [bne_eq_false_iff_eq]
          omega
        go_wp2
        go_quiet (fail)
        go_wp2
        go_roundw
        case rel => exact ⟨k + 1, by omega, by go_num, _, rfl⟩
        case measure => simp [intOf]; omega
    · go_wp2
      go_ret
      exact ⟨rfl, q, rfl⟩
end Go.Proofs.YtbhmnkpbaeemeaaDoor
