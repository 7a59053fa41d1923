import Derived.Test.YtbhmnkpbaeemeaaDoorW8
set_option linter.unusedVariables false
set_option linter.unusedSimpArgs false
namespace Go.Proofs.YtbhmnkpbaeemeaaDoor
open Go.RowKit

theorem take_snoc {xs : List UInt8} {k : Nat} (h : k < xs.length) : xs.take (k + 1) = xs.take k ++ [xs[k]'h] := List.take_succ_eq_append_getElem h

theorem Copy_any (w : World) (A : Option Addr) (n c : Nat) (xs : List UInt8) (hx : Rd w A n c xs) (hn : n ≤ 1000000000) :
    Calls Tryd.prog 86 #[.slice A n c] w fun e w' => ∃ A' c', e = .returned (.slice A' n c') ∧ Ob w' w.heap.size A' n c' xs ∧ Below w.heap.size w w' := by
  have HX := Lib.hid hx
  have hl := hx.len
  subst hl
  clear hx
  go_enter Tryd.func86, Tryd.ntmps86
  go_wp2
  go_loopw [3, 4] (fun b i wr => ∃ (k : Nat) (A' : Option Addr) (c' : Nat), k ≤ xs.length ∧ i = .int .i64 k ∧ b = .slice A' k c' ∧ Hid (Ob wr w.heap.size A' k c' (xs.take k)) ∧ Hid (Below w.heap.size w wr)) (fun _ i _ => xs.length - (intOf i).toNat)
  case atStart => exact ⟨0, none, 0, Nat.zero_le _, rfl, rfl, Ob.nil _ _, Below.refl _ _⟩
  case round =>
    obtain ⟨k, A', c', hk, rfl, rfl, HO, HB⟩ := hrel
    by_cases hlt : k < xs.length
    · obtain ⟨b, o, rfl, hc⟩ := (HX.out.below HB.out).at_ k hlt
      go_wp2_with (at_builtin; refine wpl_append_1 rfl (.tmp 11) (.tmp 16) rfl rfl HO.out rfl (xs[k]'hlt) rfl (by omega) HB.out.size ?_; intro A2 c2 w2 hown2 hchg2 hin2; have HA := Lib.hid (And.intro hown2 (And.intro hchg2 hin2)); clear hown2 hchg2 hin2)
      go_roundw
      case rel => exact ⟨k + 1, A2, c2, by omega, by go_num, rfl, by rw [take_snoc hlt]; exact HA.out.1, below_of HB.out HO.out HA.out.2.1⟩
      case measure => simp [intOf]; omega
    · go_wp2
      go_ret
      obtain rfl : k = xs.length := by omega
      rw [List.take_length] at HO
      exact ⟨A', c', rfl, HO.out, HB.out⟩

theorem Join_any (w : World) (A : Option Addr) (n c : Nat) (xs : List UInt8) (hx : Rd w A n c xs) (A1 : Option Addr) (m c1 : Nat) (ys : List UInt8) (hy : Rd w A1 m c1 ys) (hn : n + m ≤ 1000000000) :
    Calls Tryd.prog 59 #[.slice A n c, .slice A1 m c1] w fun e w' => ∃ A' c', e = .returned (.slice A' (n + m) c') ∧ Ob w' w.heap.size A' (n + m) c' (xs ++ ys) ∧ Below w.heap.size w w' := by
  have HY := Lib.hid hy
  have hl := hy.len
  subst hl
  clear hy
  have HC := Lib.hid (Copy_any w A n c xs hx (by omega))
  go_enter Tryd.func59, Tryd.ntmps59
  go_wp2_with (go_at_call 86; refine HC.out.mono ?_; rintro e w1 ⟨A0, c0, rfl, ho, hb⟩)
  have HO := Lib.hid ho
  have HB := Lib.hid hb
  clear ho hb
  go_loopw [5, 6] (fun b i wr => ∃ (k : Nat) (A' : Option Addr) (c' l : Nat), k ≤ ys.length ∧ i = .int .i64 k ∧ l = n + k ∧ b = .slice A' l c' ∧ Hid (Ob wr w.heap.size A' l c' (xs ++ ys.take k)) ∧ Hid (Below w.heap.size w wr)) (fun _ i _ => ys.length - (intOf i).toNat)
  case atStart => exact ⟨0, A0, c0, n, Nat.zero_le _, rfl, rfl, rfl, by simpa using HO, HB⟩
  case round =>
    obtain ⟨k, A', c', l, hk, rfl, hl, rfl, HO, HB⟩ := hrel
    have hll : l ≤ 1000000000 := by omega
    have HL := Lib.hid hl; clear hl
    by_cases hlt : k < ys.length
    · obtain ⟨b, o, rfl, hc⟩ := (HY.out.below HB.out).at_ k hlt
      go_wp2_with (at_builtin; refine wpl_append_1 rfl (.tmp 15) (.tmp 20) rfl rfl HO.out rfl (ys[k]'hlt) rfl (by omega) HB.out.size ?_; intro A2 c2 w2 hown2 hchg2 hin2; have HA := Lib.hid (And.intro hown2 (And.intro hchg2 hin2)); clear hown2 hchg2 hin2)
      go_roundw
      case rel => exact ⟨k + 1, A2, c2, l + 1, by omega, by go_num, by have := HL.out; omega, rfl, by rw [take_snoc hlt, ← List.append_assoc]; exact HA.out.1, below_of HB.out HO.out HA.out.2.1⟩
      case measure => simp [intOf]; omega
    · go_wp2
      go_ret
      obtain rfl : k = ys.length := by omega
      rw [List.take_length] at HO
      obtain rfl := HL.out
      exact ⟨A', c', rfl, HO.out, HB.out⟩

/-- The high bytes first, by digits. -/
def bigR (v : Nat) : Nat → List UInt8
  | 0 => []
  | n + 1 => lastB (v / 256 ^ n % 256) :: bigR v n
theorem bigR_length (v n : Nat) : (bigR v n).length = n := by
  induction n with
  | zero => rfl
  | succ n ih => simp [bigR, ih]

theorem shr8 (v k : Nat) : (v : Int) / 2 ^ (8 * k) % 256 = ((lastB (v / 256 ^ k % 256)).toNat : Int) := by
  rw [lastB_toNat _ (by omega)]
  have e : (v : Int) / 2 ^ (8 * k) = ((v / 2 ^ (8 * k) : Nat) : Int) := by
    rw [Int.natCast_ediv, Int.natCast_pow]
    rfl
  rw [e, Nat.pow_mul]
  rfl

theorem Big_any (w : World) (v n : Nat) (hv : v < 18446744073709551616) (hn : n ≤ 8) :
    Calls Tryd.prog 60 #[.int .u64 (v : Int), .int .i64 (n : Int)] w fun e w' => ∃ A' c', e = .returned (.slice A' n c') ∧ Ob w' w.heap.size A' n c' (bigR v n) ∧ Below w.heap.size w w' := by
  go_enter Tryd.func60, Tryd.ntmps60
  go_wp2
  go_loopw [5, 6] (fun b i wr => ∃ (k : Nat) (A' : Option Addr) (c' l : Nat) (acc : List UInt8), k ≤ n ∧ i = .int .i64 ((k : Int) - 1) ∧ l + k = n ∧ b = .slice A' l c' ∧ Hid (bigR v n = acc ++ bigR v k) ∧ Hid (Ob wr w.heap.size A' l c' acc) ∧ Hid (Below w.heap.size w wr)) (fun _ i _ => (intOf i + 1).toNat)
  case atStart => exact ⟨n, none, 0, 0, [], Nat.le_refl _, by go_num, by omega, rfl, rfl, Ob.nil _ _, Below.refl _ _⟩
  case round =>
    obtain ⟨k, A', c', l, acc, hk, rfl, hl, rfl, HV, HO, HB⟩ := hrel
    have hll : l ≤ 8 := by omega
    have HL := Lib.hid hl; clear hl
    by_cases hlt : 0 < k
    · obtain ⟨k, rfl⟩ : ∃ m, k = m + 1 := ⟨k - 1, by omega⟩
      have HZ := Lib.hid (shr8 v k)
      go_wp2_with (at_builtin; refine wpl_append_1 rfl (.tmp 13) (.tmp 20) rfl rfl HO.out rfl (lastB (v / 256 ^ k % 256)) HZ.out (by omega) HB.out.size ?_; intro A2 c2 w2 hown2 hchg2 hin2; have HA := Lib.hid (And.intro hown2 (And.intro hchg2 hin2)); clear hown2 hchg2 hin2)
      go_roundw
      case rel =>
        refine ⟨k, A2, c2, l + 1, acc ++ [lastB (v / 256 ^ k % 256)], by omega, by go_num, by have := HL.out; omega, rfl, ?_, HA.out.1, below_of HB.out HO.out HA.out.2.1⟩
        show _ = _
        rw [HV.out, List.append_assoc]
        rfl
      case measure => simp [intOf]
    · obtain rfl : k = 0 := by omega
      go_wp2
      go_ret
      obtain rfl : l = n := by have := HL.out; omega
      have e : acc = bigR v l := by rw [HV.out]; simp [bigR]
      subst e
      exact ⟨A', c', rfl, HO.out, HB.out⟩
end Go.Proofs.YtbhmnkpbaeemeaaDoor
