import Derived.Test.YtbhmnkpbaeemeaaDoorW7
import Derived.Test.YtbhmnkpbaeemeaaDoorCrc
set_option linter.unusedVariables false
set_option linter.unusedSimpArgs false
namespace Go.Proofs.YtbhmnkpbaeemeaaDoor
open Go.RowKit

/-- The table of the sixteen half bytes, where the program has it. -/
def Tab (w : World) : Prop := ∀ j, j < 16 → w.cell? ⟨0, j, none⟩ = some (.int .u32 (Crc.tabN j : Int))
theorem Tab.below {w w' : World} (h : Tab w) {B : Nat} (hb : Below B w w') (h0 : 0 < B) : Tab w' := fun j hj => (hb.cell h0).trans (h j hj)
theorem Tab.lt {w : World} (h : Tab w) : 0 < w.heap.size := World.block_lt_of_cell? w _ (h 0 (by omega))

theorem half (C X : Nat) (hC : C < 4294967296) (hX : X < 4294967296) : ∃ M N T C1 : Nat, bits .xor .u32 (C : Int) (X : Int) = (M : Int) ∧ bits .and .u32 (M : Int) 15 = (N : Int) ∧ N < 16 ∧ T = Crc.tabN N ∧ bits .xor .u32 (T : Int) ((C : Int) / 16) = (C1 : Int) ∧ C1 < 4294967296 ∧ C1 = Crc.nib C X := by
  have hM : C ^^^ X < 4294967296 := Nat.xor_lt_two_pow (n := 32) hC hX
  refine ⟨C ^^^ X, (C ^^^ X) % 16, _, Crc.nib C X, u32_xor_nat C X hC hX, ?_, by omega, rfl, ?_, Crc.nib_lt C X hC, rfl⟩
  · rw [u32_and _ _ (by omega) (by omega) (by omega) (by omega), Int.toNat_natCast, show (15 : Int).toNat = 15 from rfl, nat_mask4]
  · rw [u32_xor _ _ (by omega) (by have := Crc.tabN_lt ((C ^^^ X) % 16); omega) (by omega) (by omega), Int.toNat_natCast, show ((C : Int) / 16).toNat = C / 16 by omega]
    rfl

theorem Sum_any (w : World) (A : Option Addr) (n c : Nat) (xs : List UInt8) (hx : Rd w A n c xs) (hT : Tab w) :
    Calls Tryd.prog 14 #[.slice A n c] w fun e w' => e = .returned (.int .u32 (Crc.sum xs : Int)) ∧ w = w' := by
  have hl := hx.len
  have hle := hx.le
  have hmx := hx.max
  have ha := hx.at_
  subst hl
  have Ha := Lib.hid ha; clear ha hx
  have HT := Lib.hid hT; clear hT
  go_enter Tryd.func14, Tryd.ntmps14
  go_wp2
  go_loop [3, 8] (fun s i => ∃ (k C : Nat), k ≤ xs.length ∧ i = .int .i64 k ∧ s = .int .u32 (C : Int) ∧ C < 4294967296 ∧ Hid (C = Crc.raw 4294967295 (xs.take k))) (fun _ i => xs.length - (intOf i).toNat)
  case atStart => exact ⟨0, 4294967295, Nat.zero_le _, rfl, rfl, by omega, rfl⟩
  case round =>
    obtain ⟨k, C, hk, rfl, rfl, hC, HC⟩ := hrel
    by_cases hlt : k < xs.length
    · obtain ⟨b, o, rfl, hc⟩ := Ha.out k hlt
      have hX : (xs[k]'hlt).toNat < 256 := (xs[k]'hlt).toNat_lt
      generalize hxk : (xs[k]'hlt).toNat = X at hc hX
      have HX := Lib.hid hxk; clear hxk
      obtain ⟨M1, N1, T1, C1, e1, e2, hN1, hT1, e3, hC1, hD1⟩ := half C X hC (by omega)
      obtain ⟨M2, N2, T2, C2, e4, e5, hN2, hT2, e6, hC2, hD2⟩ := half C1 (X / 16) hC1 (by omega)
      rw [show ((X / 16 : Nat) : Int) = (X : Int) / 16 from rfl] at e4
      have t1 : w.cell? ⟨0, N1, none⟩ = some (.int .u32 (T1 : Int)) := by rw [hT1]; exact HT.out N1 hN1
      have t2 : w.cell? ⟨0, N2, none⟩ = some (.int .u32 (T2 : Int)) := by rw [hT2]; exact HT.out N2 hN2
      have HD : Hid (C2 = Crc.sumStep C (xs[k]'hlt)) := by
        show _ = _
        unfold Crc.sumStep
        rw [hD2, hD1, HX.out]
      clear hT1 hT2 hD1 hD2
      go_wp2
      go_round
      case rel =>
        refine ⟨k + 1, C2, by omega, by go_num, rfl, hC2, ?_⟩
        show _ = _
        rw [List.take_succ_eq_append_getElem hlt, Crc.raw_snoc, ← HC.out, HD.out]
      case measure => simp [intOf]; omega
    · go_wp2
      go_ret
      refine ⟨?_, rfl⟩
      show Ending.returned (.int .u32 (bits .xor .u32 IntKind.u32.max (C : Int))) = _
      rw [show IntKind.u32.max = ((4294967295 : Nat) : Int) from by decide, u32_xor_nat _ _ (by omega) hC, HC.out, List.take_of_length_le (by omega)]
      rfl

theorem bitAnd1 (Y : Nat) (h : Y < 4294967296) : bits .and .u32 (Y : Int) 1 = ((Y % 2 : Nat) : Int) := by
  rw [u32_and _ _ (by omega) (by omega) (by omega) (by omega), Int.toNat_natCast, show (1 : Int).toNat = 1 from rfl, nat_mask1]

theorem bitShr (X j : Nat) (hX : X < 256) : bits .and .u32 ((X : Int) / 2 ^ j % 4294967296) 1 = ((X / 2 ^ j % 2 : Nat) : Int) := by
  have e : (X : Int) / 2 ^ j = ((X / 2 ^ j : Nat) : Int) := by
    rw [Int.natCast_ediv, Int.natCast_pow]
    rfl
  have h2 : X / 2 ^ j ≤ X := Nat.div_le_self _ _
  rw [e]
  generalize X / 2 ^ j = q at h2
  rw [Int.emod_eq_of_lt (by omega) (by omega)]
  exact bitAnd1 _ (by omega)

/-- One bit of the document's sum: what the walk reckons, and what it is. -/
theorem refBit (D X j : Nat) (hD : D < 4294967296) (hX : X < 256) : ∃ β δ γ D2 : Nat, bits .and .u32 ((X : Int) / 2 ^ j % 4294967296) 1 = (β : Int) ∧ bits .and .u32 (D : Int) 1 = (δ : Int) ∧ bits .xor .u32 (δ : Int) (β : Int) = (γ : Int) ∧
    bits .xor .u32 ((D : Int) / 2) 2197175160 = (D2 : Int) ∧ D2 < 4294967296 ∧ Crc.bitStep D (X / 2 ^ j % 2) = (if γ = 1 then D2 else D / 2) := by
  refine ⟨X / 2 ^ j % 2, D % 2, D % 2 ^^^ X / 2 ^ j % 2, D / 2 ^^^ 2197175160, bitShr X j hX, bitAnd1 D hD, u32_xor_nat _ _ (by omega) (by omega), ?_, Nat.xor_lt_two_pow (n := 32) (by omega) (by decide), rfl⟩
  rw [u32_xor _ _ (by omega) (by omega) (by omega) (by omega), show ((D : Int) / 2).toNat = D / 2 by omega]
  rfl

theorem refSum_any (w : World) (A : Option Addr) (n c : Nat) (xs : List UInt8) (hx : Rd w A n c xs) :
    Calls Tryd.prog 15 #[.slice A n c] w fun e w' => e = .returned (.int .u32 (Crc.sum xs : Int)) ∧ w = w' := by
  have hl := hx.len
  have hle := hx.le
  have hmx := hx.max
  have ha := hx.at_
  subst hl
  have Ha := Lib.hid ha; clear ha hx
  go_enter Tryd.func15, Tryd.ntmps15
  go_wp2
  go_loop [3, 4] (fun s i => ∃ (k C : Nat), k ≤ xs.length ∧ i = .int .i64 k ∧ s = .int .u32 (C : Int) ∧ C < 4294967296 ∧ Hid (C = Crc.raw 4294967295 (xs.take k))) (fun _ i => xs.length - (intOf i).toNat)
  case atStart => exact ⟨0, 4294967295, Nat.zero_le _, rfl, rfl, by omega, rfl⟩
  case round =>
    obtain ⟨k, C, hk, rfl, rfl, hC, HC⟩ := hrel
    by_cases hlt : k < xs.length
    · obtain ⟨b, o, rfl, hc⟩ := Ha.out k hlt
      have hX : (xs[k]'hlt).toNat < 256 := (xs[k]'hlt).toNat_lt
      generalize hxk : (xs[k]'hlt).toNat = X at hc hX
      have HX := Lib.hid hxk; clear hxk
      go_wp2
      go_loop [3, 5] (fun s i => ∃ (j D : Nat), j ≤ 8 ∧ i = .int .i64 j ∧ s = .int .u32 (D : Int) ∧ D < 4294967296 ∧ Hid (D = Crc.bits C X j)) (fun _ i => 8 - (intOf i).toNat)
      case atStart => exact ⟨0, C, by omega, rfl, rfl, hC, rfl⟩
      case round =>
        obtain ⟨j, D, hj, rfl, rfl, hD, HD⟩ := hrel
        by_cases hjt : j < 8
        · obtain ⟨β, δ, γ, D2, e1, e2, e3, e4, hD2, hst⟩ := refBit D X j hD hX
          have HST : Hid (Crc.bits C X (j + 1) = if γ = 1 then D2 else D / 2) := by
            show _ = _
            rw [← hst, HD.out]
            rfl
          clear hst
          by_cases hg : γ = 1
          · have hgb : ((γ : Int) == 1) = true := by subst hg; rfl
            have HG := Lib.hid hg; clear hg
            go_wp2
            go_round
            case rel => exact ⟨j + 1, D2, by omega, by go_num, rfl, hD2, (by show _ = _; rw [HST.out, if_pos HG.out])⟩
            case measure => simp [intOf]; omega
          · have hgb : ((γ : Int) == 1) = false := by simp; omega
            have HG := Lib.hid hg; clear hg
            go_wp2
            go_round
            case rel => exact ⟨j + 1, D / 2, by omega, by go_num, by go_num, by omega, (by show _ = _; rw [HST.out, if_neg HG.out])⟩
            case measure => simp [intOf]; omega
        · go_wp2
          go_round
          case rel =>
            refine ⟨k + 1, D, by omega, by go_num, rfl, hD, ?_⟩
            show _ = _
            rw [List.take_succ_eq_append_getElem hlt, Crc.raw_snoc, ← HC.out, HD.out, show j = 8 by omega, ← HX.out, Crc.bits8]
          case measure => simp [intOf]; omega
    · go_wp2
      go_ret
      refine ⟨?_, rfl⟩
      show Ending.returned (.int .u32 (bits .xor .u32 (C : Int) 4294967295)) = _
      rw [show (4294967295 : Int) = ((4294967295 : Nat) : Int) from rfl, u32_xor_nat _ _ hC (by omega), HC.out, List.take_of_length_le (by omega), Nat.xor_comm]
      rfl
end Go.Proofs.YtbhmnkpbaeemeaaDoor
