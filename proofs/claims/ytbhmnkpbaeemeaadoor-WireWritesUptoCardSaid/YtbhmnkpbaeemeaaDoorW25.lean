import Derived.Test.YtbhmnkpbaeemeaaDoorW24
set_option linter.unusedVariables false
set_option linter.unusedSimpArgs false
namespace Go.Proofs.YtbhmnkpbaeemeaaDoor
open Go.RowKit

def sb (s : ByteArray) (i : Nat) : Nat := (s.data.toList.getD i 0).toNat
theorem sb_lt (s : ByteArray) (i : Nat) : sb s i < 256 := UInt8.toNat_lt _
theorem sb_get (s : ByteArray) (i : Nat) (h : i < s.size) : (s[i]'h).toNat = sb s i := by
  unfold sb
  rw [List.getD_eq_getElem?_getD, List.getElem?_eq_getElem (by simpa using h)]
  rfl
theorem drop_getD (s : ByteArray) (pos i : Nat) : ((s.data.toList.drop pos).getD i 0).toNat = sb s (pos + i) := by
  unfold sb
  rw [List.getD_eq_getElem?_getD, List.getD_eq_getElem?_getD, List.getElem?_drop]
theorem valid_low (s : ByteArray) (pos : Nat) (h : pos < s.size) (h0 : sb s pos < 128) : Lib.validD (s.data.toList.drop pos) = Lib.validD (s.data.toList.drop (pos + 1)) := by
  have hl : pos < s.data.toList.length := by simpa using h
  rw [List.drop_eq_getElem_cons hl, Lib.validD_cons]
  have := sb_get s pos h
  rw [← this] at h0
  exact h0
theorem valid_high (s : ByteArray) (pos : Nat) (h : pos < s.size) (h0 : 128 ≤ sb s pos) : Lib.validD (s.data.toList.drop pos) =
    match refN (s.size - pos) (sb s pos) (sb s (pos + 1)) (sb s (pos + 2)) (sb s (pos + 3)) with
    | none => false
    | some k => Lib.validD (s.data.toList.drop (pos + k)) := by
  have hl : (s.data.toList.drop pos).length = s.size - pos := by simp
  rw [Lib.validD_lead _ (by intro e; rw [e] at hl; simp at hl; omega) (by rw [drop_getD]; exact h0)]
  rw [drop_getD, drop_getD, drop_getD, drop_getD, hl, Nat.add_zero, refN_eq _ _ _ _ _ h0 (sb_lt _ _) (sb_lt _ _) (sb_lt _ _) (sb_lt _ _)]
  cases Lib.checkN (s.size - pos) (sb s (pos + 1)) (sb s (pos + 2)) (sb s (pos + 3)) (Lib.firstT (sb s pos) % 8) (Lib.accLo (Lib.firstT (sb s pos) / 16)) (Lib.accHi (Lib.firstT (sb s pos) / 16)) with
  | none => rfl
  | some k => simp only [List.drop_drop]

set_option maxRecDepth 100000 in
set_option maxHeartbeats 20000000 in
theorem UTF8_any (s : ByteArray) (w : World) (hs : s.size ≤ 1000000000000) :
    Calls Tryd.prog 139 #[.string s] w fun e w' => e = .returned (.bool (Lib.validD s.data.toList)) ∧ w = w' := by
  go_enter Tryd.func139, Tryd.ntmps139
  go_wp2
  go_loopw [3] (fun i wr => ∃ pos : Nat, i = .int .i64 pos ∧ pos ≤ s.size ∧ Hid (Lib.validD (s.data.toList.drop pos) = Lib.validD s.data.toList) ∧ w = wr) (fun i _ => s.size - (intOf i).toNat)
  case atStart => exact ⟨0, rfl, Nat.zero_le _, rfl, rfl⟩
  case round =>
    obtain ⟨pos, rfl, hpl, HV, rfl⟩ := hrel
    by_cases hp : pos < s.size
    · have b0 := sb_get s pos hp
      have l0 := sb_lt s pos
      by_cases h128 : sb s pos < 128
      · have HS := Lib.hid (valid_low s pos hp h128)
        generalize sb s pos = x at *
        go_wp2
        refine ⟨⟨pos + 1, by go_num, by omega, ?_, trivial⟩, by simp [intOf]; omega⟩
        show _ = _
        rw [← HV.out, HS.out]
      · have HS := Lib.hid (valid_high s pos hp (by omega))
        by_cases g1 : sb s pos < 192
        · have g := g1
          generalize sb s pos = x at *
          go_wp2
          go_ret
          refine ⟨ret_bool' ?_, rfl⟩
          have hr : refN (s.size - pos) x (sb s (pos + 1)) (sb s (pos + 2)) (sb s (pos + 3)) = none := by
            unfold refN
            repeat' split
            all_goals first | rfl | omega
          have hs' := HS.out
          rw [hr] at hs'
          rw [← HV.out, hs']
        by_cases g2 : sb s pos < 224
        · have g := g2
          by_cases n1 : s.size ≤ pos + 1
          · generalize sb s pos = x at *
            go_wp2
            go_ret
            refine ⟨ret_bool' ?_, rfl⟩
            have hr : refN (s.size - pos) x (sb s (pos + 1)) (sb s (pos + 2)) (sb s (pos + 3)) = none := by
              unfold refN
              repeat' split
              all_goals first | rfl | omega
            have hs' := HS.out
            rw [hr] at hs'
            rw [← HV.out, hs']
          replace n1 := Nat.lt_of_not_le n1
          have b1 := sb_get s (pos + 1) (by omega)
          have l1 := sb_lt s (pos + 1)
          generalize sb s pos = x at *
          generalize sb s (pos + 1) = x1 at *
          by_cases k1 : x1 < 128
          · have k := k1
            go_wp2
            go_rounds 2
            go_ret
            refine ⟨ret_bool' ?_, rfl⟩
            have hr : refN (s.size - pos) x x1 (sb s (pos + 2)) (sb s (pos + 3)) = none := by
              unfold refN
              repeat' split
              all_goals first | rfl | omega
            have hs' := HS.out
            rw [hr] at hs'
            rw [← HV.out, hs']
          by_cases j1 : 192 ≤ x1
          · have k := j1
            go_wp2
            go_rounds 2
            go_ret
            refine ⟨ret_bool' ?_, rfl⟩
            have hr : refN (s.size - pos) x x1 (sb s (pos + 2)) (sb s (pos + 3)) = none := by
              unfold refN
              repeat' split
              all_goals first | rfl | omega
            have hs' := HS.out
            rw [hr] at hs'
            rw [← HV.out, hs']
          by_cases v1 : ((x - 192) * 64 + x1 - 128) < 128
          · have k := v1
            go_wp2
            go_rounds 2
            go_ret
            refine ⟨ret_bool' ?_, rfl⟩
            have hr : refN (s.size - pos) x x1 (sb s (pos + 2)) (sb s (pos + 3)) = none := by
              unfold refN
              repeat' split
              all_goals first | rfl | omega
            have hs' := HS.out
            rw [hr] at hs'
            rw [← HV.out, hs']
          go_wp2
          go_rounds 2
          refine ⟨⟨pos + 2, by go_num, by omega, ?_, trivial⟩, by simp [intOf]; omega⟩
          have hr : refN (s.size - pos) x x1 (sb s (pos + 2)) (sb s (pos + 3)) = some 2 := by
            unfold refN
            repeat' split
            all_goals first | rfl | omega
          have hs' := HS.out
          rw [hr] at hs'
          show _ = _
          rw [← HV.out, hs']

        by_cases g3 : sb s pos < 240
        · have g := g3
          by_cases n1 : s.size ≤ pos + 2
          · generalize sb s pos = x at *
            go_wp2
            go_ret
            refine ⟨ret_bool' ?_, rfl⟩
            have hr : refN (s.size - pos) x (sb s (pos + 1)) (sb s (pos + 2)) (sb s (pos + 3)) = none := by
              unfold refN
              repeat' split
              all_goals first | rfl | omega
            have hs' := HS.out
            rw [hr] at hs'
            rw [← HV.out, hs']
          replace n1 := Nat.lt_of_not_le n1
          have b1 := sb_get s (pos + 1) (by omega)
          have l1 := sb_lt s (pos + 1)
          have b2 := sb_get s (pos + 2) (by omega)
          have l2 := sb_lt s (pos + 2)
          generalize sb s pos = x at *
          generalize sb s (pos + 1) = x1 at *
          generalize sb s (pos + 2) = x2 at *
          by_cases k1 : x1 < 128
          · have k := k1
            go_wp2
            go_rounds 3
            go_ret
            refine ⟨ret_bool' ?_, rfl⟩
            have hr : refN (s.size - pos) x x1 x2 (sb s (pos + 3)) = none := by
              unfold refN
              repeat' split
              all_goals first | rfl | omega
            have hs' := HS.out
            rw [hr] at hs'
            rw [← HV.out, hs']
          by_cases j1 : 192 ≤ x1
          · have k := j1
            go_wp2
            go_rounds 3
            go_ret
            refine ⟨ret_bool' ?_, rfl⟩
            have hr : refN (s.size - pos) x x1 x2 (sb s (pos + 3)) = none := by
              unfold refN
              repeat' split
              all_goals first | rfl | omega
            have hs' := HS.out
            rw [hr] at hs'
            rw [← HV.out, hs']
          by_cases k2 : x2 < 128
          · have k := k2
            go_wp2
            go_rounds 3
            go_ret
            refine ⟨ret_bool' ?_, rfl⟩
            have hr : refN (s.size - pos) x x1 x2 (sb s (pos + 3)) = none := by
              unfold refN
              repeat' split
              all_goals first | rfl | omega
            have hs' := HS.out
            rw [hr] at hs'
            rw [← HV.out, hs']
          by_cases j2 : 192 ≤ x2
          · have k := j2
            go_wp2
            go_rounds 3
            go_ret
            refine ⟨ret_bool' ?_, rfl⟩
            have hr : refN (s.size - pos) x x1 x2 (sb s (pos + 3)) = none := by
              unfold refN
              repeat' split
              all_goals first | rfl | omega
            have hs' := HS.out
            rw [hr] at hs'
            rw [← HV.out, hs']
          by_cases v1 : (((x - 224) * 64 + x1 - 128) * 64 + x2 - 128) < 2048
          · have k := v1
            go_wp2
            go_rounds 3
            go_ret
            refine ⟨ret_bool' ?_, rfl⟩
            have hr : refN (s.size - pos) x x1 x2 (sb s (pos + 3)) = none := by
              unfold refN
              repeat' split
              all_goals first | rfl | omega
            have hs' := HS.out
            rw [hr] at hs'
            rw [← HV.out, hs']
          by_cases v3 : 55296 ≤ (((x - 224) * 64 + x1 - 128) * 64 + x2 - 128)
          · by_cases v4 : (((x - 224) * 64 + x1 - 128) * 64 + x2 - 128) < 57344
            · have k := v4
              go_wp2
              go_rounds 3
              go_ret
              refine ⟨ret_bool' ?_, rfl⟩
              have hr : refN (s.size - pos) x x1 x2 (sb s (pos + 3)) = none := by
                unfold refN
                repeat' split
                all_goals first | rfl | omega
              have hs' := HS.out
              rw [hr] at hs'
              rw [← HV.out, hs']
            · have k := v4
              go_wp2
              go_rounds 3
              refine ⟨⟨pos + 3, by go_num, by omega, ?_, trivial⟩, by simp [intOf]; omega⟩
              have hr : refN (s.size - pos) x x1 x2 (sb s (pos + 3)) = some 3 := by
                unfold refN
                repeat' split
                all_goals first | rfl | omega
              have hs' := HS.out
              rw [hr] at hs'
              show _ = _
              rw [← HV.out, hs']
          · have k := v3
            go_wp2
            go_rounds 3
            refine ⟨⟨pos + 3, by go_num, by omega, ?_, trivial⟩, by simp [intOf]; omega⟩
            have hr : refN (s.size - pos) x x1 x2 (sb s (pos + 3)) = some 3 := by
              unfold refN
              repeat' split
              all_goals first | rfl | omega
            have hs' := HS.out
            rw [hr] at hs'
            show _ = _
            rw [← HV.out, hs']
        by_cases g4 : sb s pos < 248
        · have g := g4
          by_cases n1 : s.size ≤ pos + 3
          · generalize sb s pos = x at *
            go_wp2
            go_ret
            refine ⟨ret_bool' ?_, rfl⟩
            have hr : refN (s.size - pos) x (sb s (pos + 1)) (sb s (pos + 2)) (sb s (pos + 3)) = none := by
              unfold refN
              repeat' split
              all_goals first | rfl | omega
            have hs' := HS.out
            rw [hr] at hs'
            rw [← HV.out, hs']
          replace n1 := Nat.lt_of_not_le n1
          have b1 := sb_get s (pos + 1) (by omega)
          have l1 := sb_lt s (pos + 1)
          have b2 := sb_get s (pos + 2) (by omega)
          have l2 := sb_lt s (pos + 2)
          have b3 := sb_get s (pos + 3) (by omega)
          have l3 := sb_lt s (pos + 3)
          generalize sb s pos = x at *
          generalize sb s (pos + 1) = x1 at *
          generalize sb s (pos + 2) = x2 at *
          generalize sb s (pos + 3) = x3 at *
          by_cases k1 : x1 < 128
          · have k := k1
            go_wp2
            go_rounds 4
            go_ret
            refine ⟨ret_bool' ?_, rfl⟩
            have hr : refN (s.size - pos) x x1 x2 x3 = none := by
              unfold refN
              repeat' split
              all_goals first | rfl | omega
            have hs' := HS.out
            rw [hr] at hs'
            rw [← HV.out, hs']
          by_cases j1 : 192 ≤ x1
          · have k := j1
            go_wp2
            go_rounds 4
            go_ret
            refine ⟨ret_bool' ?_, rfl⟩
            have hr : refN (s.size - pos) x x1 x2 x3 = none := by
              unfold refN
              repeat' split
              all_goals first | rfl | omega
            have hs' := HS.out
            rw [hr] at hs'
            rw [← HV.out, hs']
          by_cases k2 : x2 < 128
          · have k := k2
            go_wp2
            go_rounds 4
            go_ret
            refine ⟨ret_bool' ?_, rfl⟩
            have hr : refN (s.size - pos) x x1 x2 x3 = none := by
              unfold refN
              repeat' split
              all_goals first | rfl | omega
            have hs' := HS.out
            rw [hr] at hs'
            rw [← HV.out, hs']
          by_cases j2 : 192 ≤ x2
          · have k := j2
            go_wp2
            go_rounds 4
            go_ret
            refine ⟨ret_bool' ?_, rfl⟩
            have hr : refN (s.size - pos) x x1 x2 x3 = none := by
              unfold refN
              repeat' split
              all_goals first | rfl | omega
            have hs' := HS.out
            rw [hr] at hs'
            rw [← HV.out, hs']
          by_cases k3 : x3 < 128
          · have k := k3
            go_wp2
            go_rounds 4
            go_ret
            refine ⟨ret_bool' ?_, rfl⟩
            have hr : refN (s.size - pos) x x1 x2 x3 = none := by
              unfold refN
              repeat' split
              all_goals first | rfl | omega
            have hs' := HS.out
            rw [hr] at hs'
            rw [← HV.out, hs']
          by_cases j3 : 192 ≤ x3
          · have k := j3
            go_wp2
            go_rounds 4
            go_ret
            refine ⟨ret_bool' ?_, rfl⟩
            have hr : refN (s.size - pos) x x1 x2 x3 = none := by
              unfold refN
              repeat' split
              all_goals first | rfl | omega
            have hs' := HS.out
            rw [hr] at hs'
            rw [← HV.out, hs']
          by_cases v1 : ((((x - 240) * 64 + x1 - 128) * 64 + x2 - 128) * 64 + x3 - 128) < 65536
          · have k := v1
            go_wp2
            go_rounds 4
            go_ret
            refine ⟨ret_bool' ?_, rfl⟩
            have hr : refN (s.size - pos) x x1 x2 x3 = none := by
              unfold refN
              repeat' split
              all_goals first | rfl | omega
            have hs' := HS.out
            rw [hr] at hs'
            rw [← HV.out, hs']
          by_cases v2 : 1114111 < ((((x - 240) * 64 + x1 - 128) * 64 + x2 - 128) * 64 + x3 - 128)
          · have k := v2
            go_wp2
            go_rounds 4
            go_ret
            refine ⟨ret_bool' ?_, rfl⟩
            have hr : refN (s.size - pos) x x1 x2 x3 = none := by
              unfold refN
              repeat' split
              all_goals first | rfl | omega
            have hs' := HS.out
            rw [hr] at hs'
            rw [← HV.out, hs']
          go_wp2
          go_rounds 4
          refine ⟨⟨pos + 4, by go_num, by omega, ?_, trivial⟩, by simp [intOf]; omega⟩
          have hr : refN (s.size - pos) x x1 x2 x3 = some 4 := by
            unfold refN
            repeat' split
            all_goals first | rfl | omega
          have hs' := HS.out
          rw [hr] at hs'
          show _ = _
          rw [← HV.out, hs']
        generalize sb s pos = x at *
        go_wp2
        go_ret
        refine ⟨ret_bool' ?_, rfl⟩
        have hr : refN (s.size - pos) x (sb s (pos + 1)) (sb s (pos + 2)) (sb s (pos + 3)) = none := by
          unfold refN
          repeat' split
          all_goals first | rfl | omega
        have hs' := HS.out
        rw [hr] at hs'
        rw [← HV.out, hs']
    · go_wp2
      go_ret
      have hv := HV.out
      rw [List.drop_of_length_le (by simp; omega)] at hv
      exact ⟨ret_bool' (by rw [← hv]; rfl), rfl⟩
end Go.Proofs.YtbhmnkpbaeemeaaDoor
