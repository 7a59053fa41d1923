import Derived.Test.YtbhmnkpbaeemeaaDoorW23
set_option linter.unusedVariables false
set_option linter.unusedSimpArgs false
namespace Go.Proofs.YtbhmnkpbaeemeaaDoor
open Go.RowKit

/-- The document's step at a lead byte from 128 on. -/
def refN (n b0 b1 b2 b3 : Nat) : Option Nat :=
  if b0 < 192 then none
  else if b0 < 224 then (if n ≤ 1 ∨ b1 < 128 ∨ 192 ≤ b1 then none else
    if ((b0 - 192) * 64 + b1 - 128) < 128 then none else some 2)
  else if b0 < 240 then (if n ≤ 2 ∨ b1 < 128 ∨ 192 ≤ b1 ∨ b2 < 128 ∨ 192 ≤ b2 then none else
    if (((b0 - 224) * 64 + b1 - 128) * 64 + b2 - 128) < 2048 ∨ (55296 ≤ (((b0 - 224) * 64 + b1 - 128) * 64 + b2 - 128) ∧ (((b0 - 224) * 64 + b1 - 128) * 64 + b2 - 128) < 57344) then none else some 3)
  else if b0 < 248 then (if n ≤ 3 ∨ b1 < 128 ∨ 192 ≤ b1 ∨ b2 < 128 ∨ 192 ≤ b2 ∨ b3 < 128 ∨ 192 ≤ b3 then none else
    if ((((b0 - 240) * 64 + b1 - 128) * 64 + b2 - 128) * 64 + b3 - 128) < 65536 ∨ 1114111 < ((((b0 - 240) * 64 + b1 - 128) * 64 + b2 - 128) * 64 + b3 - 128) then none else some 4)
  else none

theorem fT_high (b0 : Nat) (h : 245 ≤ b0) (h' : b0 < 256) : Lib.firstT b0 = 241 := by
  unfold Lib.firstT
  repeat' split
  all_goals first | rfl | omega
set_option maxHeartbeats 2000000 in
theorem refN_eq (n b0 b1 b2 b3 : Nat) (h0 : 128 ≤ b0) (h0' : b0 < 256) (h1 : b1 < 256) (h2 : b2 < 256) (h3 : b3 < 256) :
    refN n b0 b1 b2 b3 = Lib.checkN n b1 b2 b3 (Lib.firstT b0 % 8) (Lib.accLo (Lib.firstT b0 / 16)) (Lib.accHi (Lib.firstT b0 / 16)) := by
  have key : ∀ sz lo hi, Lib.firstT b0 % 8 = sz → Lib.accLo (Lib.firstT b0 / 16) = lo → Lib.accHi (Lib.firstT b0 / 16) = hi → refN n b0 b1 b2 b3 = Lib.checkN n b1 b2 b3 sz lo hi → refN n b0 b1 b2 b3 = Lib.checkN n b1 b2 b3 (Lib.firstT b0 % 8) (Lib.accLo (Lib.firstT b0 / 16)) (Lib.accHi (Lib.firstT b0 / 16)) := fun sz lo hi e1 e2 e3 h => by rw [e1, e2, e3]; exact h
  by_cases c0 : b0 < 194
  · refine key 1 _ _ (by simp [Lib.firstT, show ¬ b0 < 128 by omega, c0]) rfl rfl ?_
    unfold refN Lib.checkN
    repeat' split
    all_goals first | rfl | omega
  by_cases c1 : b0 < 224
  · refine key 2 128 191 (by simp [Lib.firstT, show ¬ b0 < 128 by omega, c0, c1]) (by simp [Lib.firstT, Lib.accLo, show ¬ b0 < 128 by omega, c0, c1]) (by simp [Lib.firstT, Lib.accHi, show ¬ b0 < 128 by omega, c0, c1]) ?_
    unfold refN Lib.checkN
    repeat' split
    all_goals first | rfl | omega
  by_cases c2 : b0 = 224
  · refine key 3 160 191 (by subst c2; decide) (by subst c2; decide) (by subst c2; decide) ?_
    unfold refN Lib.checkN
    repeat' split
    all_goals first | rfl | omega
  by_cases c3 : b0 < 237
  · refine key 3 128 191 (by simp [Lib.firstT, show ¬ b0 < 128 by omega, c0, c1, c2, c3]) (by simp [Lib.firstT, Lib.accLo, show ¬ b0 < 128 by omega, c0, c1, c2, c3]) (by simp [Lib.firstT, Lib.accHi, show ¬ b0 < 128 by omega, c0, c1, c2, c3]) ?_
    unfold refN Lib.checkN
    repeat' split
    all_goals first | rfl | omega
  by_cases c4 : b0 = 237
  · refine key 3 128 159 (by subst c4; decide) (by subst c4; decide) (by subst c4; decide) ?_
    unfold refN Lib.checkN
    repeat' split
    all_goals first | rfl | omega
  by_cases c5 : b0 < 240
  · refine key 3 128 191 (by simp [Lib.firstT, show ¬ b0 < 128 by omega, c0, c1, c2, c3, c4, c5]) (by simp [Lib.firstT, Lib.accLo, show ¬ b0 < 128 by omega, c0, c1, c2, c3, c4, c5]) (by simp [Lib.firstT, Lib.accHi, show ¬ b0 < 128 by omega, c0, c1, c2, c3, c4, c5]) ?_
    unfold refN Lib.checkN
    repeat' split
    all_goals first | rfl | omega
  by_cases c6 : b0 = 240
  · refine key 4 144 191 (by subst c6; decide) (by subst c6; decide) (by subst c6; decide) ?_
    unfold refN Lib.checkN
    repeat' split
    all_goals first | rfl | omega
  by_cases c7 : b0 < 244
  · refine key 4 128 191 (by simp [Lib.firstT, show ¬ b0 < 128 by omega, c0, c1, c2, c3, c4, c5, c6, c7]) (by simp [Lib.firstT, Lib.accLo, show ¬ b0 < 128 by omega, c0, c1, c2, c3, c4, c5, c6, c7]) (by simp [Lib.firstT, Lib.accHi, show ¬ b0 < 128 by omega, c0, c1, c2, c3, c4, c5, c6, c7]) ?_
    unfold refN Lib.checkN
    repeat' split
    all_goals first | rfl | omega
  by_cases c8 : b0 = 244
  · refine key 4 128 143 (by subst c8; decide) (by subst c8; decide) (by subst c8; decide) ?_
    unfold refN Lib.checkN
    repeat' split
    all_goals first | rfl | omega
  · refine key 1 _ _ (by rw [fT_high b0 (by omega) h0']) rfl rfl ?_
    unfold refN Lib.checkN
    repeat' split
    all_goals first | rfl | omega
end Go.Proofs.YtbhmnkpbaeemeaaDoor
