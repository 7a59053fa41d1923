import Derived.Test.YtbhmnkpbaeemeaaDoorW20
import Derived.Test.YtbhmnkpbaeemeaaDoorW15
set_option linter.unusedVariables false
set_option linter.unusedSimpArgs false
namespace Go.Proofs.YtbhmnkpbaeemeaaDoor

theorem beV_bigR4 (v : Nat) (h : v < 4294967296) : beV (bigR v 4) = v := by
  simp only [bigR, beV, List.foldl_cons, List.foldl_nil]
  rw [lastB_toNat _ (by omega), lastB_toNat _ (by omega), lastB_toNat _ (by omega), lastB_toNat _ (by omega)]
  simp only [Nat.reducePow]
  omega
theorem frame_take8 (K : UInt8) (b : List UInt8) : (frameL K b) = [81, 77, 1, K] ++ (bigR b.length 4 ++ (b ++ lowR (Crc.sum (preL K b)) 4)) := by
  simp [frameL, preL]
theorem frame_len (K : UInt8) (b : List UInt8) : (frameL K b).length = b.length + 12 := by
  rw [frameL, List.length_append, preL_length, show (lowR (Crc.sum (preL K b)) 4).length = 4 by simp [lowR]]
  omega
theorem frame_sz (K : UInt8) (b : List UInt8) (h : b.length < 4294967296) : sz (frameL K b) = b.length := by
  unfold sz
  rw [frame_take8, List.drop_left' (by rfl), List.take_left' (bigR_length _ _), beV_bigR4 _ h]
theorem frame_ok (K : UInt8) (b : List UInt8) (h : b.length ≤ 65495) : UnfOk (frameL K b) := by
  refine ⟨by rw [frame_len]; omega, by rw [frame_len]; omega, ?_, ?_, by rw [frame_sz K b (by omega), frame_len]; omega, ?_⟩
  · unfold hd2
    rw [frame_take8]
    rfl
  · unfold ver
    rw [frame_take8]
    rfl
  · unfold sumOk
    rw [frame_sz K b (by omega)]
    unfold frameL
    rw [← preL_length K b, List.drop_left' rfl, List.take_left' rfl, List.take_of_length_le (by simp [lowR])]
theorem frame_kd (K : UInt8) (b : List UInt8) : kd (frameL K b) = K.toNat := by
  unfold kd
  rw [frame_take8]
  simp [beV]
theorem frame_body (K : UInt8) (b : List UInt8) : bodyOf (frameL K b) = b := by
  unfold bodyOf
  rw [frame_len, Nat.add_sub_cancel, frame_take8, ← List.append_assoc, List.drop_left' (by simp [bigR_length]), List.take_left' rfl]
end Go.Proofs.YtbhmnkpbaeemeaaDoor
