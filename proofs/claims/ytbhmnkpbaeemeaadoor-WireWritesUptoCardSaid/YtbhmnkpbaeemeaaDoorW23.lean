import Derived.Test.YtbhmnkpbaeemeaaDoorW20
import Derived.Test.YtbhmnkpbaeemeaaDoorShelf
import Derived.Lib.OthersKept
import Derived.Lib.ValidLaws
import Derived.Lib.LaidU8T
set_option linter.unusedVariables false
set_option linter.unusedSimpArgs false
namespace Go.Proofs.YtbhmnkpbaeemeaaDoor
open Go.RowKit

theorem dec_drop (s : ByteArray) (pos : Nat) (h : pos < s.size) : Lib.decodeGo (s.extract pos s.size) = Utf8.decode s pos := by
  have hs : (s.extract pos s.size).size = s.size - pos := by simp [ByteArray.size_extract]
  unfold Lib.decodeGo
  rw [if_neg (by omega), ← Lib.decodeL_drop, ← Lib.decodeL_drop s pos]
  congr 1
  simp only [List.drop_zero]
  simp
  exact List.take_of_length_le (by simp)
def U8T (w : World) : Prop := Lib.Utf8Tabs 2 3 w ∧ 2 < w.heap.size ∧ 3 < w.heap.size
theorem U8T.below {w w' : World} (h : U8T w) (hb : Below w.heap.size w w') : U8T w' :=
  ⟨⟨fun c hc => (hb.cell h.2.1).trans (h.1.1 c hc), fun i hi => ⟨(hb.cell h.2.2).trans (h.1.2 i hi).1, (hb.cell h.2.2).trans (h.1.2 i hi).2⟩⟩, Nat.lt_of_lt_of_le h.2.1 hb.size, Nat.lt_of_lt_of_le h.2.2 hb.size⟩
theorem width_pos (s : ByteArray) (pos : Nat) : 1 ≤ (Utf8.decode s pos).2 := by
  rw [← Lib.decodeL_drop]
  exact Lib.decodeL_width _

theorem width_le (s : ByteArray) (pos : Nat) (h : pos < s.size) : pos + (Utf8.decode s pos).2 ≤ s.size := by
  have hl : (s.data.toList.drop pos).length = s.size - pos := by simp
  have := Lib.decodeL_le (s.data.toList.drop pos) (by intro e; rw [e] at hl; simp at hl; omega)
  rw [Lib.decodeL_drop] at this
  omega
theorem valid_step (s : ByteArray) (pos : Nat) (h : pos < s.size) : Lib.validD (s.data.toList.drop pos) = if (Utf8.decode s pos).1 = 65533 ∧ (Utf8.decode s pos).2 = 1 then false else Lib.validD (s.data.toList.drop (pos + (Utf8.decode s pos).2)) := by
  have hl : (s.data.toList.drop pos).length = s.size - pos := by simp
  rw [Lib.validD_step _ (by intro e; rw [e] at hl; simp at hl; omega), Lib.decodeL_drop, List.drop_drop]

set_option maxHeartbeats 1000000 in
theorem runes_any (s : ByteArray) (w : World) (hs : s.size ≤ 1000000000000) (hT : U8T w) :
    Calls Tryd.prog 138 #[.string s] w fun e w' => e = .returned (.bool (Lib.validD s.data.toList)) ∧ Below w.heap.size w w' := by
  have HT := Lib.hid hT
  clear hT
  go_enter Tryd.func138, Tryd.ntmps138
  go_wp2
  go_loopw [] (fun wr => ∃ pos : Nat, wr.heap[w.heap.size]? = some (.stringIter s pos) ∧ pos ≤ s.size ∧ Hid (Lib.validD (s.data.toList.drop pos) = Lib.validD s.data.toList) ∧ Hid (Below w.heap.size w wr)) (fun wr => s.size - wr.iterPos w.heap.size)
  case atStart => exact ⟨0, World.iter_heap w s 0, Nat.zero_le _, rfl, (Below.refl _ w).alloc (Nat.le_refl _) _⟩
  case round =>
    obtain ⟨pos, hit, hpl, HV, HB⟩ := hrel
    by_cases hp : pos < s.size
    · have hnx : ∀ ty, (Instr.next (.pointer (some ⟨w.heap.size, 0, none⟩)) true ty).run Tryd.prog wr = _ := fun ty => Lib.run_next_any_at wr w.heap.size s pos ty hit hp
      have hwd := width_pos s pos
      have hwl := width_le s pos hp
      have HS := Lib.hid (valid_step s pos hp)
      have HD := Lib.hid (dec_drop s pos hp)
      have HI := Lib.hid (Lib.iterAt_heap wr w.heap.size s pos (pos + (Utf8.decode s pos).2) hit)
      have HB2 := Lib.hid (Lib.below_iterAt HB.out (k := w.heap.size) (Nat.le_refl _) s (pos + (Utf8.decode s pos).2))
      have HM : Hid (s.size - pos = s.size - wr.iterPos w.heap.size) := by show _ = _; simp only [World.iterPos, hit]
      obtain ⟨r, hr0⟩ : ∃ r, r = (Utf8.decode s pos).1 := ⟨_, rfl⟩
      obtain ⟨k, hk0⟩ : ∃ k, k = (Utf8.decode s pos).2 := ⟨_, rfl⟩
      rw [show Utf8.decode s pos = (r, k) by rw [hr0, hk0]] at HS HD HI HB2 hnx hwd hwl
      simp only at HS HI HB2 hnx hwd hwl
      clear hr0 hk0
      by_cases hr : r = 65533
      · subst hr
        by_cases hk2 : k = 1
        · subst hk2
          go_wp2_with fail
          refine (utf8_DecodeRuneInString _ _ (HT.out.below HB2.out).1).mono ?_
          rintro e w5 ⟨rfl, hb⟩
          rw [HD.out]
          go_wp2
          go_ret
          refine ⟨?_, below_then HB2.out hb⟩
          refine ret_bool' ?_
          rw [← HV.out, HS.out, if_pos (by simp)]
        · have hk3 : decide ((k : Int) < 2) = false := by simp; omega
          go_wp2_with fail
          refine (utf8_DecodeRuneInString _ _ (HT.out.below HB2.out).1).mono ?_
          rintro e w5 ⟨rfl, hb⟩
          rw [HD.out]
          go_wp2
          have hit5 : w5.heap[w.heap.size]? = some (.stringIter s (pos + k)) := by
            rw [hb.block _ (Array.getElem?_eq_some_iff.1 HI.out).1]
            exact HI.out
          refine ⟨⟨pos + k, hit5, hwl, ?_, below_then HB2.out hb⟩, ?_⟩
          · show _ = _
            rw [← HV.out, HS.out, if_neg (fun h => hk2 h.2)]
          · rw [← HM.out]
            simp only [World.iterPos, hit5]
            omega
      · go_wp2
        refine ⟨⟨pos + k, HI.out, hwl, ?_, HB2.out⟩, ?_⟩
        · show _ = _
          rw [← HV.out, HS.out, if_neg (fun h => hr h.1)]
        · rw [← HM.out]
          simp only [World.iterPos, HI.out]
          omega
    · have hnx : ∀ ty, (Instr.next (.pointer (some ⟨w.heap.size, 0, none⟩)) true ty).run Tryd.prog wr = _ := fun ty => Lib.run_next_end_at wr w.heap.size s pos ty hit hp
      go_wp2
      go_ret
      refine ⟨?_, HB.out⟩
      have hv := HV.out
      rw [List.drop_of_length_le (by simp; omega)] at hv
      exact (ret_bool' (by rw [← hv]; rfl))
end Go.Proofs.YtbhmnkpbaeemeaaDoor
