import Derived.Test.YtbhmnkpbaeemeaaDoorK2
import Derived.Test.YtbhmnkpbaeemeaaDoorShelf
import Derived.Lib.OthersKept
import Derived.Lib.ValidLaws
import Derived.Lib.LaidU8T
set_option linter.unusedVariables false
set_option linter.unusedSimpArgs false
/-! # W23 -/
namespace Go.Proofs.YtbhmnkpbaeemeaaDoor
open Go.RowKit

theorem dec_drop (s : ByteArray) (pos : Nat) (h : pos < s.size) : Lib.decodeGo (s.extract pos s.size) = Utf8.decode s pos := by
  have hs : (s.extract pos s.size).size = s.size - pos := by simp [ByteArray.size_extract]
  unfold Lib.decodeGo
  rw [if_neg (by omega), ← Lib.decodeL_drop, ← Lib.decodeL_drop s pos]
  congr 1
  simp only [List.drop_zero]
  simp
  exact List.take_of_length_le (by simp)
def U8T (w : World) : Prop := Lib.Utf8Tabs 2 3 w ∧ 2 < w.heap.size ∧ 3 < w.heap.size
theorem U8T.below {w w' : World} (h : U8T w) (hb : Below w.heap.size w w') : U8T w' :=
  ⟨⟨fun c hc => (hb.cell h.2.1).trans (h.1.1 c hc), fun i hi => ⟨(hb.cell h.2.2).trans (h.1.2 i hi).1, (hb.cell h.2.2).trans (h.1.2 i hi).2⟩⟩, Nat.lt_of_lt_of_le h.2.1 hb.size, Nat.lt_of_lt_of_le h.2.2 hb.size⟩
theorem width_pos (s : ByteArray) (pos : Nat) : 1 ≤ (Utf8.decode s pos).2 := by
  rw [← Lib.decodeL_drop]
  exact Lib.decodeL_width _

theorem width_le (s : ByteArray) (pos : Nat) (h : pos < s.size) : pos + (Utf8.decode s pos).2 ≤ s.size := by
  have hl : (s.data.toList.drop pos).length = s.size - pos := by simp
  have := Lib.decodeL_le (s.data.toList.drop pos) (by intro e; rw [e] at hl; simp at hl; omega)
  rw [Lib.decodeL_drop] at this
  omega
theorem valid_step (s : ByteArray) (pos : Nat) (h : pos < s.size) : Lib.validD (s.data.toList.drop pos) = if (Utf8.decode s pos).1 = 65533 ∧ (Utf8.decode s pos).2 = 1 then false else Lib.validD (s.data.toList.drop (pos + (Utf8.decode s pos).2)) := by
  have hl : (s.data.toList.drop pos).length = s.size - pos := by simp
  rw [Lib.validD_step _ (by intro e; rw [e] at hl; simp at hl; omega), Lib.decodeL_drop, List.drop_drop]

set_option maxHeartbeats 1000000 in
theorem runes_any (s : ByteArray) (w : World) (hs : s.size ≤ 1000000000000) (hT : U8T w) :
    Calls Tryd.prog 138 #[.string s] w fun e w' => e = .returned (.bool (Lib.validD s.data.toList)) ∧ Below w.heap.size w w' := by
  have HT := Lib.hid hT
  clear hT
  go_enter Tryd.func138, Tryd.ntmps138
  go_wp2
  go_loopw [] (fun wr => ∃ pos : Nat, wr.heap[w.heap.size]? = some (.stringIter s pos) ∧ pos ≤ s.size ∧ Hid (Lib.validD (s.data.toList.drop pos) = Lib.validD s.data.toList) ∧ Hid (Below w.heap.size w wr)) (fun wr => s.size - wr.iterPos w.heap.size)
  case atStart => exact ⟨0, World.iter_heap w s 0, Nat.zero_le _, rfl, (Below.refl _ w).alloc (Nat.le_refl _) _⟩
  case round =>
    obtain ⟨pos, hit, hpl, HV, HB⟩ := hrel
    by_cases hp : pos < s.size
    · have hnx : ∀ ty, (Instr.next (.pointer (some ⟨w.heap.size, 0, none⟩)) true ty).run Tryd.prog wr = _ := fun ty => Lib.run_next_any_at wr w.heap.size s pos ty hit hp
      have hwd := width_pos s pos
      have hwl := width_le s pos hp
      have HS := Lib.hid (valid_step s pos hp)
      have HD := Lib.hid (dec_drop s pos hp)
      have HI := Lib.hid (Lib.iterAt_heap wr w.heap.size s pos (pos + (Utf8.decode s pos).2) hit)
      have HB2 := Lib.hid (Lib.below_iterAt HB.out (k := w.heap.size) (Nat.le_refl _) s (pos + (Utf8.decode s pos).2))
      have HM : Hid (s.size - pos = s.size - wr.iterPos w.heap.size) := by show _ = _; simp only [World.iterPos, hit]
      obtain ⟨r, hr0⟩ : ∃ r, r = (Utf8.decode s pos).1 := ⟨_, rfl⟩
      obtain ⟨k, hk0⟩ : ∃ k, k = (Utf8.decode s pos).2 := ⟨_, rfl⟩
      rw [show Utf8.decode s pos = (r, k) by rw [hr0, hk0]] at HS HD HI HB2 hnx hwd hwl
      simp only at HS HI HB2 hnx hwd hwl
      clear hr0 hk0
      by_cases hr : r = 65533
      · subst hr
        by_cases hk2 : k = 1
        · subst hk2
          go_wp2_with fail
          refine (utf8_DecodeRuneInString _ _ (HT.out.below HB2.out).1).mono ?_
          rintro e w5 ⟨rfl, hb⟩
          rw [HD.out]
          go_wp2
          go_ret
          refine ⟨?_, below_then HB2.out hb⟩
          refine ret_bool' ?_
          rw [← HV.out, HS.out, if_pos (by simp)]
        · have hk3 : decide ((k : Int) < 2) = false := by simp; omega
          go_wp2_with fail
          refine (utf8_DecodeRuneInString _ _ (HT.out.below HB2.out).1).mono ?_
          rintro e w5 ⟨rfl, hb⟩
          rw [HD.out]
          go_wp2
          have hit5 : w5.heap[w.heap.size]? = some (.stringIter s (pos + k)) := by
            rw [hb.block _ (Array.getElem?_eq_some_iff.1 HI.out).1]
            exact HI.out
          refine ⟨⟨pos + k, hit5, hwl, ?_, below_then HB2.out hb⟩, ?_⟩
          · show _ = _
            rw [← HV.out, HS.out, if_neg (fun h => hk2 h.2)]
          · rw [← HM.out]
            simp only [World.iterPos, hit5]
            omega
      · go_wp2
        refine ⟨⟨pos + k, HI.out, hwl, ?_, HB2.out⟩, ?_⟩
        · show _ = _
          rw [← HV.out, HS.out, if_neg (fun h => hr h.1)]
        · rw [← HM.out]
          simp only [World.iterPos, HI.out]
          omega
    · have hnx : ∀ ty, (Instr.next (.pointer (some ⟨w.heap.size, 0, none⟩)) true ty).run Tryd.prog wr = _ := fun ty => Lib.run_next_end_at wr w.heap.size s pos ty hit hp
      go_wp2
      go_ret
      refine ⟨?_, HB.out⟩
      have hv := HV.out
      rw [List.drop_of_length_le (by simp; omega)] at hv
      exact (ret_bool' (by rw [← hv]; rfl))
end Go.Proofs.YtbhmnkpbaeemeaaDoor

/-! # W24 -/
namespace Go.Proofs.YtbhmnkpbaeemeaaDoor
open Go.RowKit

/-- The document's step at a lead byte from 128 on. -/
def refN (n b0 b1 b2 b3 : Nat) : Option Nat :=
  if b0 < 192 then none
  else if b0 < 224 then (if n ≤ 1 ∨ b1 < 128 ∨ 192 ≤ b1 then none else
    if ((b0 - 192) * 64 + b1 - 128) < 128 then none else some 2)
  else if b0 < 240 then (if n ≤ 2 ∨ b1 < 128 ∨ 192 ≤ b1 ∨ b2 < 128 ∨ 192 ≤ b2 then none else
    if (((b0 - 224) * 64 + b1 - 128) * 64 + b2 - 128) < 2048 ∨ (55296 ≤ (((b0 - 224) * 64 + b1 - 128) * 64 + b2 - 128) ∧ (((b0 - 224) * 64 + b1 - 128) * 64 + b2 - 128) < 57344) then none else some 3)
  else if b0 < 248 then (if n ≤ 3 ∨ b1 < 128 ∨ 192 ≤ b1 ∨ b2 < 128 ∨ 192 ≤ b2 ∨ b3 < 128 ∨ 192 ≤ b3 then none else
    if ((((b0 - 240) * 64 + b1 - 128) * 64 + b2 - 128) * 64 + b3 - 128) < 65536 ∨ 1114111 < ((((b0 - 240) * 64 + b1 - 128) * 64 + b2 - 128) * 64 + b3 - 128) then none else some 4)
  else none

theorem fT_high (b0 : Nat) (h : 245 ≤ b0) (h' : b0 < 256) : Lib.firstT b0 = 241 := by
  unfold Lib.firstT
  repeat' split
  all_goals first | rfl | omega
set_option maxHeartbeats 2000000 in
theorem refN_eq (n b0 b1 b2 b3 : Nat) (h0 : 128 ≤ b0) (h0' : b0 < 256) (h1 : b1 < 256) (h2 : b2 < 256) (h3 : b3 < 256) :
    refN n b0 b1 b2 b3 = Lib.checkN n b1 b2 b3 (Lib.firstT b0 % 8) (Lib.accLo (Lib.firstT b0 / 16)) (Lib.accHi (Lib.firstT b0 / 16)) := by
  have key : ∀ sz lo hi, Lib.firstT b0 % 8 = sz → Lib.accLo (Lib.firstT b0 / 16) = lo → Lib.accHi (Lib.firstT b0 / 16) = hi → refN n b0 b1 b2 b3 = Lib.checkN n b1 b2 b3 sz lo hi → refN n b0 b1 b2 b3 = Lib.checkN n b1 b2 b3 (Lib.firstT b0 % 8) (Lib.accLo (Lib.firstT b0 / 16)) (Lib.accHi (Lib.firstT b0 / 16)) := fun sz lo hi e1 e2 e3 h => by rw [e1, e2, e3]; exact h
  by_cases c0 : b0 < 194
  · refine key 1 _ _ (by simp [Lib.firstT, show ¬ b0 < 128 by omega, c0]) rfl rfl ?_
    unfold refN Lib.checkN
    repeat' split
    all_goals first | rfl | omega
  by_cases c1 : b0 < 224
  · refine key 2 128 191 (by simp [Lib.firstT, show ¬ b0 < 128 by omega, c0, c1]) (by simp [Lib.firstT, Lib.accLo, show ¬ b0 < 128 by omega, c0, c1]) (by simp [Lib.firstT, Lib.accHi, show ¬ b0 < 128 by omega, c0, c1]) ?_
    unfold refN Lib.checkN
    repeat' split
    all_goals first | rfl | omega
  by_cases c2 : b0 = 224
  · refine key 3 160 191 (by subst c2; decide) (by subst c2; decide) (by subst c2; decide) ?_
    unfold refN Lib.checkN
    repeat' split
    all_goals first | rfl | omega
  by_cases c3 : b0 < 237
  · refine key 3 128 191 (by simp [Lib.firstT, show ¬ b0 < 128 by omega, c0, c1, c2, c3]) (by simp [Lib.firstT, Lib.accLo, show ¬ b0 < 128 by omega, c0, c1, c2, c3]) (by simp [Lib.firstT, Lib.accHi, show ¬ b0 < 128 by omega, c0, c1, c2, c3]) ?_
    unfold refN Lib.checkN
    repeat' split
    all_goals first | rfl | omega
  by_cases c4 : b0 = 237
  · refine key 3 128 159 (by subst c4; decide) (by subst c4; decide) (by subst c4; decide) ?_
    unfold refN Lib.checkN
    repeat' split
    all_goals first | rfl | omega
  by_cases c5 : b0 < 240
  · refine key 3 128 191 (by simp [Lib.firstT, show ¬ b0 < 128 by omega, c0, c1, c2, c3, c4, c5]) (by simp [Lib.firstT, Lib.accLo, show ¬ b0 < 128 by omega, c0, c1, c2, c3, c4, c5]) (by simp [Lib.firstT, Lib.accHi, show ¬ b0 < 128 by omega, c0, c1, c2, c3, c4, c5]) ?_
    unfold refN Lib.checkN
    repeat' split
    all_goals first | rfl | omega
  by_cases c6 : b0 = 240
  · refine key 4 144 191 (by subst c6; decide) (by subst c6; decide) (by subst c6; decide) ?_
    unfold refN Lib.checkN
    repeat' split
    all_goals first | rfl | omega
  by_cases c7 : b0 < 244
  · refine key 4 128 191 (by simp [Lib.firstT, show ¬ b0 < 128 by omega, c0, c1, c2, c3, c4, c5, c6, c7]) (by simp [Lib.firstT, Lib.accLo, show ¬ b0 < 128 by omega, c0, c1, c2, c3, c4, c5, c6, c7]) (by simp [Lib.firstT, Lib.accHi, show ¬ b0 < 128 by omega, c0, c1, c2, c3, c4, c5, c6, c7]) ?_
    unfold refN Lib.checkN
    repeat' split
    all_goals first | rfl | omega
  by_cases c8 : b0 = 244
  · refine key 4 128 143 (by subst c8; decide) (by subst c8; decide) (by subst c8; decide) ?_
    unfold refN Lib.checkN
    repeat' split
    all_goals first | rfl | omega
  · refine key 1 _ _ (by rw [fT_high b0 (by omega) h0']) rfl rfl ?_
    unfold refN Lib.checkN
    repeat' split
    all_goals first | rfl | omega
end Go.Proofs.YtbhmnkpbaeemeaaDoor

/-! # W25 -/
namespace Go.Proofs.YtbhmnkpbaeemeaaDoor
open Go.RowKit

def sb (s : ByteArray) (i : Nat) : Nat := (s.data.toList.getD i 0).toNat
theorem sb_lt (s : ByteArray) (i : Nat) : sb s i < 256 := UInt8.toNat_lt _
theorem sb_get (s : ByteArray) (i : Nat) (h : i < s.size) : (s[i]'h).toNat = sb s i := by
  unfold sb
  rw [List.getD_eq_getElem?_getD, List.getElem?_eq_getElem (by simpa using h)]
  rfl
theorem drop_getD (s : ByteArray) (pos i : Nat) : ((s.data.toList.drop pos).getD i 0).toNat = sb s (pos + i) := by
  unfold sb
  rw [List.getD_eq_getElem?_getD, List.getD_eq_getElem?_getD, List.getElem?_drop]
theorem valid_low (s : ByteArray) (pos : Nat) (h : pos < s.size) (h0 : sb s pos < 128) : Lib.validD (s.data.toList.drop pos) = Lib.validD (s.data.toList.drop (pos + 1)) := by
  have hl : pos < s.data.toList.length := by simpa using h
  rw [List.drop_eq_getElem_cons hl, Lib.validD_cons]
  have := sb_get s pos h
  rw [← this] at h0
  exact h0
theorem valid_high (s : ByteArray) (pos : Nat) (h : pos < s.size) (h0 : 128 ≤ sb s pos) : Lib.validD (s.data.toList.drop pos) =
    match refN (s.size - pos) (sb s pos) (sb s (pos + 1)) (sb s (pos + 2)) (sb s (pos + 3)) with
    | none => false
    | some k => Lib.validD (s.data.toList.drop (pos + k)) := by
  have hl : (s.data.toList.drop pos).length = s.size - pos := by simp
  rw [Lib.validD_lead _ (by intro e; rw [e] at hl; simp at hl; omega) (by rw [drop_getD]; exact h0)]
  rw [drop_getD, drop_getD, drop_getD, drop_getD, hl, Nat.add_zero, refN_eq _ _ _ _ _ h0 (sb_lt _ _) (sb_lt _ _) (sb_lt _ _) (sb_lt _ _)]
  cases Lib.checkN (s.size - pos) (sb s (pos + 1)) (sb s (pos + 2)) (sb s (pos + 3)) (Lib.firstT (sb s pos) % 8) (Lib.accLo (Lib.firstT (sb s pos) / 16)) (Lib.accHi (Lib.firstT (sb s pos) / 16)) with
  | none => rfl
  | some k => simp only [List.drop_drop]

set_option maxRecDepth 100000 in
set_option maxHeartbeats 20000000 in
theorem UTF8_any (s : ByteArray) (w : World) (hs : s.size ≤ 1000000000000) :
    Calls Tryd.prog 139 #[.string s] w fun e w' => e = .returned (.bool (Lib.validD s.data.toList)) ∧ w = w' := by
  go_enter Tryd.func139, Tryd.ntmps139
  go_wp2
  go_loopw [3] (fun i wr => ∃ pos : Nat, i = .int .i64 pos ∧ pos ≤ s.size ∧ Hid (Lib.validD (s.data.toList.drop pos) = Lib.validD s.data.toList) ∧ w = wr) (fun i _ => s.size - (intOf i).toNat)
  case atStart => exact ⟨0, rfl, Nat.zero_le _, rfl, rfl⟩
  case round =>
    obtain ⟨pos, rfl, hpl, HV, rfl⟩ := hrel
    by_cases hp : pos < s.size
    · have b0 := sb_get s pos hp
      have l0 := sb_lt s pos
      by_cases h128 : sb s pos < 128
      · have HS := Lib.hid (valid_low s pos hp h128)
        generalize sb s pos = x at *
        go_wp2
        refine ⟨⟨pos + 1, by go_num, by omega, ?_, trivial⟩, by simp [intOf]; omega⟩
        show _ = _
        rw [← HV.out, HS.out]
      · have HS := Lib.hid (valid_high s pos hp (by omega))
        by_cases g1 : sb s pos < 192
        · have g := g1
          generalize sb s pos = x at *
          go_wp2
          go_ret
          refine ⟨ret_bool' ?_, rfl⟩
          have hr : refN (s.size - pos) x (sb s (pos + 1)) (sb s (pos + 2)) (sb s (pos + 3)) = none := by
            unfold refN
            repeat' split
            all_goals first | rfl | omega
          have hs' := HS.out
          rw [hr] at hs'
          rw [← HV.out, hs']
        by_cases g2 : sb s pos < 224
        · have g := g2
          by_cases n1 : s.size ≤ pos + 1
          · generalize sb s pos = x at *
            go_wp2
            go_ret
            refine ⟨ret_bool' ?_, rfl⟩
            have hr : refN (s.size - pos) x (sb s (pos + 1)) (sb s (pos + 2)) (sb s (pos + 3)) = none := by
              unfold refN
              repeat' split
              all_goals first | rfl | omega
            have hs' := HS.out
            rw [hr] at hs'
            rw [← HV.out, hs']
          replace n1 := Nat.lt_of_not_le n1
          have b1 := sb_get s (pos + 1) (by omega)
          have l1 := sb_lt s (pos + 1)
          generalize sb s pos = x at *
          generalize sb s (pos + 1) = x1 at *
          by_cases k1 : x1 < 128
          · have k := k1
            go_wp2
            go_rounds 2
            go_ret
            refine ⟨ret_bool' ?_, rfl⟩
            have hr : refN (s.size - pos) x x1 (sb s (pos + 2)) (sb s (pos + 3)) = none := by
              unfold refN
              repeat' split
              all_goals first | rfl | omega
            have hs' := HS.out
            rw [hr] at hs'
            rw [← HV.out, hs']
          by_cases j1 : 192 ≤ x1
          · have k := j1
            go_wp2
            go_rounds 2
            go_ret
            refine ⟨ret_bool' ?_, rfl⟩
            have hr : refN (s.size - pos) x x1 (sb s (pos + 2)) (sb s (pos + 3)) = none := by
              unfold refN
              repeat' split
              all_goals first | rfl | omega
            have hs' := HS.out
            rw [hr] at hs'
            rw [← HV.out, hs']
          by_cases v1 : ((x - 192) * 64 + x1 - 128) < 128
          · have k := v1
            go_wp2
            go_rounds 2
            go_ret
            refine ⟨ret_bool' ?_, rfl⟩
            have hr : refN (s.size - pos) x x1 (sb s (pos + 2)) (sb s (pos + 3)) = none := by
              unfold refN
              repeat' split
              all_goals first | rfl | omega
            have hs' := HS.out
            rw [hr] at hs'
            rw [← HV.out, hs']
          go_wp2
          go_rounds 2
          refine ⟨⟨pos + 2, by go_num, by omega, ?_, trivial⟩, by simp [intOf]; omega⟩
          have hr : refN (s.size - pos) x x1 (sb s (pos + 2)) (sb s (pos + 3)) = some 2 := by
            unfold refN
            repeat' split
            all_goals first | rfl | omega
          have hs' := HS.out
          rw [hr] at hs'
          show _ = _
          rw [← HV.out, hs']

        by_cases g3 : sb s pos < 240
        · have g := g3
          by_cases n1 : s.size ≤ pos + 2
          · generalize sb s pos = x at *
            go_wp2
            go_ret
            refine ⟨ret_bool' ?_, rfl⟩
            have hr : refN (s.size - pos) x (sb s (pos + 1)) (sb s (pos + 2)) (sb s (pos + 3)) = none := by
              unfold refN
              repeat' split
              all_goals first | rfl | omega
            have hs' := HS.out
            rw [hr] at hs'
            rw [← HV.out, hs']
          replace n1 := Nat.lt_of_not_le n1
          have b1 := sb_get s (pos + 1) (by omega)
          have l1 := sb_lt s (pos + 1)
          have b2 := sb_get s (pos + 2) (by omega)
          have l2 := sb_lt s (pos + 2)
          generalize sb s pos = x at *
          generalize sb s (pos + 1) = x1 at *
          generalize sb s (pos + 2) = x2 at *
          by_cases k1 : x1 < 128
          · have k := k1
            go_wp2
            go_rounds 3
            go_ret
            refine ⟨ret_bool' ?_, rfl⟩
            have hr : refN (s.size - pos) x x1 x2 (sb s (pos + 3)) = none := by
              unfold refN
              repeat' split
              all_goals first | rfl | omega
            have hs' := HS.out
            rw [hr] at hs'
            rw [← HV.out, hs']
          by_cases j1 : 192 ≤ x1
          · have k := j1
            go_wp2
            go_rounds 3
            go_ret
            refine ⟨ret_bool' ?_, rfl⟩
            have hr : refN (s.size - pos) x x1 x2 (sb s (pos + 3)) = none := by
              unfold refN
              repeat' split
              all_goals first | rfl | omega
            have hs' := HS.out
            rw [hr] at hs'
            rw [← HV.out, hs']
          by_cases k2 : x2 < 128
          · have k := k2
            go_wp2
            go_rounds 3
            go_ret
            refine ⟨ret_bool' ?_, rfl⟩
            have hr : refN (s.size - pos) x x1 x2 (sb s (pos + 3)) = none := by
              unfold refN
              repeat' split
              all_goals first | rfl | omega
            have hs' := HS.out
            rw [hr] at hs'
            rw [← HV.out, hs']
          by_cases j2 : 192 ≤ x2
          · have k := j2
            go_wp2
            go_rounds 3
            go_ret
            refine ⟨ret_bool' ?_, rfl⟩
            have hr : refN (s.size - pos) x x1 x2 (sb s (pos + 3)) = none := by
              unfold refN
              repeat' split
              all_goals first | rfl | omega
            have hs' := HS.out
            rw [hr] at hs'
            rw [← HV.out, hs']
          by_cases v1 : (((x - 224) * 64 + x1 - 128) * 64 + x2 - 128) < 2048
          · have k := v1
            go_wp2
            go_rounds 3
            go_ret
            refine ⟨ret_bool' ?_, rfl⟩
            have hr : refN (s.size - pos) x x1 x2 (sb s (pos + 3)) = none := by
              unfold refN
              repeat' split
              all_goals first | rfl | omega
            have hs' := HS.out
            rw [hr] at hs'
            rw [← HV.out, hs']
          by_cases v3 : 55296 ≤ (((x - 224) * 64 + x1 - 128) * 64 + x2 - 128)
          · by_cases v4 : (((x - 224) * 64 + x1 - 128) * 64 + x2 - 128) < 57344
            · have k := v4
              go_wp2
              go_rounds 3
              go_ret
              refine ⟨ret_bool' ?_, rfl⟩
              have hr : refN (s.size - pos) x x1 x2 (sb s (pos + 3)) = none := by
                unfold refN
                repeat' split
                all_goals first | rfl | omega
              have hs' := HS.out
              rw [hr] at hs'
              rw [← HV.out, hs']
            · have k := v4
              go_wp2
              go_rounds 3
              refine ⟨⟨pos + 3, by go_num, by omega, ?_, trivial⟩, by simp [intOf]; omega⟩
              have hr : refN (s.size - pos) x x1 x2 (sb s (pos + 3)) = some 3 := by
                unfold refN
                repeat' split
                all_goals first | rfl | omega
              have hs' := HS.out
              rw [hr] at hs'
              show _ = _
              rw [← HV.out, hs']
          · have k := v3
            go_wp2
            go_rounds 3
            refine ⟨⟨pos + 3, by go_num, by omega, ?_, trivial⟩, by simp [intOf]; omega⟩
            have hr : refN (s.size - pos) x x1 x2 (sb s (pos + 3)) = some 3 := by
              unfold refN
              repeat' split
              all_goals first | rfl | omega
            have hs' := HS.out
            rw [hr] at hs'
            show _ = _
            rw [← HV.out, hs']
        by_cases g4 : sb s pos < 248
        · have g := g4
          by_cases n1 : s.size ≤ pos + 3
          · generalize sb s pos = x at *
            go_wp2
            go_ret
            refine ⟨ret_bool' ?_, rfl⟩
            have hr : refN (s.size - pos) x (sb s (pos + 1)) (sb s (pos + 2)) (sb s (pos + 3)) = none := by
              unfold refN
              repeat' split
              all_goals first | rfl | omega
            have hs' := HS.out
            rw [hr] at hs'
            rw [← HV.out, hs']
          replace n1 := Nat.lt_of_not_le n1
          have b1 := sb_get s (pos + 1) (by omega)
          have l1 := sb_lt s (pos + 1)
          have b2 := sb_get s (pos + 2) (by omega)
          have l2 := sb_lt s (pos + 2)
          have b3 := sb_get s (pos + 3) (by omega)
          have l3 := sb_lt s (pos + 3)
          generalize sb s pos = x at *
          generalize sb s (pos + 1) = x1 at *
          generalize sb s (pos + 2) = x2 at *
          generalize sb s (pos + 3) = x3 at *
          by_cases k1 : x1 < 128
          · have k := k1
            go_wp2
            go_rounds 4
            go_ret
            refine ⟨ret_bool' ?_, rfl⟩
            have hr : refN (s.size - pos) x x1 x2 x3 = none := by
              unfold refN
              repeat' split
              all_goals first | rfl | omega
            have hs' := HS.out
            rw [hr] at hs'
            rw [← HV.out, hs']
          by_cases j1 : 192 ≤ x1
          · have k := j1
            go_wp2
            go_rounds 4
            go_ret
            refine ⟨ret_bool' ?_, rfl⟩
            have hr : refN (s.size - pos) x x1 x2 x3 = none := by
              unfold refN
              repeat' split
              all_goals first | rfl | omega
            have hs' := HS.out
            rw [hr] at hs'
            rw [← HV.out, hs']
          by_cases k2 : x2 < 128
          · have k := k2
            go_wp2
            go_rounds 4
            go_ret
            refine ⟨ret_bool' ?_, rfl⟩
            have hr : refN (s.size - pos) x x1 x2 x3 = none := by
              unfold refN
              repeat' split
              all_goals first | rfl | omega
            have hs' := HS.out
            rw [hr] at hs'
            rw [← HV.out, hs']
          by_cases j2 : 192 ≤ x2
          · have k := j2
            go_wp2
            go_rounds 4
            go_ret
            refine ⟨ret_bool' ?_, rfl⟩
            have hr : refN (s.size - pos) x x1 x2 x3 = none := by
              unfold refN
              repeat' split
              all_goals first | rfl | omega
            have hs' := HS.out
            rw [hr] at hs'
            rw [← HV.out, hs']
          by_cases k3 : x3 < 128
          · have k := k3
            go_wp2
            go_rounds 4
            go_ret
            refine ⟨ret_bool' ?_, rfl⟩
            have hr : refN (s.size - pos) x x1 x2 x3 = none := by
              unfold refN
              repeat' split
              all_goals first | rfl | omega
            have hs' := HS.out
            rw [hr] at hs'
            rw [← HV.out, hs']
          by_cases j3 : 192 ≤ x3
          · have k := j3
            go_wp2
            go_rounds 4
            go_ret
            refine ⟨ret_bool' ?_, rfl⟩
            have hr : refN (s.size - pos) x x1 x2 x3 = none := by
              unfold refN
              repeat' split
              all_goals first | rfl | omega
            have hs' := HS.out
            rw [hr] at hs'
            rw [← HV.out, hs']
          by_cases v1 : ((((x - 240) * 64 + x1 - 128) * 64 + x2 - 128) * 64 + x3 - 128) < 65536
          · have k := v1
            go_wp2
            go_rounds 4
            go_ret
            refine ⟨ret_bool' ?_, rfl⟩
            have hr : refN (s.size - pos) x x1 x2 x3 = none := by
              unfold refN
              repeat' split
              all_goals first | rfl | omega
            have hs' := HS.out
            rw [hr] at hs'
            rw [← HV.out, hs']
          by_cases v2 : 1114111 < ((((x - 240) * 64 + x1 - 128) * 64 + x2 - 128) * 64 + x3 - 128)
          · have k := v2
            go_wp2
            go_rounds 4
            go_ret
            refine ⟨ret_bool' ?_, rfl⟩
            have hr : refN (s.size - pos) x x1 x2 x3 = none := by
              unfold refN
              repeat' split
              all_goals first | rfl | omega
            have hs' := HS.out
            rw [hr] at hs'
            rw [← HV.out, hs']
          go_wp2
          go_rounds 4
          refine ⟨⟨pos + 4, by go_num, by omega, ?_, trivial⟩, by simp [intOf]; omega⟩
          have hr : refN (s.size - pos) x x1 x2 x3 = some 4 := by
            unfold refN
            repeat' split
            all_goals first | rfl | omega
          have hs' := HS.out
          rw [hr] at hs'
          show _ = _
          rw [← HV.out, hs']
        generalize sb s pos = x at *
        go_wp2
        go_ret
        refine ⟨ret_bool' ?_, rfl⟩
        have hr : refN (s.size - pos) x (sb s (pos + 1)) (sb s (pos + 2)) (sb s (pos + 3)) = none := by
          unfold refN
          repeat' split
          all_goals first | rfl | omega
        have hs' := HS.out
        rw [hr] at hs'
        rw [← HV.out, hs']
    · go_wp2
      go_ret
      have hv := HV.out
      rw [List.drop_of_length_le (by simp; omega)] at hv
      exact ⟨ret_bool' (by rw [← hv]; rfl), rfl⟩
end Go.Proofs.YtbhmnkpbaeemeaaDoor
