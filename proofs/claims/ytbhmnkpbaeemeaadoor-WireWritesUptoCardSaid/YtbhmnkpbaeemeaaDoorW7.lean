import Derived.Test.YtbhmnkpbaeemeaaDoorW6
set_option linter.unusedVariables false
set_option linter.unusedSimpArgs false
namespace Go.Proofs.YtbhmnkpbaeemeaaDoor
open Go.RowKit

section
variable {w : World} {p : Nat} {A : Option Addr} {c : Nat} {s : WrS}

theorem below1 (w : World) (o : Obj) : Below w.heap.size w (w.alloc o) := (Below.refl _ _).alloc (Nat.le_refl _) _

theorem U8_any (h : Wr w p A c s) (v : UInt8) :
    Calls Tryd.prog 63 #[.pointer (some ⟨p, 0, none⟩), .int .u8 (v.toNat : Int)] w fun e w' => e = .returned (.tuple #[]) ∧ WrPost w w' p A (s.lay 0 [v]) := by
  have hb : Blk (w.alloc (.cells #[.int .u8 (v.toNat : Int)] 5)) w.heap.size (bs [v]).toArray 5 := Blk.new _ _ _
  have hL := Lib.hid (lay_one h (below1 w (.cells #[.int .u8 (v.toNat : Int)] 5)) (Rd.ofBlk hb (by simp)) (fun _ => h.fresh fun k hk => by rw [inA_some] at hk; omega) (by simp))
  clear hb h
  simp only [World.size_alloc] at hL
  go_enter Tryd.func63, Tryd.ntmps63
  go_wp2_with (go_at_call 65; refine hL.out.mono ?_; rintro e w' ⟨rfl, hq⟩)
  go_returns
  exact ⟨rfl, hq⟩

theorem U16_any (h : Wr w p A c s) (v : Int) (h0 : 0 ≤ v) (h1 : v ≤ 65535) :
    Calls Tryd.prog 62 #[.pointer (some ⟨p, 0, none⟩), .int .u16 v] w fun e w' => e = .returned (.tuple #[]) ∧ WrPost w w' p A (s.lay 0 (big2 v)) := by
  have hb : Blk (w.alloc (.cells (bs (big2 v)).toArray 5)) w.heap.size (bs (big2 v)).toArray 5 := Blk.new _ _ _
  have hL := Lib.hid (lay_one h (below1 w (.cells (bs (big2 v)).toArray 5)) (Rd.ofBlk hb (by simp [big2])) (fun _ => h.fresh fun k hk => by rw [inA_some] at hk; omega) (by simp [big2]))
  clear hb h
  simp only [World.size_alloc] at hL
  have hH := Lib.hid (high2 v w h0 h1)
  go_enter Tryd.func62, Tryd.ntmps62
  go_wp2_with first | (go_at_call 131; refine hH.out.mono ?_; rintro e w' ⟨rfl, rfl⟩) | (go_at_call 65; refine hL.out.mono ?_; rintro e w' ⟨rfl, hq⟩)
  go_returns
  exact ⟨rfl, hq⟩

theorem U32_any (h : Wr w p A c s) (v : Int) (h0 : 0 ≤ v) (h1 : v ≤ 4294967295) :
    Calls Tryd.prog 64 #[.pointer (some ⟨p, 0, none⟩), .int .u32 v] w fun e w' => e = .returned (.tuple #[]) ∧ WrPost w w' p A (s.lay 0 (big4 v)) := by
  have hb : Blk (w.alloc (.cells (bs (big4 v)).toArray 5)) w.heap.size (bs (big4 v)).toArray 5 := Blk.new _ _ _
  have hL := Lib.hid (lay_one h (below1 w (.cells (bs (big4 v)).toArray 5)) (Rd.ofBlk hb (by simp [big4])) (fun _ => h.fresh fun k hk => by rw [inA_some] at hk; omega) (by simp [big4]))
  clear hb h
  simp only [World.size_alloc] at hL
  have hH := Lib.hid (high4 v w h0 h1)
  go_enter Tryd.func64, Tryd.ntmps64
  go_wp2_with first | (go_at_call 131; refine hH.out.mono ?_; rintro e w' ⟨rfl, rfl⟩) | (go_at_call 65; refine hL.out.mono ?_; rintro e w' ⟨rfl, hq⟩)
  go_returns
  exact ⟨rfl, hq⟩

theorem U64_any (h : Wr w p A c s) (v : Int) (h0 : 0 ≤ v) (h1 : v ≤ 18446744073709551615) :
    Calls Tryd.prog 74 #[.pointer (some ⟨p, 0, none⟩), .int .u64 v] w fun e w' => e = .returned (.tuple #[]) ∧ WrPost w w' p A (s.lay 0 (big8 v)) := by
  have hb : Blk (w.alloc (.cells (bs (big8 v)).toArray 5)) w.heap.size (bs (big8 v)).toArray 5 := Blk.new _ _ _
  have hL := Lib.hid (lay_one h (below1 w (.cells (bs (big8 v)).toArray 5)) (Rd.ofBlk hb (by simp [big8])) (fun _ => h.fresh fun k hk => by rw [inA_some] at hk; omega) (by simp [big8]))
  clear hb h
  simp only [World.size_alloc] at hL
  have hH := Lib.hid (high8 v w h0 h1)
  go_enter Tryd.func74, Tryd.ntmps74
  go_wp2_with first | (go_at_call 131; refine hH.out.mono ?_; rintro e w' ⟨rfl, rfl⟩) | (go_at_call 65; refine hL.out.mono ?_; rintro e w' ⟨rfl, hq⟩)
  go_returns
  exact ⟨rfl, hq⟩

theorem Num_any (h : Wr w p A c s) (v : Nat) (hv : v < 18446744073709551616) :
    Calls Tryd.prog 75 #[.pointer (some ⟨p, 0, none⟩), .int .u64 (v : Int)] w fun e w' => e = .returned (.tuple #[]) ∧ WrPost w w' p A (s.lay 0 (numB v)) := by
  have hN := Lib.hid (number_any v w hv)
  have hl := numB_len64 v hv
  go_enter Tryd.func75, Tryd.ntmps75
  go_wp2_with first | (go_at_call 136; refine hN.out.mono ?_; rintro e w1 ⟨A1, c1, rfl, ho, hb⟩) | (go_at_call 65; refine (lay_one h hb ho.rd (fun _ => h.fresh fun k hk => (ho.lt hk).1) (by omega)).mono ?_; rintro e w' ⟨rfl, hq⟩)
  go_returns
  exact ⟨rfl, hq⟩

theorem Flag_any (h : Wr w p A c s) (v : Bool) :
    Calls Tryd.prog 77 #[.pointer (some ⟨p, 0, none⟩), .bool v] w fun e w' => e = .returned (.tuple #[]) ∧ WrPost w w' p A (s.lay 0 [if v then 1 else 0]) := by
  have hL : ∀ v : UInt8, Hid (Calls Tryd.prog 65 #[.pointer (some ⟨p, 0, none⟩), .int .i64 0, .slice (some ⟨w.heap.size + 1, 0, none⟩) 1 1] ((w.alloc (.cells #[.int .u8 (v.toNat : Int)] 5)).alloc (.cells #[.slice (some ⟨w.heap.size, 0, none⟩) 1 1] 22)) fun e w' => e = .returned (.tuple #[]) ∧ WrPost w w' p A (s.lay 0 [v])) := by
    intro v
    have hb : Blk (w.alloc (.cells #[.int .u8 (v.toNat : Int)] 5)) w.heap.size (bs [v]).toArray 5 := Blk.new _ _ _
    have := lay_one h (below1 w (.cells #[.int .u8 (v.toNat : Int)] 5)) (Rd.ofBlk hb (by simp)) (fun _ => h.fresh fun k hk => by rw [inA_some] at hk; omega) (by simp)
    exact Lib.hid (by simpa using this)
  cases v
  · have hL0 := hL 0
    clear hL h
    go_enter Tryd.func77, Tryd.ntmps77
    go_wp2_with (go_at_call 65; refine hL0.out.mono ?_; rintro e w' ⟨rfl, hq⟩)
    go_returns
    exact ⟨rfl, hq⟩
  · have hL0 := hL 1
    clear hL h
    go_enter Tryd.func77, Tryd.ntmps77
    go_wp2_with (go_at_call 65; refine hL0.out.mono ?_; rintro e w' ⟨rfl, hq⟩)
    go_returns
    exact ⟨rfl, hq⟩

/-- A list's length: refused, or laid down as a number. -/
def WrS.count (s : WrS) (n most : Int) : WrS := if n < 0 ∨ most < n then s.lay 21 [] else s.lay 0 (numB n.toNat)

theorem Count_any (h : Wr w p A c s) (n most : Int) (hn : n ≤ 9223372036854775807) :
    Calls Tryd.prog 79 #[.pointer (some ⟨p, 0, none⟩), .int .i64 n, .int .i64 most] w fun e w' => e = .returned (.tuple #[]) ∧ WrPost w w' p A (s.count n most) := by
  have hL := Lib.hid (lay_none h 21)
  by_cases hn0 : n < 0
  · have fin : s.count n most = s.lay 21 [] := by unfold WrS.count; rw [if_pos (.inl hn0)]
    have Fin := Lib.hid fin; clear fin
    go_enter Tryd.func79, Tryd.ntmps79
    go_wp2_with (go_at_call 65; refine hL.out.mono ?_; rintro e w' ⟨rfl, hq⟩)
    go_returns
    exact ⟨rfl, by rw [Fin.out]; exact hq⟩
  · by_cases hm : most < n
    · have fin : s.count n most = s.lay 21 [] := by unfold WrS.count; rw [if_pos (.inr hm)]
      have Fin := Lib.hid fin; clear fin
      go_enter Tryd.func79, Tryd.ntmps79
      go_wp2_with (go_at_call 65; refine hL.out.mono ?_; rintro e w' ⟨rfl, hq⟩)
      go_returns
      exact ⟨rfl, by rw [Fin.out]; exact hq⟩
    · have fin : s.count n most = s.lay 0 (numB n.toNat) := by unfold WrS.count; rw [if_neg (by omega)]
      have Fin := Lib.hid fin; clear fin hL
      obtain ⟨m, rfl⟩ := Int.eq_ofNat_of_zero_le (Int.not_lt.1 hn0)
      rw [Int.toNat_natCast] at Fin
      have hN := Lib.hid (number_any m w (by omega))
      have hl := numB_len64 m (by omega)
      go_enter Tryd.func79, Tryd.ntmps79
      go_wp2_with first | (go_at_call 136; refine hN.out.mono ?_; rintro e w1 ⟨A1, c1, rfl, ho, hb⟩) | (go_at_call 65; refine (lay_one h hb ho.rd (fun _ => h.fresh fun k hk => (ho.lt hk).1) (by omega)).mono ?_; rintro e w' ⟨rfl, hq⟩)
      go_returns
      exact ⟨rfl, by rw [Fin.out]; exact hq⟩

/-- Bytes with their number ahead, or refused. -/
def WrS.blob (s : WrS) (b : List UInt8) (most : Int) : WrS := if most < b.length then s.lay 21 [] else s.lay 0 (numB b.length ++ b)

theorem Blob_any (h : Wr w p A c s) (Ab : Option Addr) (n cb : Nat) (b : List UInt8) (most : Int) (hr : Rd w Ab n cb b) (hF : 0 < n → ∀ k, inA Ab k → ¬ wrF p A k) (hn : n ≤ 999999000) :
    Calls Tryd.prog 81 #[.pointer (some ⟨p, 0, none⟩), .slice Ab n cb, .int .i64 most] w fun e w' => e = .returned (.tuple #[]) ∧ WrPost w w' p A (s.blob b most) := by
  have hL := Lib.hid (lay_none h 21)
  have hlen := hr.len
  by_cases hm : most < n
  · have fin : s.blob b most = s.lay 21 [] := by unfold WrS.blob; rw [if_pos (by omega)]
    have Fin := Lib.hid fin; clear fin hlen
    go_enter Tryd.func81, Tryd.ntmps81
    go_wp2_with (go_at_call 65; refine hL.out.mono ?_; rintro e w' ⟨rfl, hq⟩)
    go_returns
    exact ⟨rfl, by rw [Fin.out]; exact hq⟩
  · have fin : s.blob b most = s.lay 0 (numB n ++ b) := by unfold WrS.blob; rw [if_neg (by omega), hlen]
    have Fin := Lib.hid fin; clear fin hL
    have hN := Lib.hid (number_any n w (by omega))
    have hl := numB_len64 n (by omega)
    have Hlen := Lib.hid hlen; clear hlen
    go_enter Tryd.func81, Tryd.ntmps81
    go_wp2_with first | (go_at_call 136; refine hN.out.mono ?_; rintro e w1 ⟨A1, c1, rfl, ho, hb⟩) | (go_at_call 65; refine (lay_two h hb ho.rd (fun _ => h.fresh fun k hk => (ho.lt hk).1) (hr.below hb) hF (by rw [Hlen.out]; omega)).mono ?_; rintro e w' ⟨rfl, hq⟩)
    go_returns
    exact ⟨rfl, by rw [Fin.out]; exact hq⟩

theorem Len_any (h : Wr w p A c s) :
    Calls Tryd.prog 27 #[.pointer (some ⟨p, 0, none⟩)] w fun e w' => e = .returned (.int .i64 (s.buf.length : Int)) ∧ w = w' := by
  have c5 : w.cell? ⟨p, 5, none⟩ = some (.slice A s.buf.length c) := h.blk.cell 5
  clear h
  go_enter Tryd.func27, Tryd.ntmps27
  go_wp2
  go_ret
  exact ⟨rfl, rfl⟩

/-- What Bytes tells: an error, or the bytes. -/
theorem Bytes_unmade (h : Wr w p A c s) (hm : s.made = false) :
    Calls Tryd.prog 38 #[.pointer (some ⟨p, 0, none⟩)] w fun e w' => ∃ b, e = .returned (.tuple #[.slice none 0 0, .iface 129 (.pointer (some ⟨b, 0, none⟩))]) ∧ w.heap.size ≤ b ∧ ErrAt w' b 3 0 ∧ Below w.heap.size w w' := by
  have c0 : w.cell? ⟨p, 0, none⟩ = some (.bool s.made) := h.blk.cell 0
  rw [hm] at c0
  have hT := Lib.hid (told_unmade w p c0)
  clear hm h
  go_enter Tryd.func38, Tryd.ntmps38
  go_wp2_with (go_at_call 98; refine hT.out.mono ?_; rintro e w1 ⟨b, rfl, h1, h2, h3⟩)
  go_ret2
  exact ⟨b, rfl, h1, h2, h3⟩

theorem Bytes_bad (h : Wr w p A c s) (hm : s.made = true) (hb : s.bad = true) :
    Calls Tryd.prog 38 #[.pointer (some ⟨p, 0, none⟩)] w fun e w' => ∃ b, e = .returned (.tuple #[.slice none 0 0, .iface 129 (.pointer (some ⟨b, 0, none⟩))]) ∧ w.heap.size ≤ b ∧ ErrAt w' b s.code s.at_ ∧ Below w.heap.size w w' := by
  have c0 : w.cell? ⟨p, 0, none⟩ = some (.bool s.made) := h.blk.cell 0
  have c1 : w.cell? ⟨p, 1, none⟩ = some (.bool s.bad) := h.blk.cell 1
  rw [hm] at c0
  rw [hb] at c1
  have hT := Lib.hid (told_bad w p s.code s.at_ c0 c1 (h.blk.cell 2) (h.blk.cell 3))
  clear hm hb h
  go_enter Tryd.func38, Tryd.ntmps38
  go_wp2_with (go_at_call 98; refine hT.out.mono ?_; rintro e w1 ⟨b, rfl, h1, h2, h3⟩)
  go_ret2
  exact ⟨b, rfl, h1, h2, h3⟩

theorem Bytes_good (h : Wr w p A c s) (hm : s.made = true) (hb : s.bad = false) :
    Calls Tryd.prog 38 #[.pointer (some ⟨p, 0, none⟩)] w fun e w' => ∃ A', e = .returned (.tuple #[.slice A' s.buf.length s.buf.length, .nilIface]) ∧ Ob w' w.heap.size A' s.buf.length s.buf.length s.buf ∧ Below w.heap.size w w' := by
  have c0 : w.cell? ⟨p, 0, none⟩ = some (.bool s.made) := h.blk.cell 0
  have c1 : w.cell? ⟨p, 1, none⟩ = some (.bool s.bad) := h.blk.cell 1
  have c5 : w.cell? ⟨p, 5, none⟩ = some (.slice A s.buf.length c) := h.blk.cell 5
  rw [hm] at c0
  rw [hb] at c1
  have hT := Lib.hid (told_good w p c0 c1)
  have hsm := h.small
  clear hm hb
  go_enter Tryd.func38, Tryd.ntmps38
  go_wp2_with first | (go_at_call 98; refine hT.out.mono ?_; rintro e w1 ⟨rfl, rfl⟩) | (go_at_call 71; refine (twin_any _ _ _ _ s.buf h.row.rd (by omega)).mono ?_; rintro e w1 ⟨A', rfl, ho, hb⟩)
  go_ret2
  exact ⟨A', rfl, ho, hb⟩
end
end Go.Proofs.YtbhmnkpbaeemeaaDoor
