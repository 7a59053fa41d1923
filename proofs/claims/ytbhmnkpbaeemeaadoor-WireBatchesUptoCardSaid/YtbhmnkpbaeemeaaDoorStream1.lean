import Derived.Test.YtbhmnkpbaeemeaaDoorStream0
import Derived.Test.YtbhmnkpbaeemeaaDoorW50
import Derived.Test.YtbhmnkpbaeemeaaDoorK4
set_option linter.unusedVariables false
set_option linter.unusedSimpArgs false
namespace Go.Proofs.YtbhmnkpbaeemeaaDoor
open Go.RowKit

/-- A writer. -/
def cWr (p : Nat) (A : Option Addr) (c : Nat) (s : WrS) : Ch where
  F := wrF p A
  P w := Wr w p A c s
  lt w h k hk := h.lt hk
  loc w w' G h hc hF := h.chg hc hF

section
variable {w0 w w' : World} {P A : Option Addr} {c : Nat} {s s' : WrS} {l : List Ch} {p q : Nat}
theorem Sep.wr (S : Sep w0 w (cWr p A c s :: l)) (h : WrPost w w' p A s') : ∃ A' c', Sep w0 w' (cWr p A' c' s' :: l) := by
  obtain ⟨A', c', h1, h2, h3⟩ := h
  refine ⟨A', c', S.mod h2 (cWr p A' c' s') h1 fun k hk => ?_⟩
  rcases hk with rfl | hk
  · exact .inl (.inl rfl)
  · rcases h3 k hk with h | h
    · exact .inl (.inr h)
    · exact .inr h
end

/-! ## groups, ascii, size -/
theorem groups_any (v : Nat) (w : World) (hv : v < 18446744073709551616) :
    Calls Tryd.prog 101 #[.int .u64 (v : Int)] w fun e w' => e = .returned (.int .i64 ((numB v).length : Int)) ∧ w = w' := by
  have hl := numB_len64 v hv
  go_enter Tryd.func101, Tryd.ntmps101
  go_wp2
  go_loop [0, 3] (fun v' n => ∃ x m : Nat, v' = .int .u64 (x : Int) ∧ n = .int .i64 (m : Int) ∧ Hid (m + (numB x).length = (numB v).length + 1) ∧ x < 18446744073709551616 ∧ m ≤ 10) (fun v' _ => (intOf v').toNat)
  case atStart => exact ⟨v, 1, rfl, rfl, Nat.add_comm _ _, hv, by decide⟩
  case round =>
    obtain ⟨x, m, rfl, rfl, H, hx, hm⟩ := hrel
    by_cases hlt : 127 < x
    · have h1 := groups_len x (by omega)
      have HN : Hid (m + 1 + (numB (x / 128)).length = (numB v).length + 1) := by have := H.out; show _ = _; omega
      have hm' : m + 1 ≤ 10 := by
        have h2 : 1 ≤ (numB (x / 128)).length := by
          rcases Nat.lt_or_ge (x / 128) 128 with h | h
          · rw [groups_one _ h]; exact Nat.le_refl _
          · rw [groups_len _ h]; omega
        have := HN.out
        omega
      clear h1 hl
      go_wp2
      go_round
      case rel => exact ⟨x / 128, m + 1, by simp, by go_num, HN, by omega, hm'⟩
      case measure => simp [intOf]; omega
    · have HN : Hid ((m : Int) = ((numB v).length : Int)) := by
        have h1 := groups_one x (by omega)
        have := H.out
        show _ = _
        omega
      go_wp2
      go_ret
      exact ⟨by rw [HN.out]; rfl, rfl⟩

theorem ascii_any (t : ByteArray) (w : World) (ht : t.size ≤ 2000000) :
    Calls Tryd.prog 102 #[.string t] w fun e w' => e = .returned (.bool (ascB t.data.toList)) ∧ w = w' := by
  go_enter Tryd.func102, Tryd.ntmps102
  go_wp2
  go_loop [3] (fun i => ∃ k : Nat, k ≤ t.size ∧ i = .int .i64 (k : Int) ∧ Hid (ascB (t.data.toList.take k) = true)) (fun i => t.size - (intOf i).toNat)
  case atStart => exact ⟨0, Nat.zero_le _, rfl, rfl⟩
  case round =>
    obtain ⟨k, hk, rfl, H⟩ := hrel
    by_cases hlt : k < t.size
    · have hk' : k < t.data.toList.length := by simpa using hlt
      have hs : ascB (t.data.toList.take (k + 1)) = (ascB (t.data.toList.take k) && decide ((t[k]'hlt).toNat < 128)) := by
        rw [List.take_succ_eq_append_getElem hk']
        simp [ascB]
        rfl
      rw [H.out, Bool.true_and] at hs
      have HS := Lib.hid hs
      have HW : Hid (¬ (t[k]'hlt).toNat < 128 → ascB t.data.toList = false) := fun hn => by
        unfold ascB
        rw [List.all_eq_false]
        exact ⟨t[k]'hlt, List.mem_of_getElem (i := k) (h := hk') rfl, by simpa using hn⟩
      clear hs
      have hX := (t[k]'hlt).toNat_lt
      go_wp2
      · have hx : ¬ (t[k]'hlt).toNat < 128 := by omega
        go_ret
        exact ⟨by rw [HW.out hx]; rfl, rfl⟩
      · have hx : (t[k]'hlt).toNat < 128 := by omega
        go_round
        case rel => exact ⟨k + 1, by omega, by go_num, by show _ = _; rw [HS.out]; simpa using hx⟩
        case measure => simp [intOf]; omega
    · have HN : Hid (ascB t.data.toList = true) := by
        have := H.out
        rw [List.take_of_length_le (by simp; omega)] at this
        exact this
      go_wp2
      go_ret
      exact ⟨by rw [HN.out]; rfl, rfl⟩


set_option maxRecDepth 100000 in
theorem szo1 (w : World) (o : OpV) (ok : OpOk w o) (hk : o.kind = 1) :
    Calls Tryd.prog 35 #[o.val] w fun e w' => e = .returned (.int .i64 (sizeO o)) ∧ Below w.heap.size w w' := by
  obtain ⟨kind, num, int, Ab, n, cb, b, t, most⟩ := o
  simp only at hk
  subst hk
  have hnum := ok.num
  have hi := ok.int
  have hi0 := ok.int0
  have hn := ok.n
  have hbl := ok.rd.len
  have hs := ok.s
  simp only at hnum hi hi0 hn hbl hs
  have hz : sizeO ⟨1, num, int, Ab, n, cb, b, t, most⟩ = 1 := by simp [sizeO, okO, encO, big2, big4, big8]
  rw [hz]
  clear hz
  have X := Lib.hid (Blk.new w (OpV.cells ⟨1, num, int, Ab, n, cb, b, t, most⟩) 53)
  have HB := Lib.hid (below1 w (.cells (OpV.cells ⟨1, num, int, Ab, n, cb, b, t, most⟩) 53))
  clear ok
  unfold OpV.cells at X HB
  unfold OpV.val
  simp only at X HB ⊢
  go_enter Tryd.func35, Tryd.ntmps35
  go_wp2
  go_ret
  exact ⟨rfl, HB.out⟩

set_option maxRecDepth 100000 in
theorem szo2 (w : World) (o : OpV) (ok : OpOk w o) (hk : o.kind = 2) :
    Calls Tryd.prog 35 #[o.val] w fun e w' => e = .returned (.int .i64 (sizeO o)) ∧ Below w.heap.size w w' := by
  obtain ⟨kind, num, int, Ab, n, cb, b, t, most⟩ := o
  simp only at hk
  subst hk
  have hnum := ok.num
  have hi := ok.int
  have hi0 := ok.int0
  have hn := ok.n
  have hbl := ok.rd.len
  have hs := ok.s
  simp only at hnum hi hi0 hn hbl hs
  have hz : sizeO ⟨2, num, int, Ab, n, cb, b, t, most⟩ = 2 := by simp [sizeO, okO, encO, big2, big4, big8]
  rw [hz]
  clear hz
  have X := Lib.hid (Blk.new w (OpV.cells ⟨2, num, int, Ab, n, cb, b, t, most⟩) 53)
  have HB := Lib.hid (below1 w (.cells (OpV.cells ⟨2, num, int, Ab, n, cb, b, t, most⟩) 53))
  clear ok
  unfold OpV.cells at X HB
  unfold OpV.val
  simp only at X HB ⊢
  go_enter Tryd.func35, Tryd.ntmps35
  go_wp2
  go_ret
  exact ⟨rfl, HB.out⟩

set_option maxRecDepth 100000 in
theorem szo3 (w : World) (o : OpV) (ok : OpOk w o) (hk : o.kind = 3) :
    Calls Tryd.prog 35 #[o.val] w fun e w' => e = .returned (.int .i64 (sizeO o)) ∧ Below w.heap.size w w' := by
  obtain ⟨kind, num, int, Ab, n, cb, b, t, most⟩ := o
  simp only at hk
  subst hk
  have hnum := ok.num
  have hi := ok.int
  have hi0 := ok.int0
  have hn := ok.n
  have hbl := ok.rd.len
  have hs := ok.s
  simp only at hnum hi hi0 hn hbl hs
  have hz : sizeO ⟨3, num, int, Ab, n, cb, b, t, most⟩ = 4 := by simp [sizeO, okO, encO, big2, big4, big8]
  rw [hz]
  clear hz
  have X := Lib.hid (Blk.new w (OpV.cells ⟨3, num, int, Ab, n, cb, b, t, most⟩) 53)
  have HB := Lib.hid (below1 w (.cells (OpV.cells ⟨3, num, int, Ab, n, cb, b, t, most⟩) 53))
  clear ok
  unfold OpV.cells at X HB
  unfold OpV.val
  simp only at X HB ⊢
  go_enter Tryd.func35, Tryd.ntmps35
  go_wp2
  go_ret
  exact ⟨rfl, HB.out⟩

set_option maxRecDepth 100000 in
theorem szo4 (w : World) (o : OpV) (ok : OpOk w o) (hk : o.kind = 4) :
    Calls Tryd.prog 35 #[o.val] w fun e w' => e = .returned (.int .i64 (sizeO o)) ∧ Below w.heap.size w w' := by
  obtain ⟨kind, num, int, Ab, n, cb, b, t, most⟩ := o
  simp only at hk
  subst hk
  have hnum := ok.num
  have hi := ok.int
  have hi0 := ok.int0
  have hn := ok.n
  have hbl := ok.rd.len
  have hs := ok.s
  simp only at hnum hi hi0 hn hbl hs
  have hz : sizeO ⟨4, num, int, Ab, n, cb, b, t, most⟩ = 8 := by simp [sizeO, okO, encO, big2, big4, big8]
  rw [hz]
  clear hz
  have X := Lib.hid (Blk.new w (OpV.cells ⟨4, num, int, Ab, n, cb, b, t, most⟩) 53)
  have HB := Lib.hid (below1 w (.cells (OpV.cells ⟨4, num, int, Ab, n, cb, b, t, most⟩) 53))
  clear ok
  unfold OpV.cells at X HB
  unfold OpV.val
  simp only at X HB ⊢
  go_enter Tryd.func35, Tryd.ntmps35
  go_wp2
  go_ret
  exact ⟨rfl, HB.out⟩

set_option maxRecDepth 100000 in
theorem szo6 (w : World) (o : OpV) (ok : OpOk w o) (hk : o.kind = 6) :
    Calls Tryd.prog 35 #[o.val] w fun e w' => e = .returned (.int .i64 (sizeO o)) ∧ Below w.heap.size w w' := by
  obtain ⟨kind, num, int, Ab, n, cb, b, t, most⟩ := o
  simp only at hk
  subst hk
  have hnum := ok.num
  have hi := ok.int
  have hi0 := ok.int0
  have hn := ok.n
  have hbl := ok.rd.len
  have hs := ok.s
  simp only at hnum hi hi0 hn hbl hs
  have hz : sizeO ⟨6, num, int, Ab, n, cb, b, t, most⟩ = 1 := by simp [sizeO, okO, encO, big2, big4, big8]
  rw [hz]
  clear hz
  have X := Lib.hid (Blk.new w (OpV.cells ⟨6, num, int, Ab, n, cb, b, t, most⟩) 53)
  have HB := Lib.hid (below1 w (.cells (OpV.cells ⟨6, num, int, Ab, n, cb, b, t, most⟩) 53))
  clear ok
  unfold OpV.cells at X HB
  unfold OpV.val
  simp only at X HB ⊢
  go_enter Tryd.func35, Tryd.ntmps35
  go_wp2
  go_ret
  exact ⟨rfl, HB.out⟩

set_option maxRecDepth 100000 in
theorem szo5 (w : World) (o : OpV) (ok : OpOk w o) (hk : o.kind = 5) :
    Calls Tryd.prog 35 #[o.val] w fun e w' => e = .returned (.int .i64 (sizeO o)) ∧ Below w.heap.size w w' := by
  obtain ⟨kind, num, int, Ab, n, cb, b, t, most⟩ := o
  simp only at hk
  subst hk
  have hnum := ok.num
  have hi := ok.int
  have hi0 := ok.int0
  have hn := ok.n
  have hbl := ok.rd.len
  have hs := ok.s
  simp only at hnum hi hi0 hn hbl hs
  have hz : sizeO ⟨5, num, int, Ab, n, cb, b, t, most⟩ = ((numB num).length : Int) := by simp [sizeO, okO, encO]
  rw [hz]
  clear hz
  have X := Lib.hid (Blk.new w (OpV.cells ⟨5, num, int, Ab, n, cb, b, t, most⟩) 53)
  have HB := Lib.hid (below1 w (.cells (OpV.cells ⟨5, num, int, Ab, n, cb, b, t, most⟩) 53))
  clear ok
  unfold OpV.cells at X HB
  unfold OpV.val
  simp only at X HB ⊢
  go_enter Tryd.func35, Tryd.ntmps35
  go_wp2_with (go_at_call 101; refine (groups_any num _ hnum).mono ?_; rintro e w' ⟨rfl, rfl⟩)
  go_ret
  exact ⟨rfl, HB.out⟩

set_option maxRecDepth 100000 in
theorem szo7a (w : World) (o : OpV) (ok : OpOk w o) (hk : o.kind = 7) (h0 : o.int < 0) :
    Calls Tryd.prog 35 #[o.val] w fun e w' => e = .returned (.int .i64 (sizeO o)) ∧ Below w.heap.size w w' := by
  obtain ⟨kind, num, int, Ab, n, cb, b, t, most⟩ := o
  simp only at hk
  subst hk
  have hnum := ok.num
  have hi := ok.int
  have hi0 := ok.int0
  have hn := ok.n
  have hbl := ok.rd.len
  have hs := ok.s
  simp only at hnum hi hi0 hn hbl hs
  have hz : sizeO ⟨7, num, int, Ab, n, cb, b, t, most⟩ = -1 := by
    simp only at h0
    have : ¬ (0 ≤ int ∧ int ≤ most) := by omega
    simp [sizeO, okO, this]
  rw [hz]
  clear hz
  simp only at h0
  have X := Lib.hid (Blk.new w (OpV.cells ⟨7, num, int, Ab, n, cb, b, t, most⟩) 53)
  have HB := Lib.hid (below1 w (.cells (OpV.cells ⟨7, num, int, Ab, n, cb, b, t, most⟩) 53))
  clear ok
  unfold OpV.cells at X HB
  unfold OpV.val
  simp only at X HB ⊢
  go_enter Tryd.func35, Tryd.ntmps35
  go_wp2
  go_ret
  exact ⟨rfl, HB.out⟩

set_option maxRecDepth 100000 in
theorem szo7b (w : World) (o : OpV) (ok : OpOk w o) (hk : o.kind = 7) (h0 : 0 ≤ o.int) (h1 : o.most < o.int) :
    Calls Tryd.prog 35 #[o.val] w fun e w' => e = .returned (.int .i64 (sizeO o)) ∧ Below w.heap.size w w' := by
  obtain ⟨kind, num, int, Ab, n, cb, b, t, most⟩ := o
  simp only at hk
  subst hk
  have hnum := ok.num
  have hi := ok.int
  have hi0 := ok.int0
  have hn := ok.n
  have hbl := ok.rd.len
  have hs := ok.s
  simp only at hnum hi hi0 hn hbl hs
  have hz : sizeO ⟨7, num, int, Ab, n, cb, b, t, most⟩ = -1 := by
    simp only at h0 h1
    have : ¬ (0 ≤ int ∧ int ≤ most) := by omega
    simp [sizeO, okO, this]
  rw [hz]
  clear hz
  simp only at h0 h1
  have X := Lib.hid (Blk.new w (OpV.cells ⟨7, num, int, Ab, n, cb, b, t, most⟩) 53)
  have HB := Lib.hid (below1 w (.cells (OpV.cells ⟨7, num, int, Ab, n, cb, b, t, most⟩) 53))
  clear ok
  unfold OpV.cells at X HB
  unfold OpV.val
  simp only at X HB ⊢
  go_enter Tryd.func35, Tryd.ntmps35
  go_wp2
  go_ret
  exact ⟨rfl, HB.out⟩

set_option maxRecDepth 100000 in
theorem szo7c (w : World) (o : OpV) (ok : OpOk w o) (hk : o.kind = 7) (h0 : 0 ≤ o.int) (h1 : o.int ≤ o.most) :
    Calls Tryd.prog 35 #[o.val] w fun e w' => e = .returned (.int .i64 (sizeO o)) ∧ Below w.heap.size w w' := by
  obtain ⟨kind, num, int, Ab, n, cb, b, t, most⟩ := o
  simp only at hk
  subst hk
  have hnum := ok.num
  have hi := ok.int
  have hi0 := ok.int0
  have hn := ok.n
  have hbl := ok.rd.len
  have hs := ok.s
  simp only at hnum hi hi0 hn hbl hs
  have hz : sizeO ⟨7, num, int, Ab, n, cb, b, t, most⟩ = ((numB int.toNat).length : Int) := by simp only at h0 h1; simp [sizeO, okO, encO, h0, h1]
  rw [hz]
  clear hz
  simp only at h0 h1
  have hg : ∀ W, Calls Tryd.prog 101 #[.int .u64 int] W fun e w' => e = .returned (.int .i64 ((numB int.toNat).length : Int)) ∧ W = w' := fun W => by
    have := groups_any int.toNat W (by omega)
    rw [show ((int.toNat : Nat) : Int) = int by omega] at this
    exact this
  have HG := Lib.hid hg
  clear hg
  have X := Lib.hid (Blk.new w (OpV.cells ⟨7, num, int, Ab, n, cb, b, t, most⟩) 53)
  have HB := Lib.hid (below1 w (.cells (OpV.cells ⟨7, num, int, Ab, n, cb, b, t, most⟩) 53))
  clear ok
  unfold OpV.cells at X HB
  unfold OpV.val
  simp only at X HB ⊢
  go_enter Tryd.func35, Tryd.ntmps35
  go_wp2_with (go_at_call 101; refine (HG.out _).mono ?_; rintro e w' ⟨rfl, rfl⟩)
  go_ret
  exact ⟨rfl, HB.out⟩

set_option maxRecDepth 100000 in
theorem szo8a (w : World) (o : OpV) (ok : OpOk w o) (hk : o.kind = 8) (h0 : o.most < (o.b.length : Int)) :
    Calls Tryd.prog 35 #[o.val] w fun e w' => e = .returned (.int .i64 (sizeO o)) ∧ Below w.heap.size w w' := by
  obtain ⟨kind, num, int, Ab, n, cb, b, t, most⟩ := o
  simp only at hk
  subst hk
  have hnum := ok.num
  have hi := ok.int
  have hi0 := ok.int0
  have hn := ok.n
  have hbl := ok.rd.len
  have hs := ok.s
  simp only at hnum hi hi0 hn hbl hs
  have hz : sizeO ⟨8, num, int, Ab, n, cb, b, t, most⟩ = -1 := by
    simp only at h0
    have : ¬ ((b.length : Int) ≤ most) := by omega
    simp only [sizeO, okO]
    simp [this]
  rw [hz]
  clear hz
  simp only at h0
  rw [hbl] at h0
  have X := Lib.hid (Blk.new w (OpV.cells ⟨8, num, int, Ab, n, cb, b, t, most⟩) 53)
  have HB := Lib.hid (below1 w (.cells (OpV.cells ⟨8, num, int, Ab, n, cb, b, t, most⟩) 53))
  clear ok
  unfold OpV.cells at X HB
  unfold OpV.val
  simp only at X HB ⊢
  go_enter Tryd.func35, Tryd.ntmps35
  go_wp2
  go_ret
  exact ⟨rfl, HB.out⟩

set_option maxRecDepth 100000 in
theorem szo8b (w : World) (o : OpV) (ok : OpOk w o) (hk : o.kind = 8) (h0 : (o.b.length : Int) ≤ o.most) :
    Calls Tryd.prog 35 #[o.val] w fun e w' => e = .returned (.int .i64 (sizeO o)) ∧ Below w.heap.size w w' := by
  obtain ⟨kind, num, int, Ab, n, cb, b, t, most⟩ := o
  simp only at hk
  subst hk
  have hnum := ok.num
  have hi := ok.int
  have hi0 := ok.int0
  have hn := ok.n
  have hbl := ok.rd.len
  have hs := ok.s
  simp only at hnum hi hi0 hn hbl hs
  have hz : sizeO ⟨8, num, int, Ab, n, cb, b, t, most⟩ = ((numB n).length : Int) + (n : Int) := by
    simp only at h0
    simp only [sizeO, okO, encO]
    simp [h0]
    rw [hbl]
  rw [hz]
  clear hz
  simp only at h0
  rw [hbl] at h0
  have hg := fun W => Lib.hid (groups_any n W (by omega))
  have hgl := numB_len64 n (by omega)
  have X := Lib.hid (Blk.new w (OpV.cells ⟨8, num, int, Ab, n, cb, b, t, most⟩) 53)
  have HB := Lib.hid (below1 w (.cells (OpV.cells ⟨8, num, int, Ab, n, cb, b, t, most⟩) 53))
  clear ok
  unfold OpV.cells at X HB
  unfold OpV.val
  simp only at X HB ⊢
  go_enter Tryd.func35, Tryd.ntmps35
  go_wp2
  go_quiet ((go_at_call 101; exact quiet_l (hg _).out))
  go_wp2
  go_ret
  exact ⟨rfl, below_drewN HB.out _⟩

set_option maxRecDepth 100000 in
theorem szo9a (w : World) (o : OpV) (ok : OpOk w o) (hk : o.kind = 9) (h0 : o.most < (o.s.size : Int)) :
    Calls Tryd.prog 35 #[o.val] w fun e w' => e = .returned (.int .i64 (sizeO o)) ∧ Below w.heap.size w w' := by
  obtain ⟨kind, num, int, Ab, n, cb, b, t, most⟩ := o
  simp only at hk
  subst hk
  have hnum := ok.num
  have hi := ok.int
  have hi0 := ok.int0
  have hn := ok.n
  have hbl := ok.rd.len
  have hs := ok.s
  simp only at hnum hi hi0 hn hbl hs
  have hz : sizeO ⟨9, num, int, Ab, n, cb, b, t, most⟩ = -1 := by
    simp only at h0
    have : ¬ ((t.size : Int) ≤ most) := by omega
    simp only [sizeO, okO]
    simp [this]
  rw [hz]
  clear hz
  simp only at h0
  have X := Lib.hid (Blk.new w (OpV.cells ⟨9, num, int, Ab, n, cb, b, t, most⟩) 53)
  have HB := Lib.hid (below1 w (.cells (OpV.cells ⟨9, num, int, Ab, n, cb, b, t, most⟩) 53))
  clear ok
  unfold OpV.cells at X HB
  unfold OpV.val
  simp only at X HB ⊢
  go_enter Tryd.func35, Tryd.ntmps35
  go_wp2
  go_ret
  exact ⟨rfl, HB.out⟩

set_option maxRecDepth 100000 in
theorem szo9b (w : World) (o : OpV) (ok : OpOk w o) (hk : o.kind = 9) (h0 : (o.s.size : Int) ≤ o.most) (h1 : ascB o.s.data.toList = false) :
    Calls Tryd.prog 35 #[o.val] w fun e w' => e = .returned (.int .i64 (sizeO o)) ∧ Below w.heap.size w w' := by
  obtain ⟨kind, num, int, Ab, n, cb, b, t, most⟩ := o
  simp only at hk
  subst hk
  have hnum := ok.num
  have hi := ok.int
  have hi0 := ok.int0
  have hn := ok.n
  have hbl := ok.rd.len
  have hs := ok.s
  simp only at hnum hi hi0 hn hbl hs
  have hz : sizeO ⟨9, num, int, Ab, n, cb, b, t, most⟩ = -1 := by simp only at h1; simp [sizeO, okO, h1]
  rw [hz]
  clear hz
  simp only at h0 h1
  have ha := fun W => Lib.hid (ascii_any t W hs)
  rw [h1] at ha
  clear h1
  have X := Lib.hid (Blk.new w (OpV.cells ⟨9, num, int, Ab, n, cb, b, t, most⟩) 53)
  have HB := Lib.hid (below1 w (.cells (OpV.cells ⟨9, num, int, Ab, n, cb, b, t, most⟩) 53))
  clear ok
  unfold OpV.cells at X HB
  unfold OpV.val
  simp only at X HB ⊢
  go_enter Tryd.func35, Tryd.ntmps35
  go_wp2_with (go_at_call 102; refine (ha _).out.mono ?_; rintro e w' ⟨rfl, rfl⟩)
  go_ret
  exact ⟨rfl, HB.out⟩

set_option maxRecDepth 100000 in
theorem szo9c (w : World) (o : OpV) (ok : OpOk w o) (hk : o.kind = 9) (h0 : (o.s.size : Int) ≤ o.most) (h1 : ascB o.s.data.toList = true) :
    Calls Tryd.prog 35 #[o.val] w fun e w' => e = .returned (.int .i64 (sizeO o)) ∧ Below w.heap.size w w' := by
  obtain ⟨kind, num, int, Ab, n, cb, b, t, most⟩ := o
  simp only at hk
  subst hk
  have hnum := ok.num
  have hi := ok.int
  have hi0 := ok.int0
  have hn := ok.n
  have hbl := ok.rd.len
  have hs := ok.s
  simp only at hnum hi hi0 hn hbl hs
  have hz : sizeO ⟨9, num, int, Ab, n, cb, b, t, most⟩ = ((numB t.size).length : Int) + (t.size : Int) := by simp only at h0 h1; simp [sizeO, okO, encO, h0, h1]
  rw [hz]
  clear hz
  simp only at h0 h1
  have ha := fun W => Lib.hid (ascii_any t W hs)
  rw [h1] at ha
  clear h1
  have hg := fun W => Lib.hid (groups_any t.size W (by omega))
  have hgl := numB_len64 t.size (by omega)
  have X := Lib.hid (Blk.new w (OpV.cells ⟨9, num, int, Ab, n, cb, b, t, most⟩) 53)
  have HB := Lib.hid (below1 w (.cells (OpV.cells ⟨9, num, int, Ab, n, cb, b, t, most⟩) 53))
  clear ok
  unfold OpV.cells at X HB
  unfold OpV.val
  simp only at X HB ⊢
  go_enter Tryd.func35, Tryd.ntmps35
  go_wp2_with (go_at_call 102; refine (ha _).out.mono ?_; rintro e w' ⟨rfl, rfl⟩)
  go_quiet ((go_at_call 101; exact quiet_l (hg _).out))
  go_wp2
  go_ret
  exact ⟨rfl, below_drewN HB.out _⟩

set_option maxRecDepth 100000 in
theorem szo0 (w : World) (o : OpV) (hk : ∀ i : Nat, 1 ≤ i → i ≤ 9 → o.kind ≠ (i : Int)) :
    Calls Tryd.prog 35 #[o.val] w fun e w' => e = .returned (.int .i64 (sizeO o)) ∧ Below w.heap.size w w' := by
  obtain ⟨kind, num, int, Ab, n, cb, b, t, most⟩ := o
  simp only at hk
  have e1 : (kind == 1) = false := by simpa using hk 1 (by decide) (by decide)
  have e2 : (kind == 2) = false := by simpa using hk 2 (by decide) (by decide)
  have e3 : (kind == 3) = false := by simpa using hk 3 (by decide) (by decide)
  have e4 : (kind == 4) = false := by simpa using hk 4 (by decide) (by decide)
  have e5 : (kind == 5) = false := by simpa using hk 5 (by decide) (by decide)
  have e6 : (kind == 6) = false := by simpa using hk 6 (by decide) (by decide)
  have e7 : (kind == 7) = false := by simpa using hk 7 (by decide) (by decide)
  have e8 : (kind == 8) = false := by simpa using hk 8 (by decide) (by decide)
  have e9 : (kind == 9) = false := by simpa using hk 9 (by decide) (by decide)
  have hz : sizeO ⟨kind, num, int, Ab, n, cb, b, t, most⟩ = 0 := by
    have d1 := hk 1 (by decide) (by decide)
    have d2 := hk 2 (by decide) (by decide)
    have d3 := hk 3 (by decide) (by decide)
    have d4 := hk 4 (by decide) (by decide)
    have d5 := hk 5 (by decide) (by decide)
    have d6 := hk 6 (by decide) (by decide)
    have d7 := hk 7 (by decide) (by decide)
    have d8 := hk 8 (by decide) (by decide)
    have d9 := hk 9 (by decide) (by decide)
    simp only [Int.cast_ofNat_Int, Int.reduceNeg] at d1 d2 d3 d4 d5 d6 d7 d8 d9
    have d1' : ¬ kind = 1 := d1
    simp [sizeO, okO, encO, d1', d2, d3, d4, d5, d6, d7, d8, d9]
  rw [hz]
  clear hz
  have HB := Lib.hid (below1 w (.cells (OpV.cells ⟨kind, num, int, Ab, n, cb, b, t, most⟩) 53))
  clear hk
  unfold OpV.cells at HB
  unfold OpV.val
  simp only at HB ⊢
  go_enter Tryd.func35, Tryd.ntmps35
  go_wp2
  go_ret
  exact ⟨rfl, HB.out⟩

theorem size_op (w : World) (o : OpV) (ok : OpOk w o) :
    Calls Tryd.prog 35 #[o.val] w fun e w' => e = .returned (.int .i64 (sizeO o)) ∧ Below w.heap.size w w' := by
  by_cases h1 : o.kind = 1
  · exact szo1 w o ok h1
  by_cases h2 : o.kind = 2
  · exact szo2 w o ok h2
  by_cases h3 : o.kind = 3
  · exact szo3 w o ok h3
  by_cases h4 : o.kind = 4
  · exact szo4 w o ok h4
  by_cases h5 : o.kind = 5
  · exact szo5 w o ok h5
  by_cases h6 : o.kind = 6
  · exact szo6 w o ok h6
  by_cases h7 : o.kind = 7
  · rcases Int.lt_or_le o.int 0 with h | h
    · exact szo7a w o ok h7 h
    · rcases Int.lt_or_le o.most o.int with g | g
      · exact szo7b w o ok h7 h g
      · exact szo7c w o ok h7 h g
  by_cases h8 : o.kind = 8
  · rcases Int.lt_or_le o.most (o.b.length : Int) with h | h
    · exact szo8a w o ok h8 h
    · exact szo8b w o ok h8 h
  by_cases h9 : o.kind = 9
  · rcases Int.lt_or_le o.most (o.s.size : Int) with h | h
    · exact szo9a w o ok h9 h
    · cases ha : ascB o.s.data.toList
      · exact szo9b w o ok h9 h ha
      · exact szo9c w o ok h9 h ha
  exact szo0 w o fun i hi hj => by
    have : i = 1 ∨ i = 2 ∨ i = 3 ∨ i = 4 ∨ i = 5 ∨ i = 6 ∨ i = 7 ∨ i = 8 ∨ i = 9 := by omega
    rcases this with rfl | rfl | rfl | rfl | rfl | rfl | rfl | rfl | rfl <;> assumption
end Go.Proofs.YtbhmnkpbaeemeaaDoor
