import Derived.Test.YtbhmnkpbaeemeaaDoorK1
import Derived.Laws.OwnMore
set_option linter.unusedVariables false
set_option linter.unusedSimpArgs false
/-! # W13 -/
namespace Go.Proofs.YtbhmnkpbaeemeaaDoor
open Go.RowKit

/-! ### The reader -/
structure RdS where
  made : Bool
  bad : Bool
  code : Int
  at_ : Int
  buf : List UInt8
  off : Nat

structure Rdr (w : World) (p : Nat) (A : Option Addr) (c : Nat) (s : RdS) : Prop where
  blk : Blk w p #[.bool s.made, .bool s.bad, .int .i64 s.code, .int .i64 s.at_, .slice A s.buf.length c, .int .i64 (s.off : Int)] 64
  row : Ob w 0 A s.buf.length c s.buf
  ne : ¬ inA A p
  le : s.off ≤ s.buf.length
  small : s.buf.length ≤ 1000000000

section
variable {w w' : World} {p : Nat} {A : Option Addr} {c : Nat} {s : RdS}
theorem Rdr.chg {F : Nat → Prop} (h : Rdr w p A c s) (hc : Chg w w' F) (hF : ∀ k, wrF p A k → ¬ F k) : Rdr w' p A c s :=
  ⟨h.blk.chg hc (hF _ (.inl rfl)), h.row.chg hc fun k hk => hF k (.inr hk), h.ne, h.le, h.small⟩
theorem Rdr.below (h : Rdr w p A c s) (hc : Below w.heap.size w w') : Rdr w' p A c s := h.chg (Chg.ofBelow hc fun _ => False) fun _ _ => id
theorem Rdr.lt (h : Rdr w p A c s) {k : Nat} (hk : wrF p A k) : k < w.heap.size := by
  rcases hk with rfl | hk
  · exact h.blk.lt
  · exact (h.row.lt hk).2
theorem Rdr.drewN (h : Rdr w p A c s) (n : Nat) : Rdr (w.drewN n) p A c s := ⟨h.blk, h.row, h.ne, h.le, h.small⟩
theorem Rdr.drew (h : Rdr w p A c s) : Rdr w.drew p A c s := ⟨h.blk, h.row, h.ne, h.le, h.small⟩

theorem Rdr.failed (h : Rdr w p A c s) (code at_ : Int) :
    Rdr (((w.setCell ⟨p, 1, none⟩ (.bool true)).setCell ⟨p, 2, none⟩ (.int .i64 code)).setCell ⟨p, 3, none⟩ (.int .i64 at_)) p A c { s with bad := true, code := code, at_ := at_ } := by
  have hc : Chg w (((w.setCell ⟨p, 1, none⟩ (.bool true)).setCell ⟨p, 2, none⟩ (.int .i64 code)).setCell ⟨p, 3, none⟩ (.int .i64 at_)) (· = p) := by
    refine Chg.set (Chg.set (Chg.set (Chg.refl _ _) ?_ _) ?_ _) ?_ _ <;> exact fun _ => rfl
  refine ⟨?_, h.row.chg hc (fun k hk e => h.ne (by subst e; exact hk)), h.ne, h.le, h.small⟩
  exact ((h.blk.set 1 (.bool true)).set 2 (.int .i64 code)).set 3 (.int .i64 at_)
theorem Rdr.moved (h : Rdr w p A c s) (o : Nat) (ho : o ≤ s.buf.length) : Rdr (w.setCell ⟨p, 5, none⟩ (.int .i64 (o : Int))) p A c { s with off := o } := by
  have hc : Chg w (w.setCell ⟨p, 5, none⟩ (.int .i64 (o : Int))) (· = p) := by
    refine Chg.set (Chg.refl _ _) ?_ _
    exact fun _ => rfl
  refine ⟨?_, h.row.chg hc (fun k hk e => h.ne (by subst e; exact hk)), h.ne, ho, h.small⟩
  exact h.blk.set 5 _
end

theorem chg_failed1 (w : World) (p : Nat) (code at_ : Int) :
    Chg w (((w.setCell ⟨p, 1, none⟩ (.bool true)).setCell ⟨p, 2, none⟩ (.int .i64 code)).setCell ⟨p, 3, none⟩ (.int .i64 at_)) (· = p) := by
  refine Chg.set (Chg.set (Chg.set (Chg.refl _ _) ?_ _) ?_ _) ?_ _ <;> exact fun _ => rfl

theorem Ob.form {w : World} {B : Nat} {A : Option Addr} {n c : Nat} {xs : List UInt8} (h : Ob w B A n c xs) (h0 : 0 < n) : ∃ g, A = some ⟨g, 0, none⟩ ∧ B ≤ g := by
  obtain ⟨h1, h2⟩ := h
  rcases h2 with ⟨_, h2⟩ | ⟨g, cap, cur, e, hg, r⟩
  · omega
  · cases e
    exact ⟨g, rfl, hg⟩

/-- A piece of what reads as bytes. -/
theorem Rd.piece {w : World} {b o n c : Nat} {xs : List UInt8} (h : Rd w (some ⟨b, o, none⟩) n c xs) (i j : Nat) (hij : i ≤ j) (hj : j ≤ n) : Rd w (some ⟨b, o + i, none⟩) (j - i) (c - i) ((xs.drop i).take (j - i)) :=
  ⟨by have := h.len; simp; omega, by have := h.le; omega, by have := h.max; omega, (fun e => by cases e), fun k hk => by
    have hk' : k < j - i := by simp at hk; omega
    obtain ⟨b', o', e, hc⟩ := h.at_ (i + k) (by have := h.len; omega)
    cases e
    refine ⟨b, o + i, rfl, ?_⟩
    rw [Nat.add_assoc, hc]
    simp [List.getElem_take, List.getElem_drop]⟩

def RdS.stuck (s : RdS) : Bool := !s.made || s.bad
def RdS.short (s : RdS) : RdS := { s with bad := true, code := 20, at_ := s.off }
def RdS.step (s : RdS) (n : Nat) : RdS := { s with off := s.off + n }

theorem take_stuck (w : World) (p : Nat) (A : Option Addr) (c : Nat) (s : RdS) (h : Rdr w p A c s) (n : Int) (hs : s.stuck = true) :
    Calls Tryd.prog 166 #[.pointer (some ⟨p, 0, none⟩), .int .i64 n] w fun e w' => e = .returned (.slice none 0 0) ∧ w = w' := by
  have S := stuck_any w p s.made s.bad ((h.blk.cell 0).trans rfl) ((h.blk.cell 1).trans rfl)
  rw [show (!s.made || s.bad) = true from hs] at S
  have HS := Lib.hid S; clear S h hs
  go_enter Tryd.func166, Tryd.ntmps166
  go_wp2_with (go_at_call 132; refine HS.out.mono ?_; rintro e w' ⟨rfl, rfl⟩)
  go_ret
  exact ⟨rfl, rfl⟩

theorem take_short (w : World) (p : Nat) (A : Option Addr) (c : Nat) (s : RdS) (h : Rdr w p A c s) (n : Nat) (hs : s.stuck = false) (hn : s.buf.length < s.off + n) (hm : n ≤ 1000000000) :
    Calls Tryd.prog 166 #[.pointer (some ⟨p, 0, none⟩), .int .i64 (n : Int)] w fun e w' => e = .returned (.slice none 0 0) ∧ Rdr w' p A c s.short ∧ Chg w w' (· = p) := by
  have S := stuck_any w p s.made s.bad ((h.blk.cell 0).trans rfl) ((h.blk.cell 1).trans rfl)
  rw [show (!s.made || s.bad) = false from hs] at S
  have HS := Lib.hid S; clear S
  have hbad : s.bad = false := by unfold RdS.stuck at hs; simp at hs; exact hs.2
  have c4 : w.cell? ⟨p, 4, none⟩ = some (.slice A s.buf.length c) := h.blk.cell 4
  have c5 : w.cell? ⟨p, 5, none⟩ = some (.int .i64 (s.off : Int)) := h.blk.cell 5
  have hle := h.le
  have hsm := h.small
  have FF : ∀ k, Hid (Calls Tryd.prog 133 #[.pointer (some ⟨p, 0, none⟩), .int .i64 20, .int .i64 (s.off : Int)] (w.drewN k) fun e w' => e = .returned (.tuple #[]) ∧
      w' = (((w.drewN k).setCell ⟨p, 1, none⟩ (.bool true)).setCell ⟨p, 2, none⟩ (.int .i64 20)).setCell ⟨p, 3, none⟩ (.int .i64 (s.off : Int))) := fun k =>
    fail_good (w.drewN k) p 20 s.off _ _ (h.blk.drewN k) (by show some (Value.bool s.bad) = _; rw [hbad]) (by show 3 < 6; omega)
  have Hb := Lib.hid hbad; clear hbad hs
  have H := Lib.hid h; clear h
  go_enter Tryd.func166, Tryd.ntmps166
  go_wp2_with (go_at_call 132; refine HS.out.mono ?_; rintro e w' ⟨rfl, rfl⟩)
  go_quiet (fail)
  go_wp2
  go_region_with (go_at_call 133; refine (FF (nq + 1)).out.mono ?_; rintro e w' ⟨rfl, rfl⟩)
  all_goals
    go_wp2
    go_ret
    exact ⟨rfl, (H.out.drewN (nq + 1)).failed 20 _, ((Chg.refl _ _).drewN (nq + 1)).trans' (chg_failed1 _ p 20 _)⟩

theorem take_good (w : World) (p : Nat) (A : Option Addr) (c : Nat) (s : RdS) (h : Rdr w p A c s) (n : Nat) (hs : s.stuck = false) (hn : s.off + n ≤ s.buf.length) (h0 : 0 < n) :
    Calls Tryd.prog 166 #[.pointer (some ⟨p, 0, none⟩), .int .i64 (n : Int)] w fun e w' => ∃ A' c', e = .returned (.slice A' n c') ∧ Rdr w' p A c (s.step n) ∧ Rd w' A' n c' ((s.buf.drop s.off).take n) ∧ Chg w w' (· = p) := by
  have S := stuck_any w p s.made s.bad ((h.blk.cell 0).trans rfl) ((h.blk.cell 1).trans rfl)
  rw [show (!s.made || s.bad) = false from hs] at S
  have HS := Lib.hid S; clear S
  obtain ⟨g, rfl, _⟩ := h.row.form (by omega)
  have hcap := h.row.rd.le
  have c4 : w.cell? ⟨p, 4, none⟩ = some (.slice (some ⟨g, 0, none⟩) s.buf.length c) := h.blk.cell 4
  have c5 : w.cell? ⟨p, 5, none⟩ = some (.int .i64 (s.off : Int)) := h.blk.cell 5
  have f5 := h.blk.frozen 5
  have hle := h.le
  have hsm := h.small
  have fin : ∀ q : Nat, Rdr ((w.drewN q).setCell ⟨p, 5, none⟩ (.int .i64 ((s.off : Int) + (n : Int)))) p (some ⟨g, 0, none⟩) c (s.step n) := fun q => by
    have := (h.drewN q).moved (s.off + n) hn
    rw [Int.natCast_add] at this
    exact this
  have Fin := Lib.hid fin; clear fin hs
  have H := Lib.hid h; clear h
  go_enter Tryd.func166, Tryd.ntmps166
  go_wp2_with (go_at_call 132; refine HS.out.mono ?_; rintro e w' ⟨rfl, rfl⟩)
  go_quiet (fail)
  go_wp2
  go_quiet (fail)
  go_wp2
  go_ret
  have hch : ∀ a b : Nat, Chg w (((w.drewN a).setCell ⟨p, 5, none⟩ (.int .i64 ((s.off : Int) + (n : Int)))).drewN b) (· = p) := fun a b => by
    refine Chg.drewN (Chg.set ((Chg.refl _ _).drewN a) ?_ _) b
    exact fun _ => rfl
  refine ⟨some ⟨g, s.off, none⟩, c - s.off, ?_, (Fin.out _).drewN _, ?_, hch _ _⟩
  · show Ending.returned (.slice _ (s.off + n - s.off) _) = _
    rw [Nat.add_sub_cancel_left]
  · have hp := H.out.row.rd.piece s.off (s.off + n) (by omega) hn
    rw [Nat.add_sub_cancel_left, Nat.zero_add] at hp
    refine hp.chg (hch _ _) fun _ k hk e => H.out.ne ?_
    subst e
    rw [inA_some] at hk
    rw [hk]
    exact inA_some.2 rfl

/-! ### numbers of fixed width -/
def beV (l : List UInt8) : Nat := l.foldl (fun v x => v * 256 + x.toNat) 0
theorem beV_snoc (l : List UInt8) (x : UInt8) : beV (l ++ [x]) = beV l * 256 + x.toNat := by simp [beV]
theorem beV_lt' (l : List UInt8) : ∀ a : Nat, l.foldl (fun v x => v * 256 + x.toNat) a < (a + 1) * 256 ^ l.length := by
  induction l with
  | nil => intro a; simp
  | cons x l ih =>
    intro a
    have h1 := ih (a * 256 + x.toNat)
    have hx := x.toNat_lt
    simp only [List.foldl_cons, List.length_cons, Nat.pow_succ]
    refine Nat.lt_of_lt_of_le h1 ?_
    rw [show (a + 1) * (256 ^ l.length * 256) = ((a + 1) * 256) * 256 ^ l.length by rw [Nat.mul_comm (256 ^ l.length), ← Nat.mul_assoc]]
    exact Nat.mul_le_mul_right _ (by omega)
theorem beV_lt (l : List UInt8) : beV l < 256 ^ l.length := by
  have := beV_lt' l 0
  simpa [beV] using this

theorem orByte (v x : Nat) (hv : v < 72057594037927936) (hx : x < 256) : bits .or .u64 ((v : Int) * 256) (x : Int) = ((v * 256 + x : Nat) : Int) := by
  rw [u64_or _ _ (by omega) (by omega) (by omega) (by omega), show ((v : Int) * 256).toNat = v * 256 by omega, Int.toNat_natCast, nat_join 8 (v * 256) x (by omega) (by omega)]

/-- What sum gives, and the reader behind it. -/
def RdS.sumV (s : RdS) (n : Nat) : Nat := if s.stuck then 0 else if s.buf.length < s.off + n then 0 else beV ((s.buf.drop s.off).take n)
def RdS.sumS (s : RdS) (n : Nat) : RdS := if s.stuck then s else if s.buf.length < s.off + n then s.short else s.step n

theorem sum_none (P : Program) (w : World) : True := trivial

theorem take_any (w : World) (p : Nat) (A : Option Addr) (c : Nat) (s : RdS) (h : Rdr w p A c s) (n : Nat) (h0 : 0 < n) (hm : n ≤ 1000000000) :
    Calls Tryd.prog 166 #[.pointer (some ⟨p, 0, none⟩), .int .i64 (n : Int)] w fun e w' => ∃ A' m c' ys, e = .returned (.slice A' m c') ∧ Rdr w' p A c (s.sumS n) ∧ Rd w' A' m c' ys ∧ beV ys = s.sumV n ∧ m ≤ n ∧ Chg w w' (· = p) := by
  unfold RdS.sumS RdS.sumV
  by_cases hs : s.stuck = true
  · rw [if_pos hs, if_pos hs]
    refine (take_stuck w p A c s h n hs).mono ?_
    rintro e w' ⟨rfl, rfl⟩
    exact ⟨none, 0, 0, [], rfl, h, Rd.nilRd w, rfl, by omega, Chg.refl _ _⟩
  · rw [if_neg hs, if_neg hs]
    have hs' : s.stuck = false := by simpa using hs
    by_cases hl : s.buf.length < s.off + n
    · rw [if_pos hl, if_pos hl]
      refine (take_short w p A c s h n hs' hl hm).mono ?_
      rintro e w' ⟨rfl, h1, h2⟩
      exact ⟨none, 0, 0, [], rfl, h1, Rd.nilRd w', rfl, by omega, h2⟩
    · rw [if_neg hl, if_neg hl]
      refine (take_good w p A c s h n hs' (by omega) h0).mono ?_
      rintro e w' ⟨A', c', rfl, h1, h2, h3⟩
      exact ⟨A', n, c', _, rfl, h1, h2, rfl, Nat.le_refl _, h3⟩

set_option maxRecDepth 100000 in
theorem sum_any (w : World) (p : Nat) (A : Option Addr) (c : Nat) (s : RdS) (h : Rdr w p A c s) (n : Nat) (h0 : 0 < n) (hn : n ≤ 8) :
    Calls Tryd.prog 134 #[.pointer (some ⟨p, 0, none⟩), .int .i64 (n : Int)] w fun e w' => e = .returned (.int .u64 (s.sumV n : Int)) ∧ Rdr w' p A c (s.sumS n) ∧ Chg w w' (· = p) := by
  have HT := Lib.hid (take_any w p A c s h n h0 (by omega))
  clear h
  go_enter Tryd.func134, Tryd.ntmps134
  go_wp2_with (go_at_call 166; refine HT.out.mono ?_; rintro e w1 ⟨A1, m, c1, ys, rfl, hr, hy, hv, hm, hch⟩)
  have HR := Lib.hid hr
  have HC := Lib.hid hch
  have HV := Lib.hid hv
  have hl := hy.len
  have hle := hy.le
  have hmx := hy.max
  have ha := hy.at_
  subst hl
  have Ha := Lib.hid ha
  clear hr hch hv ha hy
  go_loop [5, 12] (fun v i => ∃ k V : Nat, k ≤ ys.length ∧ i = .int .i64 k ∧ v = .int .u64 (V : Int) ∧ Hid (V = beV (ys.take k))) (fun _ i => ys.length - (intOf i).toNat)
  case atStart => exact ⟨0, 0, Nat.zero_le _, rfl, rfl, rfl⟩
  case round =>
    obtain ⟨k, V, hk, rfl, rfl, HVk⟩ := hrel
    by_cases hlt : k < ys.length
    · obtain ⟨b, o, rfl, hc⟩ := Ha.out k hlt
      have hX : (ys[k]'hlt).toNat < 256 := (ys[k]'hlt).toNat_lt
      have hV : V < 72057594037927936 := by
        have h1 := beV_lt (ys.take k)
        rw [List.length_take, Nat.min_eq_left hk, ← HVk.out] at h1
        have h2 : 256 ^ k ≤ 256 ^ 7 := Nat.pow_le_pow_right (by omega) (by omega)
        have h3 : (256 : Nat) ^ 7 = 72057594037927936 := by decide
        omega
      have hor := orByte V (ys[k]'hlt).toNat hV hX
      go_wp2
      go_round
      case rel => exact ⟨k + 1, V * 256 + (ys[k]'hlt).toNat, by omega, by go_num, rfl, by show _ = _; rw [take_snoc hlt, beV_snoc, HVk.out]⟩
      case measure => simp [intOf]; omega
    · go_wp2
      go_ret
      have e1 : V = s.sumV n := by rw [HVk.out, List.take_of_length_le (by omega)]; exact HV.out
      subst e1
      exact ⟨rfl, HR.out, HC.out⟩
end Go.Proofs.YtbhmnkpbaeemeaaDoor

/-! # W14 -/
namespace Go.Proofs.YtbhmnkpbaeemeaaDoor
open Go.RowKit

theorem RdS.sumV_lt (s : RdS) (n : Nat) : s.sumV n < 256 ^ n := by
  have h0 : 0 < 256 ^ n := Nat.pow_pos (by omega)
  unfold RdS.sumV
  split
  · exact h0
  · split
    · exact h0
    · refine Nat.lt_of_lt_of_le (beV_lt _) (Nat.pow_le_pow_right (by omega) ?_)
      rw [List.length_take]
      exact Nat.min_le_left _ _

set_option maxRecDepth 100000 in
theorem rU8_any (w : World) (p : Nat) (A : Option Addr) (c : Nat) (s : RdS) (h : Rdr w p A c s) :
    Calls Tryd.prog 69 #[.pointer (some ⟨p, 0, none⟩)] w fun e w' => e = .returned (.int .u8 (s.sumV 1 : Int)) ∧ Rdr w' p A c (s.sumS 1) ∧ Chg w w' (· = p) := by
  have HT := Lib.hid (sum_any w p A c s h 1 (by omega) (by omega))
  have hV : s.sumV 1 < 256 := s.sumV_lt 1
  generalize s.sumV 1 = V at *
  clear h
  go_enter Tryd.func69, Tryd.ntmps69
  go_wp2_with (go_at_call 134; refine HT.out.mono ?_; rintro e w1 ⟨rfl, hr, hch⟩)
  go_ret
  exact ⟨rfl, hr, hch⟩

set_option maxRecDepth 100000 in
theorem rU16_any (w : World) (p : Nat) (A : Option Addr) (c : Nat) (s : RdS) (h : Rdr w p A c s) :
    Calls Tryd.prog 68 #[.pointer (some ⟨p, 0, none⟩)] w fun e w' => e = .returned (.int .u16 (s.sumV 2 : Int)) ∧ Rdr w' p A c (s.sumS 2) ∧ Chg w w' (· = p) := by
  have HT := Lib.hid (sum_any w p A c s h 2 (by omega) (by omega))
  have hV : s.sumV 2 < 65536 := s.sumV_lt 2
  generalize s.sumV 2 = V at *
  clear h
  go_enter Tryd.func68, Tryd.ntmps68
  go_wp2_with (go_at_call 134; refine HT.out.mono ?_; rintro e w1 ⟨rfl, hr, hch⟩)
  go_ret
  exact ⟨rfl, hr, hch⟩

set_option maxRecDepth 100000 in
theorem rU32_any (w : World) (p : Nat) (A : Option Addr) (c : Nat) (s : RdS) (h : Rdr w p A c s) :
    Calls Tryd.prog 70 #[.pointer (some ⟨p, 0, none⟩)] w fun e w' => e = .returned (.int .u32 (s.sumV 4 : Int)) ∧ Rdr w' p A c (s.sumS 4) ∧ Chg w w' (· = p) := by
  have HT := Lib.hid (sum_any w p A c s h 4 (by omega) (by omega))
  have hV : s.sumV 4 < 4294967296 := s.sumV_lt 4
  generalize s.sumV 4 = V at *
  clear h
  go_enter Tryd.func70, Tryd.ntmps70
  go_wp2_with (go_at_call 134; refine HT.out.mono ?_; rintro e w1 ⟨rfl, hr, hch⟩)
  go_ret
  exact ⟨rfl, hr, hch⟩

set_option maxRecDepth 100000 in
theorem rU64_any (w : World) (p : Nat) (A : Option Addr) (c : Nat) (s : RdS) (h : Rdr w p A c s) :
    Calls Tryd.prog 103 #[.pointer (some ⟨p, 0, none⟩)] w fun e w' => e = .returned (.int .u64 (s.sumV 8 : Int)) ∧ Rdr w' p A c (s.sumS 8) ∧ Chg w w' (· = p) := by
  have HT := Lib.hid (sum_any w p A c s h 8 (by omega) (by omega))
  have hV : s.sumV 8 < 18446744073709551616 := s.sumV_lt 8
  generalize s.sumV 8 = V at *
  clear h
  go_enter Tryd.func103, Tryd.ntmps103
  go_wp2_with (go_at_call 134; refine HT.out.mono ?_; rintro e w1 ⟨rfl, hr, hch⟩)
  go_ret
  exact ⟨rfl, hr, hch⟩
end Go.Proofs.YtbhmnkpbaeemeaaDoor

/-! # W15 -/
namespace Go.Proofs.YtbhmnkpbaeemeaaDoor
open Go.RowKit

/-! ### What Unframe says of any bytes -/
def hd2 (b : List UInt8) : Nat := beV (b.take 2)
def ver (b : List UInt8) : Nat := beV ((b.drop 2).take 1)
def kd (b : List UInt8) : Nat := beV ((b.drop 3).take 1)
def sz (b : List UInt8) : Nat := beV ((b.drop 4).take 4)
def sumOk (b : List UInt8) : Prop := (b.drop (8 + sz b)).take 4 = lowR (Crc.sum (b.take (8 + sz b))) 4
def bodyOf (b : List UInt8) : List UInt8 := (b.drop 8).take (b.length - 12)

/-- Why bytes are no datagram: the number and the place. -/
inductive UnfErr (b : List UInt8) : Nat → Nat → Prop
  | long (h : 65507 < b.length) : UnfErr b 21 65507
  | short (h : b.length < 12) : UnfErr b 20 b.length
  | magic (h1 : b.length ≤ 65507) (h2 : 12 ≤ b.length) (h3 : hd2 b ≠ 20813) : UnfErr b 22 0
  | version (h1 : b.length ≤ 65507) (h2 : 12 ≤ b.length) (h3 : hd2 b = 20813) (h4 : ver b ≠ 1) : UnfErr b 23 2
  | less (h1 : b.length ≤ 65507) (h2 : 12 ≤ b.length) (h3 : hd2 b = 20813) (h4 : ver b = 1) (h5 : b.length < 12 + sz b) : UnfErr b 20 b.length
  | more (h1 : b.length ≤ 65507) (h2 : 12 ≤ b.length) (h3 : hd2 b = 20813) (h4 : ver b = 1) (h5 : 12 + sz b < b.length) : UnfErr b 28 (12 + sz b)
  | sum (h1 : b.length ≤ 65507) (h2 : 12 ≤ b.length) (h3 : hd2 b = 20813) (h4 : ver b = 1) (h5 : b.length = 12 + sz b) (h6 : ¬ sumOk b) : UnfErr b 24 (8 + sz b)
structure UnfOk (b : List UInt8) : Prop where
  max : b.length ≤ 65507
  min : 12 ≤ b.length
  magic : hd2 b = 20813
  version : ver b = 1
  size : b.length = 12 + sz b
  sum : sumOk b

def rs (b : List UInt8) (o : Nat) : RdS := ⟨true, false, 0, 0, b.take 8, o⟩
theorem rs_sumV (b : List UInt8) (o n : Nat) (h : o + n ≤ 8) (hb : 8 ≤ b.length) : (rs b o).sumV n = beV ((b.drop o).take n) := by
  unfold RdS.sumV
  rw [if_neg (by simp [rs, RdS.stuck]), if_neg (by simp only [rs, List.length_take]; omega)]
  simp only [rs]
  rw [List.drop_take, List.take_take, Nat.min_eq_left (by omega)]
theorem rs_sumS (b : List UInt8) (o n : Nat) (h : o + n ≤ 8) (hb : 8 ≤ b.length) : (rs b o).sumS n = rs b (o + n) := by
  unfold RdS.sumS
  rw [if_neg (by simp [rs, RdS.stuck]), if_neg (by simp only [rs, List.length_take]; omega)]
  rfl

theorem kd_lt (b : List UInt8) : kd b < 256 := by
  have := beV_lt ((b.drop 3).take 1)
  refine Nat.lt_of_lt_of_le this (Nat.le_trans (Nat.pow_le_pow_right (n := 256) (by omega) (i := _) (j := 1) ?_) (by omega))
  rw [List.length_take]
  exact Nat.min_le_left _ _
theorem sz_lt (b : List UInt8) : sz b < 4294967296 := by
  have := beV_lt ((b.drop 4).take 4)
  refine Nat.lt_of_lt_of_le this (Nat.le_trans (Nat.pow_le_pow_right (n := 256) (by omega) (i := _) (j := 4) ?_) (by omega))
  rw [List.length_take]
  exact Nat.min_le_left _ _

/-- Unframe of the program at bytes that are none: the error. -/
def UnfBad (w w' : World) (e : Ending) (b : List UInt8) : Prop :=
  ∃ code at_ p, UnfErr b code at_ ∧ e = .returned (.tuple #[.int .u8 0, .slice none 0 0, .iface 129 (.pointer (some ⟨p, 0, none⟩))]) ∧ ErrAt w' p (code : Nat) (at_ : Nat) ∧ w.heap.size ≤ p ∧ Below w.heap.size w w'
def UnfGood (w w' : World) (e : Ending) (b : List UInt8) : Prop :=
  ∃ A' m, UnfOk b ∧ e = .returned (.tuple #[.int .u8 (kd b : Int), .slice A' m m, .nilIface]) ∧ Ob w' w.heap.size A' m m (bodyOf b) ∧ Below w.heap.size w w'

set_option maxRecDepth 100000 in
theorem wunframe_size (w : World) (A : Option Addr) (n c : Nat) (b : List UInt8) (hx : Rd w A n c b) (hn : n ≤ 1000000000) (hs : 65507 < n ∨ n < 12) :
    Calls Tryd.prog 23 #[.slice A n c] w fun e w' => UnfBad w w' e b := by
  have hl := hx.len
  subst hl
  rcases hs with hs | hs
  · have hb : decide ((65507 : Int) < (b.length : Int)) = true := by simp; omega
    have HE := Lib.hid (UnfErr.long hs)
    clear hs
    go_enter Tryd.func23, Tryd.ntmps23
    go_wp2_with (go_at_call 61; refine (fault_any _ _ _).mono ?_; rintro e w' ⟨rfl, rfl⟩)
    go_ret3
    exact ⟨_, _, _, HE.out, rfl, Blk.new _ _ _, Nat.le_refl _, by go_grown⟩
  · have hb : decide ((65507 : Int) < (b.length : Int)) = false := by simp; omega
    have hb2 : decide ((b.length : Int) < 12) = true := by simp; omega
    have HE := Lib.hid (UnfErr.short hs)
    clear hs
    go_enter Tryd.func23, Tryd.ntmps23
    go_wp2_with (go_at_call 61; refine (fault_any _ _ _).mono ?_; rintro e w' ⟨rfl, rfl⟩)
    go_ret3
    exact ⟨_, _, _, HE.out, rfl, Blk.new _ _ _, Nat.le_refl _, by go_grown⟩
end Go.Proofs.YtbhmnkpbaeemeaaDoor

/-! # W16 -/
namespace Go.Proofs.YtbhmnkpbaeemeaaDoor
open Go.RowKit

theorem Rd.pre {w : World} {A : Option Addr} {n c : Nat} {xs : List UInt8} (h : Rd w A n c xs) (k : Nat) (hk : k ≤ n) : Rd w A k c (xs.take k) :=
  ⟨by rw [List.length_take, h.len]; omega, by have := h.le; omega, h.max, h.nil, fun i hi => by
    have hi' : i < xs.length := by rw [List.length_take] at hi; omega
    obtain ⟨b, o, e, hc⟩ := h.at_ i hi'
    exact ⟨b, o, e, by rw [hc, List.getElem_take]⟩⟩

theorem rdr_new {w : World} {p : Nat} {A : Option Addr} {n c : Nat} {xs : List UInt8} {B : Nat} (ho : Ob w B A n c xs)
    (hb : Blk w p #[.bool true, .bool false, .int .i64 0, .int .i64 0, .slice A n c, .int .i64 0] 64) (hne : ¬ inA A p) (hm : n ≤ 1000000000) : Rdr w p A c ⟨true, false, 0, 0, xs, 0⟩ := by
  have hl := ho.rd.len
  subst hl
  exact ⟨hb, ho.mono (Nat.zero_le _), hne, Nat.zero_le _, hm⟩

section
variable {w : World} {p : Nat} {A : Option Addr} {c : Nat} {b : List UInt8}
theorem rsU16 (h : Rdr w p A c (rs b 0)) (hb : 8 ≤ b.length) :
    Calls Tryd.prog 68 #[.pointer (some ⟨p, 0, none⟩)] w fun e w' => e = .returned (.int .u16 (hd2 b : Int)) ∧ Rdr w' p A c (rs b 2) ∧ Chg w w' (· = p) := by
  have := rU16_any w p A c _ h
  rw [rs_sumV b 0 2 (by omega) hb, rs_sumS b 0 2 (by omega) hb] at this
  exact this
theorem rsVer (h : Rdr w p A c (rs b 2)) (hb : 8 ≤ b.length) :
    Calls Tryd.prog 69 #[.pointer (some ⟨p, 0, none⟩)] w fun e w' => e = .returned (.int .u8 (ver b : Int)) ∧ Rdr w' p A c (rs b 3) ∧ Chg w w' (· = p) := by
  have := rU8_any w p A c _ h
  rw [rs_sumV b 2 1 (by omega) hb, rs_sumS b 2 1 (by omega) hb] at this
  exact this
theorem rsKd (h : Rdr w p A c (rs b 3)) (hb : 8 ≤ b.length) :
    Calls Tryd.prog 69 #[.pointer (some ⟨p, 0, none⟩)] w fun e w' => e = .returned (.int .u8 (kd b : Int)) ∧ Rdr w' p A c (rs b 4) ∧ Chg w w' (· = p) := by
  have := rU8_any w p A c _ h
  rw [rs_sumV b 3 1 (by omega) hb, rs_sumS b 3 1 (by omega) hb] at this
  exact this
theorem rsSz (h : Rdr w p A c (rs b 4)) (hb : 8 ≤ b.length) :
    Calls Tryd.prog 70 #[.pointer (some ⟨p, 0, none⟩)] w fun e w' => e = .returned (.int .u32 (sz b : Int)) ∧ Rdr w' p A c (rs b 8) ∧ Chg w w' (· = p) := by
  have := rU32_any w p A c _ h
  rw [rs_sumV b 4 4 (by omega) hb, rs_sumS b 4 4 (by omega) hb] at this
  exact this
end

theorem chg_new {w0 w w' : World} {p : Nat} (h : Below w0.heap.size w0 w) (hp : w0.heap.size ≤ p) (hc : Chg w w' (· = p)) : Below w0.heap.size w0 w' :=
  h.trans (hc.below h.size fun i hi e => by omega)

set_option maxRecDepth 100000 in
set_option maxHeartbeats 800000 in
theorem wunframe_main (w : World) (A : Option Addr) (n c : Nat) (b : List UInt8) (hx : Rd w A n c b) (h12 : 12 ≤ n) (hmax : n ≤ 65507) (hT : Tab w) :
    Calls Tryd.prog 23 #[.slice A n c] w fun e w' => UnfBad w w' e b ∨ UnfGood w w' e b := by
  have hl := hx.len
  have hcap := hx.le
  subst hl
  have hb1 : decide ((65507 : Int) < (b.length : Int)) = false := by simp; omega
  have hb2 : decide ((b.length : Int) < 12) = false := by simp; omega
  have hm : b.length ≤ 1000000000 := by omega
  have Hmax := Lib.hid hmax
  have HN := Lib.hid (newReader_any w A 8 c (b.take 8) (hx.pre 8 (by omega)) (by omega))
  have HX := Lib.hid hx
  have h8 : 8 ≤ b.length := by omega
  clear hmax hx
  have HTL := Lib.hid hT.lt
  go_enter Tryd.func23, Tryd.ntmps23
  go_wp2_with fail
  refine HN.out.mono ?_
  rintro e w1 ⟨p, Ar, rfl, hp, ho, hblk, hne, be1⟩
  have r1 : Rdr w1 p Ar 8 (rs b 0) := rdr_new ho hblk hne (by omega)
  clear ho hblk hne
  go_wp2_with fail
  refine (rsU16 r1 h8).mono ?_
  rintro e w2 ⟨rfl, r2, cg⟩
  have be2 := chg_new be1 hp cg
  clear cg r1 be1
  by_cases hmg : hd2 b = 20813
  case neg =>
    have hb3 : ((hd2 b : Int) != 20813) = true := by simpa using (by omega : ¬ (hd2 b : Int) = 20813)
    have HE := Lib.hid (UnfErr.magic Hmax.out h12 hmg)
    clear hmg
    go_wp2_with (go_at_call 61; refine (fault_any _ _ _).mono ?_; rintro e w' ⟨rfl, rfl⟩)
    go_ret3
    exact .inl ⟨_, _, _, HE.out, rfl, Blk.new _ _ _, be2.size, be2.alloc be2.size _⟩
  case pos =>
    have hb3 : ((hd2 b : Int) != 20813) = false := by rw [hmg]; rfl
    have Hmg := Lib.hid hmg
    clear hmg
    go_wp2_with fail
    refine (rsVer r2 h8).mono ?_
    rintro e w3 ⟨rfl, r3, cg⟩
    have be3 := chg_new be2 hp cg
    clear cg r2 be2
    by_cases hvr : ver b = 1
    case neg =>
      have hb4 : ((ver b : Int) != 1) = true := by simpa using (by omega : ¬ (ver b : Int) = 1)
      have HE := Lib.hid (UnfErr.version Hmax.out h12 Hmg.out hvr)
      clear hvr
      go_wp2_with (go_at_call 61; refine (fault_any _ _ _).mono ?_; rintro e w' ⟨rfl, rfl⟩)
      go_ret3
      exact .inl ⟨_, _, _, HE.out, rfl, Blk.new _ _ _, be3.size, be3.alloc be3.size _⟩
    case pos =>
      have hb4 : ((ver b : Int) != 1) = false := by rw [hvr]; rfl
      have Hvr := Lib.hid hvr
      clear hvr
      go_wp2_with fail
      refine (rsKd r3 h8).mono ?_
      rintro e w4 ⟨rfl, r4, cg⟩
      have be4 := chg_new be3 hp cg
      clear cg r3 be3
      go_wp2_with fail
      refine (rsSz r4 h8).mono ?_
      rintro e w5 ⟨rfl, r5, cg⟩
      have be5 := chg_new be4 hp cg
      clear cg r4 be4 r5
      have hsz := sz_lt b
      by_cases hlt : b.length < 12 + sz b
      case pos =>
        have hb5 : decide ((b.length : Int) - 12 < (sz b : Int)) = true := by simp; omega
        have HE := Lib.hid (UnfErr.less Hmax.out h12 Hmg.out Hvr.out hlt)
        clear hlt
        go_wp2_with (go_at_call 61; refine (fault_any _ _ _).mono ?_; rintro e w' ⟨rfl, rfl⟩)
        go_ret3
        exact .inl ⟨_, _, _, HE.out, rfl, Blk.new _ _ _, be5.size, be5.alloc be5.size _⟩
      case neg =>
        have hb5 : decide ((b.length : Int) - 12 < (sz b : Int)) = false := by simp; omega
        by_cases hgt : 12 + sz b < b.length
        case pos =>
          have hb6 : decide ((sz b : Int) < (b.length : Int) - 12) = true := by simp; omega
          have HE := Lib.hid (UnfErr.more Hmax.out h12 Hmg.out Hvr.out hgt)
          clear hlt hgt
          go_wp2_with (go_at_call 61; refine (fault_any _ _ _).mono ?_; rintro e w' ⟨rfl, rfl⟩)
          go_ret3
          refine .inl ⟨_, _, _, HE.out, rfl, ?_, be5.size, be5.alloc be5.size _⟩
          rw [Int.natCast_add]
          exact Blk.new _ _ _
        case neg =>
          have heq : b.length = 12 + sz b := by omega
          have hb6 : decide ((sz b : Int) < (b.length : Int) - 12) = false := by simp; omega
          have hle : 12 + sz b ≤ b.length := by omega
          have Heq := Lib.hid heq
          clear hlt hgt heq
          have hx5 := HX.out.below be5
          have HS := Lib.hid (Sum_any w5 A (8 + sz b) c (b.take (8 + sz b)) (hx5.pre _ (by omega)) (hT.below be5 HTL.out))
          have HSL := Lib.hid (Crc.sum_lt (b.take (8 + sz b)))
          have HX5 := Lib.hid hx5
          clear hx5
          generalize hS : Crc.sum (b.take (8 + sz b)) = S at *
          have HSd := Lib.hid hS; clear hS
          have HLW := Lib.hid (low_any (S : Int) w5 (by omega) (by have := HSL.out; omega))
          go_wp2_with first | (go_at_call 14; refine HS.out.mono ?_; rintro e w6 ⟨rfl, rfl⟩) | (go_at_call 66; refine HLW.out.mono ?_; rintro e w6 ⟨rfl, rfl⟩)
          obtain ⟨w6, hw6⟩ : ∃ w6, w6 = w5.alloc (.cells (bs (low4 (S : Int))).toArray 5) := ⟨_, rfl⟩
          rw [← hw6]
          have hL4 : low4 (S : Int) = lowR S 4 := low4_eq S HSL.out
          have bl : Blk w6 w5.heap.size (bs (lowR S 4)).toArray 5 := by rw [hw6, hL4]; exact Blk.new _ _ _
          have BL := Lib.hid bl
          have HB6 := Lib.hid (by rw [hw6]; exact be5.alloc be5.size _ : Below w.heap.size w w6)
          have hx6 : Rd w6 A b.length c b := HX.out.below HB6.out
          have HX6 := Lib.hid hx6
          clear hL4 bl hx6 hw6 be5 HLW HS HX5
          go_loop [68] (fun i => ∃ k : Nat, k ≤ 4 ∧ i = .int .i64 k ∧ Hid (((b.drop (8 + sz b)).take 4).take k = (lowR S 4).take k)) (fun i => 4 - (intOf i).toNat)
          case atStart => exact ⟨0, Nat.zero_le _, rfl, rfl⟩
          case round =>
            obtain ⟨k, hk, rfl, HK⟩ := hrel
            by_cases hlt : k < 4
            · have hlD : k < ((b.drop (8 + sz b)).take 4).length := by rw [List.length_take, List.length_drop]; omega
              have hlL : k < (lowR S 4).length := by simp [lowR]; omega
              have hlb : 8 + sz b + k < b.length := by omega
              obtain ⟨bb, o, rfl, hc⟩ := HX6.out.at_ (8 + sz b + k) hlb
              have hcl : w6.cell? ⟨w5.heap.size, k, none⟩ = some (.int .u8 (((lowR S 4)[k]'hlL).toNat : Int)) := by
                rw [BL.out.cell k]; simpa using bs_get (lowR S 4) k hlL
              have hDk : ((b.drop (8 + sz b)).take 4)[k]'hlD = b[8 + sz b + k]'hlb := by rw [List.getElem_take, List.getElem_drop]
              have HDk := Lib.hid hDk
              clear hDk
              by_cases heq : b[8 + sz b + k]'hlb = (lowR S 4)[k]'hlL
              · have hb7 : (((b[8 + sz b + k]'hlb).toNat : Int) != (((lowR S 4)[k]'hlL).toNat : Int)) = false := by rw [heq]; simp
                have HE := Lib.hid heq
                clear heq
                go_wp2
                go_round
                case rel => exact ⟨k + 1, by omega, by go_num, by show _ = _; rw [take_snoc hlD, take_snoc hlL, HK.out, HDk.out, HE.out]⟩
                case measure => simp [intOf]; omega
              · have hb7 : (((b[8 + sz b + k]'hlb).toNat : Int) != (((lowR S 4)[k]'hlL).toNat : Int)) = true := by
                  simp only [bne_iff_ne, ne_eq, Int.natCast_inj]
                  exact fun h => heq (UInt8.toNat_inj.1 h)
                have HE := Lib.hid (UnfErr.sum Hmax.out h12 Hmg.out Hvr.out Heq.out (fun h => heq (by
                  unfold sumOk at h
                  rw [HSd.out] at h
                  rw [← HDk.out]
                  simp only [h])))
                clear heq
                go_wp2_with (go_at_call 61; refine (fault_any _ _ _).mono ?_; rintro e w' ⟨rfl, rfl⟩)
                go_ret3
                refine .inl ⟨_, _, _, HE.out, rfl, ?_, HB6.out.size, HB6.out.alloc HB6.out.size _⟩
                rw [Int.natCast_add]
                exact Blk.new _ _ _
            · obtain rfl : k = 4 := by omega
              have hok : sumOk b := by
                unfold sumOk
                rw [HSd.out]
                have h := HK.out
                have e1 : ((b.drop (8 + sz b)).take 4).take 4 = (b.drop (8 + sz b)).take 4 := List.take_of_length_le (by rw [List.length_take]; omega)
                have e2 : (lowR S 4).take 4 = lowR S 4 := List.take_of_length_le (by simp [lowR])
                rw [e1, e2] at h
                exact h
              have HOK := Lib.hid (UnfOk.mk Hmax.out h12 Hmg.out Hvr.out Heq.out hok)
              clear hok
              obtain ⟨bb, o, rfl, _⟩ := HX6.out.at_ 0 (by omega)
              have hp8 := HX6.out.piece 8 (8 + sz b) (by omega) (by omega)
              rw [Nat.add_sub_cancel_left] at hp8
              have HTW := Lib.hid (twin_any w6 _ _ _ _ hp8 (by omega))
              clear hp8
              go_wp2_with (go_at_call 71; refine HTW.out.mono ?_; rintro e w7 ⟨A7, rfl, ho, hb⟩)
              go_ret3
              have e1 : (b.drop 8).take (sz b) = bodyOf b := by
                unfold bodyOf
                rw [show sz b = b.length - 12 by have := Heq.out; omega]
              rw [e1] at ho
              exact .inr ⟨A7, _, HOK.out, rfl, ho.mono HB6.out.size, below_then HB6.out hb⟩
end Go.Proofs.YtbhmnkpbaeemeaaDoor

/-! # W17 -/
namespace Go.Proofs.YtbhmnkpbaeemeaaDoor
open Go.RowKit

/-- byte i of a list, as a number -/
def yb (b : List UInt8) (i : Nat) : Nat := (b.getD i 0).toNat
theorem yb_lt (b : List UInt8) (i : Nat) : yb b i < 256 := UInt8.toNat_lt _
theorem yb_get (b : List UInt8) (i : Nat) (h : i < b.length) : yb b i = (b[i]'h).toNat := by simp [yb, h]
theorem take_yb (b : List UInt8) (o n : Nat) (h : o + n ≤ b.length) : (b.drop o).take n = (List.range n).map fun i => b.getD (o + i) 0 := by
  apply List.ext_getElem
  · simp; omega
  · intro i h1 h2
    simp at h1 h2
    simp [List.getElem_take, List.getElem_drop, show o + i < b.length by omega]
theorem hd2_yb (b : List UInt8) (h : 2 ≤ b.length) : hd2 b = yb b 0 * 256 + yb b 1 := by
  unfold hd2
  have := take_yb b 0 2 (by omega)
  rw [List.drop_zero] at this
  rw [this]
  simp [beV, List.range_succ, yb]
theorem ver_yb (b : List UInt8) (h : 3 ≤ b.length) : ver b = yb b 2 := by
  unfold ver
  rw [take_yb b 2 1 (by omega)]
  simp [beV, List.range_succ, yb]
theorem kd_yb (b : List UInt8) (h : 4 ≤ b.length) : kd b = yb b 3 := by
  unfold kd
  rw [take_yb b 3 1 (by omega)]
  simp [beV, List.range_succ, yb]
theorem sz_yb (b : List UInt8) (h : 8 ≤ b.length) : sz b = yb b 4 * 16777216 + yb b 5 * 65536 + yb b 6 * 256 + yb b 7 := by
  unfold sz
  rw [take_yb b 4 4 (by omega)]
  simp [beV, List.range_succ, yb]
  omega
theorem sumOk_yb (b : List UInt8) (h : b.length = 12 + sz b) :
    sumOk b ↔ yb b (8 + sz b) + yb b (9 + sz b) * 256 + yb b (10 + sz b) * 65536 + yb b (11 + sz b) * 16777216 = Crc.sum (b.take (8 + sz b)) := by
  unfold sumOk
  rw [take_yb b (8 + sz b) 4 (by omega)]
  have hS := Crc.sum_lt (b.take (8 + sz b))
  generalize Crc.sum (b.take (8 + sz b)) = S at hS
  simp only [lowR, List.range_succ, List.range_zero, List.nil_append, List.cons_append, List.map_cons, List.map_nil, List.cons.injEq, and_true]
  rw [show 8 + sz b + 1 = 9 + sz b by omega, show 8 + sz b + 2 = 10 + sz b by omega, show 8 + sz b + 3 = 11 + sz b by omega, Nat.add_zero]
  have e : ∀ (i z : Nat), z < 256 → (b.getD i 0 = lastB z ↔ yb b i = z) := by
    intro i z hz
    unfold yb
    rw [← UInt8.toNat_inj, lastB_toNat z hz]
  rw [e _ _ (by omega), e _ _ (by omega), e _ _ (by omega), e _ _ (by omega)]
  have h0 := yb_lt b (8 + sz b)
  have h1 := yb_lt b (9 + sz b)
  have h2 := yb_lt b (10 + sz b)
  have h3 := yb_lt b (11 + sz b)
  simp only [Nat.pow_zero, Nat.reducePow]
  omega

theorem Rd.yat {w : World} {bb o n c : Nat} {b : List UInt8} (h : Rd w (some ⟨bb, o, none⟩) n c b) (i : Nat) (hi : i < n) : w.cell? ⟨bb, o + i, none⟩ = some (.int .u8 (yb b i : Int)) := by
  have hl := h.len
  obtain ⟨b', o', e, hc⟩ := h.at_ i (by omega)
  cases e
  rw [hc, yb_get b i (by omega)]

/-- Unframe of the document at bytes that are none, and at a datagram. -/
def RUnfBad (w w' : World) (e : Ending) (b : List UInt8) : Prop :=
  ∃ code at_ : Nat, UnfErr b code at_ ∧ e = .returned (.tuple #[.int .i64 0, .slice none 0 0, .agg #[.int .i64 (code : Int), .int .i64 (at_ : Int)]]) ∧ Below w.heap.size w w'
def RUnfGood (w w' : World) (e : Ending) (b : List UInt8) : Prop :=
  ∃ A' m c', UnfOk b ∧ e = .returned (.tuple #[.int .i64 (kd b : Int), .slice A' m c', .agg #[.int .i64 0, .int .i64 0]]) ∧ Ob w' w.heap.size A' m c' (bodyOf b) ∧ Below w.heap.size w w'

set_option maxRecDepth 100000 in
theorem runframe_size (w : World) (A : Option Addr) (n c : Nat) (b : List UInt8) (hx : Rd w A n c b) (hn : n ≤ 1000000000) (hs : 65507 < n ∨ n < 12) :
    Calls Tryd.prog 67 #[.slice A n c] w fun e w' => RUnfBad w w' e b := by
  have hl := hx.len
  subst hl
  rcases hs with hs | hs
  · have hb : decide ((65507 : Int) < (b.length : Int)) = true := by simp; omega
    have HE := Lib.hid (UnfErr.long hs)
    clear hs
    go_enter Tryd.func67, Tryd.ntmps67
    go_wp2
    refine bodyPost_ret (v := .tuple #[.int .i64 0, .slice none 0 0, .agg #[.int .i64 21, .int .i64 65507]]) (by simp [results, Tryd.results67, go_sem]) rfl ?_
    exact ⟨_, _, HE.out, rfl, by go_grown⟩
  · have hb : decide ((65507 : Int) < (b.length : Int)) = false := by simp; omega
    have hb2 : decide ((b.length : Int) < 12) = true := by simp; omega
    have HE := Lib.hid (UnfErr.short hs)
    clear hs
    go_enter Tryd.func67, Tryd.ntmps67
    go_wp2
    refine bodyPost_ret (v := .tuple #[.int .i64 0, .slice none 0 0, .agg #[.int .i64 20, .int .i64 (b.length : Int)]]) (by simp [results, Tryd.results67, go_sem]) rfl ?_
    exact ⟨_, _, HE.out, rfl, by go_grown⟩
end Go.Proofs.YtbhmnkpbaeemeaaDoor

/-! # W18 -/
namespace Go.Proofs.YtbhmnkpbaeemeaaDoor
open Go.RowKit

set_option maxRecDepth 100000 in
set_option maxHeartbeats 800000 in
theorem runframe_bad (w : World) (A : Option Addr) (n c : Nat) (b : List UInt8) (hx : Rd w A n c b) (h12 : 12 ≤ n) (hmax : n ≤ 65507) (hno : ¬ UnfOk b) :
    Calls Tryd.prog 67 #[.slice A n c] w fun e w' => RUnfBad w w' e b := by
  have HNO := Lib.hid hno
  clear hno
  have hl := hx.len
  have hcap := hx.le
  subst hl
  have hb1 : decide ((65507 : Int) < (b.length : Int)) = false := by simp; omega
  have hb2 : decide ((b.length : Int) < 12) = false := by simp; omega
  have hm : b.length ≤ 1000000000 := by omega
  have Hmax := Lib.hid hmax
  obtain ⟨bb, o, rfl, hdead⟩ := hx.at_ 0 (by omega)
  have hblt : bb < w.heap.size := World.block_lt_of_cell? w _ hdead
  have hbne : ¬ bb = w.heap.size := by omega
  clear hdead
  have HX := Lib.hid hx
  have q0 := hx.yat 0 (by omega)
  have q1 := hx.yat 1 (by omega)
  have q2 := hx.yat 2 (by omega)
  have q3 := hx.yat 3 (by omega)
  have q4 := hx.yat 4 (by omega)
  have q5 := hx.yat 5 (by omega)
  have q6 := hx.yat 6 (by omega)
  have q7 := hx.yat 7 (by omega)
  rw [Nat.add_zero] at q0
  have l0 := yb_lt b 0
  have l1 := yb_lt b 1
  have l2 := yb_lt b 2
  have l3 := yb_lt b 3
  have l4 := yb_lt b 4
  have l5 := yb_lt b 5
  have l6 := yb_lt b 6
  have l7 := yb_lt b 7
  have Hhd := Lib.hid (hd2_yb b (by omega))
  have Hver := Lib.hid (ver_yb b (by omega))
  have Hkd := Lib.hid (kd_yb b (by omega))
  have Hsz := Lib.hid (sz_yb b (by omega))
  clear hmax hx
  by_cases hm0 : yb b 0 = 81
  case neg =>
    have hb3 : ((yb b 0 : Int) != 81) = true := by simpa using (by omega : ¬ (yb b 0 : Int) = 81)
    have HE := Lib.hid (UnfErr.magic Hmax.out h12 (by rw [Hhd.out]; omega))
    clear hm0
    go_enter Tryd.func67, Tryd.ntmps67
    go_wp2
    refine bodyPost_ret (v := .tuple #[.int .i64 0, .slice none 0 0, .agg #[.int .i64 22, .int .i64 0]]) (by simp [results, Tryd.results67, go_sem]) rfl ?_
    exact ⟨_, _, HE.out, rfl, by go_grown⟩
  case pos =>
    have hb3 : ((yb b 0 : Int) != 81) = false := by rw [hm0]; rfl
    have Hm0 := Lib.hid hm0
    clear hm0
    by_cases hm1 : yb b 1 = 77
    case neg =>
      have hb4 : ((yb b 1 : Int) != 77) = true := by simpa using (by omega : ¬ (yb b 1 : Int) = 77)
      have HE := Lib.hid (UnfErr.magic Hmax.out h12 (by rw [Hhd.out]; omega))
      clear hm1
      go_enter Tryd.func67, Tryd.ntmps67
      go_wp2
      refine bodyPost_ret (v := .tuple #[.int .i64 0, .slice none 0 0, .agg #[.int .i64 22, .int .i64 0]]) (by simp [results, Tryd.results67, go_sem]) rfl ?_
      exact ⟨_, _, HE.out, rfl, by go_grown⟩
    case pos =>
      have hb4 : ((yb b 1 : Int) != 77) = false := by rw [hm1]; rfl
      have Hmg : Hid (hd2 b = 20813) := by show _ = _; rw [Hhd.out, Hm0.out, hm1]
      clear hm1
      by_cases hvr : yb b 2 = 1
      case neg =>
        have hb5 : ((yb b 2 : Int) != 1) = true := by simpa using (by omega : ¬ (yb b 2 : Int) = 1)
        have HE := Lib.hid (UnfErr.version Hmax.out h12 Hmg.out (by rw [Hver.out]; exact hvr))
        clear hvr
        go_enter Tryd.func67, Tryd.ntmps67
        go_wp2
        refine bodyPost_ret (v := .tuple #[.int .i64 0, .slice none 0 0, .agg #[.int .i64 23, .int .i64 2]]) (by simp [results, Tryd.results67, go_sem]) rfl ?_
        exact ⟨_, _, HE.out, rfl, by go_grown⟩
      case pos =>
        have hb5 : ((yb b 2 : Int) != 1) = false := by rw [hvr]; rfl
        have Hvr : Hid (ver b = 1) := by show _ = _; rw [Hver.out]; exact hvr
        clear hvr
        have hszI : (yb b 4 : Int) * 16777216 + (yb b 5 : Int) * 65536 + (yb b 6 : Int) * 256 + (yb b 7 : Int) = ((sz b : Nat) : Int) := by rw [Hsz.out]; omega
        have hsz := sz_lt b
        go_enter Tryd.func67, Tryd.ntmps67
        go_wp2
        go_quiet (fail)
        obtain ⟨wq, hwq⟩ : ∃ wq, wq = ((w.alloc (.cells #[.int .i64 0, .int .i64 0] 29)).drewN nq) := ⟨_, rfl⟩
        rw [← hwq]
        have bN : Blk wq w.heap.size #[.int .i64 0, .int .i64 0] 29 := by rw [hwq]; exact (Blk.new _ _ _).drewN _
        have bel : Below w.heap.size w wq := by rw [hwq]; exact below_drewN (below1 w _) _
        have hxq := HX.out.below bel
        have HXQ := Lib.hid hxq
        have BN := Lib.hid bN
        have BEL := Lib.hid bel
        have n0 : wq.cell? ⟨w.heap.size, 0, none⟩ = some (.int .i64 0) := bN.cell 0
        have n1 : wq.cell? ⟨w.heap.size, 1, none⟩ = some (.int .i64 0) := bN.cell 1
        have f0 := bN.frozen 0
        have f1 := bN.frozen 1
        clear hwq hxq bN bel q0 q1 q2 q3 q4 q5 q6 q7 l0 l1 l2 l4 l5 l6 l7 hszI hb1 hb2 hb3 hb4 hb5
        have hlen : ∀ i, i < b.length → Hid (wq.cell? ⟨bb, o + i, none⟩ = some (.int .u8 (yb b i : Int))) := fun i hi => HXQ.out.yat i hi
        by_cases hlt : b.length < 12 + sz b
        case pos =>
          have hb6 : decide ((b.length : Int) < 12 + (sz b : Int)) = true := by simp; omega
          have HE := Lib.hid (UnfErr.less Hmax.out h12 Hmg.out Hvr.out hlt)
          clear hlt hlen
          go_wp2
          refine bodyPost_ret (v := .tuple #[.int .i64 0, .slice none 0 0, .agg #[.int .i64 20, .int .i64 (b.length : Int)]]) (by simp [results, Tryd.results67, go_sem, n0, n1]) rfl ?_
          exact ⟨_, _, HE.out, rfl, (BEL.out.setCell (Nat.le_refl _) _).setCell (Nat.le_refl _) _⟩
        case neg =>
          have hb6 : decide ((b.length : Int) < 12 + (sz b : Int)) = false := by simp; omega
          by_cases hgt : 12 + sz b < b.length
          case pos =>
            have hb7 : decide (12 + (sz b : Int) < (b.length : Int)) = true := by simp; omega
            have HE := Lib.hid (UnfErr.more Hmax.out h12 Hmg.out Hvr.out hgt)
            clear hlt hgt hlen
            go_wp2
            refine bodyPost_ret (v := .tuple #[.int .i64 0, .slice none 0 0, .agg #[.int .i64 28, .int .i64 (12 + (sz b : Int))]]) (by simp [results, Tryd.results67, go_sem, n0, n1]) rfl ?_
            refine ⟨28, 12 + sz b, HE.out, ?_, (BEL.out.setCell (Nat.le_refl _) _).setCell (Nat.le_refl _) _⟩
            rw [Int.natCast_add]
            rfl
          case neg =>
            have heq : b.length = 12 + sz b := by omega
            have hb7 : decide (12 + (sz b : Int) < (b.length : Int)) = false := by simp; omega
            have hle : 12 + sz b ≤ b.length := by omega
            have Heq := Lib.hid heq
            have p0 := (hlen (8 + sz b) (by omega)).out
            have p1 := (hlen (9 + sz b) (by omega)).out
            have p2 := (hlen (10 + sz b) (by omega)).out
            have p3 := (hlen (11 + sz b) (by omega)).out
            have b0 := yb_lt b (8 + sz b)
            have b1 := yb_lt b (9 + sz b)
            have b2 := yb_lt b (10 + sz b)
            have b3 := yb_lt b (11 + sz b)
            have HSO := Lib.hid (sumOk_yb b heq)
            clear hlt hgt heq hlen
            generalize yb b (8 + sz b) = z0 at *
            generalize yb b (9 + sz b) = z1 at *
            generalize yb b (10 + sz b) = z2 at *
            generalize yb b (11 + sz b) = z3 at *
            obtain ⟨T, hT⟩ : ∃ T : Nat, T = z0 + z1 * 256 + z2 * 65536 + z3 * 16777216 := ⟨_, rfl⟩
            have hTI : (z0 : Int) + (z1 : Int) * 256 + (z2 : Int) * 65536 + (z3 : Int) * 16777216 = (T : Int) := by omega
            rw [← hT] at HSO
            have hTl : T < 4294967296 := by omega
            have HTD := Lib.hid hT
            clear hT
            go_wp2
            go_quiet (fail)
            obtain ⟨wr, hwr⟩ : ∃ wr, wr = wq.drewN nq := ⟨_, rfl⟩
            rw [← hwr]
            have HXR := Lib.hid (by rw [hwr]; exact HXQ.out.drewN _ : Rd wr (some ⟨bb, o, none⟩) b.length c b)
            have BNR := Lib.hid (by rw [hwr]; exact BN.out.drewN _ : Blk wr w.heap.size #[.int .i64 0, .int .i64 0] 29)
            have BELR := Lib.hid (by rw [hwr]; exact below_drewN BEL.out _ : Below w.heap.size w wr)
            clear hwr n0 n1 f0 f1 p0 p1 p2 p3 b0 b1 b2 b3 hTI
            have n0 : wr.cell? ⟨w.heap.size, 0, none⟩ = some (.int .i64 0) := BNR.out.cell 0
            have n1 : wr.cell? ⟨w.heap.size, 1, none⟩ = some (.int .i64 0) := BNR.out.cell 1
            have f0 := BNR.out.frozen 0
            have f1 := BNR.out.frozen 1
            have HS := refSum_any wr _ _ _ _ (HXR.out.pre (8 + sz b) (by omega))
            generalize hS : Crc.sum (b.take (8 + sz b)) = S at *
            have HSd := Lib.hid hS; clear hS
            have HSR := Lib.hid HS; clear HS
            by_cases hst : T = S
            case neg =>
              have hb8 : ((T : Int) != (S : Int)) = true := by simp; omega
              have HE := Lib.hid (UnfErr.sum Hmax.out h12 Hmg.out Hvr.out Heq.out (fun h => hst (HSO.out.1 h)))
              clear hst
              go_wp2_with (go_at_call 15; refine HSR.out.mono ?_; rintro e w4 ⟨rfl, rfl⟩)
              refine bodyPost_ret (v := .tuple #[.int .i64 0, .slice none 0 0, .agg #[.int .i64 24, .int .i64 (8 + (sz b : Int))]]) (by simp [results, Tryd.results67, go_sem, n0, n1]) rfl ?_
              refine ⟨24, 8 + sz b, HE.out, ?_, (BELR.out.setCell (Nat.le_refl _) _).setCell (Nat.le_refl _) _⟩
              rw [Int.natCast_add]
              rfl
            case pos =>
              have hb8 : ((T : Int) != (S : Int)) = false := by rw [hst]; simp
              exact absurd (UnfOk.mk Hmax.out h12 Hmg.out Hvr.out Heq.out (HSO.out.2 hst)) HNO.out
end Go.Proofs.YtbhmnkpbaeemeaaDoor

/-! # W19 -/
namespace Go.Proofs.YtbhmnkpbaeemeaaDoor
open Go.RowKit

theorem Rd.set_ne {w : World} {A : Option Addr} {n c : Nat} {xs : List UInt8} (h : Rd w A n c xs) {a : Addr} (hne : ¬ inA A a.block) (v : Value) : Rd (w.setCell a v) A n c xs := by
  refine h.chg (F := (· = a.block)) ?_ fun _ k hk e => hne (by subst e; exact hk)
  refine Chg.set (Chg.refl _ _) ?_ _
  exact fun _ => rfl

theorem Ob.set2 {w5 : World} {B : Nat} {A : Option Addr} {n c : Nat} {xs : List UInt8} (h : Ob w5 B A n c xs) (p : Nat) (hp : p < B) (v v' : Value) :
    Ob ((w5.setCell ⟨p, 0, none⟩ v).setCell ⟨p, 1, none⟩ v') B A n c xs := by
  refine h.chg (F := (· = p)) ?_ ?_
  · refine Chg.set (Chg.set (Chg.refl _ _) ?_ _) ?_ _ <;> exact fun _ => rfl
  · intro k hk e
    have := (h.lt hk).1
    omega
theorem below_set2 {w w5 : World} (h : Below w.heap.size w w5) (p : Nat) (hp : w.heap.size ≤ p) (v v' : Value) :
    Below w.heap.size w ((w5.setCell ⟨p, 0, none⟩ v).setCell ⟨p, 1, none⟩ v') := by
  refine Chg.below (F := (· = p)) ?_ (Nat.le_refl _) (fun i hi e => by omega)
  refine Chg.set (Chg.set (Chg.ofBelow h _) ?_ _) ?_ _ <;> exact fun _ => rfl

set_option maxRecDepth 100000 in
set_option maxHeartbeats 800000 in
theorem runframe_good (w : World) (A : Option Addr) (n c : Nat) (b : List UInt8) (hx : Rd w A n c b) (hok : UnfOk b) :
    Calls Tryd.prog 67 #[.slice A n c] w fun e w' => RUnfGood w w' e b := by
  have hl := hx.len
  have hcap := hx.le
  subst hl
  have h12 := hok.min
  have hmax := hok.max
  have hb1 : decide ((65507 : Int) < (b.length : Int)) = false := by simp; omega
  have hb2 : decide ((b.length : Int) < 12) = false := by simp; omega
  have hm : b.length ≤ 1000000000 := by omega
  obtain ⟨bb, o, rfl, hdead⟩ := hx.at_ 0 (by omega)
  have hblt : bb < w.heap.size := World.block_lt_of_cell? w _ hdead
  have hbne : ¬ bb = w.heap.size := by omega
  clear hdead
  have HX := Lib.hid hx
  have HOK := Lib.hid hok
  have q0 := hx.yat 0 (by omega)
  have q1 := hx.yat 1 (by omega)
  have q2 := hx.yat 2 (by omega)
  have q4 := hx.yat 4 (by omega)
  have q5 := hx.yat 5 (by omega)
  have q6 := hx.yat 6 (by omega)
  have q7 := hx.yat 7 (by omega)
  rw [Nat.add_zero] at q0
  have l0 := yb_lt b 0
  have l1 := yb_lt b 1
  have l2 := yb_lt b 2
  have l4 := yb_lt b 4
  have l5 := yb_lt b 5
  have l6 := yb_lt b 6
  have l7 := yb_lt b 7
  have hhd := hd2_yb b (by omega)
  have hver := ver_yb b (by omega)
  have hszy := sz_yb b (by omega)
  have hmg := hok.magic
  have hvr := hok.version
  have hb3 : ((yb b 0 : Int) != 81) = false := by simp; omega
  have hb4 : ((yb b 1 : Int) != 77) = false := by simp; omega
  have hb5 : ((yb b 2 : Int) != 1) = false := by simp; omega
  have hszI : (yb b 4 : Int) * 16777216 + (yb b 5 : Int) * 65536 + (yb b 6 : Int) * 256 + (yb b 7 : Int) = ((sz b : Nat) : Int) := by omega
  have heq := hok.size
  have hsz := sz_lt b
  have hb6 : decide ((b.length : Int) < 12 + (sz b : Int)) = false := by simp; omega
  have hb7 : decide (12 + (sz b : Int) < (b.length : Int)) = false := by simp; omega
  have hle : 12 + sz b ≤ b.length := by omega
  have HSO := Lib.hid ((sumOk_yb b heq).1 hok.sum)
  clear hmax hx hok hhd hver hszy hmg hvr heq
  go_enter Tryd.func67, Tryd.ntmps67
  go_wp2
  go_quiet (fail)
  obtain ⟨wq, hwq⟩ : ∃ wq, wq = ((w.alloc (.cells #[.int .i64 0, .int .i64 0] 29)).drewN nq) := ⟨_, rfl⟩
  rw [← hwq]
  have bN : Blk wq w.heap.size #[.int .i64 0, .int .i64 0] 29 := by rw [hwq]; exact (Blk.new _ _ _).drewN _
  have bel : Below w.heap.size w wq := by rw [hwq]; exact below_drewN (below1 w _) _
  have hxq := HX.out.below bel
  have HXQ := Lib.hid hxq
  have BN := Lib.hid bN
  have BEL := Lib.hid bel
  clear hwq hxq bN bel q0 q1 q2 q4 q5 q6 q7 l0 l1 l2 l4 l5 l6 l7 hszI hb1 hb2 hb3 hb4 hb5
  have p0 := HXQ.out.yat (8 + sz b) (by omega)
  have p1 := HXQ.out.yat (9 + sz b) (by omega)
  have p2 := HXQ.out.yat (10 + sz b) (by omega)
  have p3 := HXQ.out.yat (11 + sz b) (by omega)
  have b0 := yb_lt b (8 + sz b)
  have b1 := yb_lt b (9 + sz b)
  have b2 := yb_lt b (10 + sz b)
  have b3 := yb_lt b (11 + sz b)
  generalize yb b (8 + sz b) = z0 at *
  generalize yb b (9 + sz b) = z1 at *
  generalize yb b (10 + sz b) = z2 at *
  generalize yb b (11 + sz b) = z3 at *
  obtain ⟨T, hT⟩ : ∃ T : Nat, T = z0 + z1 * 256 + z2 * 65536 + z3 * 16777216 := ⟨_, rfl⟩
  have hTI : (z0 : Int) + (z1 : Int) * 256 + (z2 : Int) * 65536 + (z3 : Int) * 16777216 = (T : Int) := by omega
  rw [← hT] at HSO
  have hTl : T < 4294967296 := by omega
  clear hT
  go_wp2
  go_quiet (fail)
  obtain ⟨wr, hwr⟩ : ∃ wr, wr = wq.drewN nq := ⟨_, rfl⟩
  rw [← hwr]
  have HXR := Lib.hid (by rw [hwr]; exact HXQ.out.drewN _ : Rd wr (some ⟨bb, o, none⟩) b.length c b)
  have BNR := Lib.hid (by rw [hwr]; exact BN.out.drewN _ : Blk wr w.heap.size #[.int .i64 0, .int .i64 0] 29)
  have BELR := Lib.hid (by rw [hwr]; exact below_drewN BEL.out _ : Below w.heap.size w wr)
  clear hwr p0 p1 p2 p3 b0 b1 b2 b3 hTI
  have n0 : wr.cell? ⟨w.heap.size, 0, none⟩ = some (.int .i64 0) := BNR.out.cell 0
  have n1 : wr.cell? ⟨w.heap.size, 1, none⟩ = some (.int .i64 0) := BNR.out.cell 1
  have f0 := BNR.out.frozen 0
  have f1 := BNR.out.frozen 1
  have HS := refSum_any wr _ _ _ _ (HXR.out.pre (8 + sz b) (by omega))
  have hts : ((T : Int) != ((Crc.sum (b.take (8 + sz b)) : Nat) : Int)) = false := by rw [HSO.out]; simp
  have HSR := Lib.hid HS; clear HS
  have q3 : wr.cell? ⟨bb, o + 3, none⟩ = some (.int .u8 (yb b 3 : Int)) := HXR.out.yat 3 (by omega)
  go_wp2_with (go_at_call 15; refine HSR.out.mono ?_; rintro e w4 ⟨rfl, rfl⟩)
  have hp8 := HXR.out.piece 8 (8 + sz b) (by omega) (by omega)
  rw [Nat.add_sub_cancel_left] at hp8
  have HP8 := Lib.hid hp8.drew
  have hcn : w.heap.size < wr.heap.size := BNR.out.lt
  have hbn : bb < wr.heap.size := by omega
  have HNI : Hid (¬ inA (some ⟨bb, o + 8, none⟩) w.heap.size) := fun h => hbne (inA_some.1 h)
  clear hp8 hb6 hb7 hts
  have g1 : (8 : Int) ≤ 8 + (sz b : Int) := by omega
  have g2 : 8 + (sz b : Int) ≤ (c : Int) := by omega
  have g3 : 8 + sz b ≤ c := by omega
  have hw8 : IntKind.i64.wrap (8 + (sz b : Int)) = 8 + (sz b : Int) := IntWalk.i64_in _ (by omega)
  have ht8 : (8 + (sz b : Int)).toNat = 8 + sz b := by omega
  have h9 : sz b ≤ 1000000000 := by omega
  have hw3 : IntKind.i64.wrap (yb b 3 : Int) = (yb b 3 : Int) := IntWalk.i64_in _ (by have := yb_lt b 3; omega)
  go_region_with (go_at_call 86; refine (Copy_any _ _ _ _ ((b.drop 8).take (sz b)) (by first | exact HP8.out | exact (HP8.out.set_ne HNI.out _).set_ne HNI.out _) h9).mono ?_; rintro e w5 ⟨A5, c5, rfl, ho, hb⟩; have HO5 := Lib.hid ho; have HB5 := Lib.hid hb; clear ho hb; have q3' : w5.cell? ⟨bb, o + 3, none⟩ = some (.int .u8 (yb b 3 : Int)) := (HB5.out.cell (by simp; omega)).trans (by simp [q3, hbne]); have n0' : w5.cell? ⟨w.heap.size, 0, none⟩ = some (.int .i64 0) := (HB5.out.cell (by simp; omega)).trans (by simp [n0, n1]); have n1' : w5.cell? ⟨w.heap.size, 1, none⟩ = some (.int .i64 0) := (HB5.out.cell (by simp; omega)).trans (by simp [n0, n1]); have f0' : w5.frozen? ⟨w.heap.size, 0, none⟩ = false := (HB5.out.frozen (by simp; omega)).trans (by simp [f0]); have f1' : w5.frozen? ⟨w.heap.size, 1, none⟩ = false := (HB5.out.frozen (by simp; omega)).trans (by simp [f1]))
  all_goals
    go_wp2
    refine bodyPost_ret (v := .tuple #[.int .i64 (yb b 3 : Int), .slice A5 (sz b) c5, .agg #[.int .i64 0, .int .i64 0]]) (by simp [results, Tryd.results67, go_sem, n0', n1', hw3]) rfl ?_
    refine ⟨A5, sz b, c5, HOK.out, by rw [kd_yb b (by omega)], ?_, ?_⟩
    · rw [show bodyOf b = (b.drop 8).take (sz b) by unfold bodyOf; rw [show b.length - 12 = sz b by have := HOK.out.size; omega]]
      first
      | exact HO5.out.mono (by first | exact Nat.le_of_lt hcn | (simp; omega))
      | exact Ob.mono (Ob.set2 HO5.out w.heap.size hcn _ _) (Nat.le_of_lt hcn)
    · first
      | exact below_set2 (below_then BELR.out ((below_drewN (Below.refl _ wr) 1).trans HB5.out)) _ (Nat.le_refl _) _ _
      | exact below_then (below_set2 BELR.out _ (Nat.le_refl _) _ _) HB5.out
end Go.Proofs.YtbhmnkpbaeemeaaDoor

/-! # W20 -/
namespace Go.Proofs.YtbhmnkpbaeemeaaDoor
open Go.RowKit

theorem take_succ_eq {xs ys : List UInt8} {k : Nat} (hx : k < xs.length) (hy : k < ys.length) (h : xs.take k = ys.take k) (he : xs[k] = ys[k]) : xs.take (k + 1) = ys.take (k + 1) := by
  rw [List.take_succ_eq_append_getElem hx, List.take_succ_eq_append_getElem hy, h, he]
theorem ret_bool' {a b : Bool} (h : a = b) : Ending.returned (.bool a) = .returned (.bool b) := by rw [h]

theorem sameBytes_any (w : World) (A : Option Addr) (n c : Nat) (xs : List UInt8) (A' : Option Addr) (n' c' : Nat) (ys : List UInt8) (hx : Rd w A n c xs) (hy : Rd w A' n' c' ys) :
    Calls Tryd.prog 20 #[.slice A n c, .slice A' n' c'] w fun e w' => e = .returned (.bool (decide (xs = ys))) ∧ ∃ q, w' = w.drewN q := by
  have e1 := hx.len
  have e2 := hy.len
  subst e1 e2
  have hm := hx.le
  have hm1 := hx.max
  have hm' := hy.le
  have hm1' := hy.max
  have Ha := Lib.hid hx.at_
  have Ha' := Lib.hid hy.at_
  clear hx hy
  by_cases hl : xs.length = ys.length
  · have hlb : ((xs.length : Int) != (ys.length : Int)) = false := by rw [hl]; simp
    have Hl := Lib.hid hl; clear hl
    go_enter Tryd.func20, Tryd.ntmps20
    go_wp2
    go_loopw [5] (fun i wr => ∃ k : Nat, k ≤ xs.length ∧ i = .int .i64 k ∧ xs.take k = ys.take k ∧ ∃ q, wr = w.drewN q) (fun i _ => xs.length - (intOf i).toNat)
    case atStart => exact ⟨0, Nat.zero_le _, rfl, rfl, 0, rfl⟩
    case round =>
      obtain ⟨k, hk, rfl, ht, q, rfl⟩ := hrel
      have HT := Lib.hid ht; clear ht
      by_cases hlt : k < xs.length
      · have hlt' : k < ys.length := by rw [← Hl.out]; exact hlt
        obtain ⟨b, o, rfl, hc⟩ := Ha.out k hlt
        obtain ⟨b', o', rfl, hc'⟩ := Ha'.out k hlt'
        by_cases he : xs[k] = ys[k]
        · have heb : ((xs[k].toNat : Int) != (ys[k].toNat : Int)) = false := by rw [he]; simp
          have HE := Lib.hid he; clear he
          go_wp2
          go_quiet (fail)
          go_wp2
          go_roundw
          case rel => exact ⟨k + 1, by omega, by go_num, take_succ_eq hlt hlt' HT.out HE.out, _, rfl⟩
          case measure => simp [intOf]; omega
        · have heb : ((xs[k].toNat : Int) != (ys[k].toNat : Int)) = true := by
            simp only [bne_iff_ne, ne_eq, Int.natCast_inj]
            exact fun h => he (UInt8.toNat_inj.1 h)
          have HE := Lib.hid he; clear he
          go_wp2
          go_quiet (fail)
          go_wp2
          go_ret
          exact ⟨ret_bool' (by rw [eq_comm, decide_eq_false_iff_not]; intro h; subst h; exact HE.out rfl), _, World.drewN_drewN _ _ _⟩
      · go_wp2
        go_ret
        have e1 : xs.take k = xs := List.take_of_length_le (by omega)
        have e2 : ys.take k = ys := List.take_of_length_le (by have := Hl.out; omega)
        have e3 : xs = ys := by rw [← e1, ← e2]; exact HT.out
        exact ⟨ret_bool' (by rw [eq_comm]; simpa using e3), _, rfl⟩
  · have hlb : ((xs.length : Int) != (ys.length : Int)) = true := by simpa using (by omega : ¬ (xs.length : Int) = ys.length)
    have Hl := Lib.hid hl; clear hl
    go_enter Tryd.func20, Tryd.ntmps20
    go_wp2
    go_ret
    exact ⟨ret_bool' (by rw [eq_comm, decide_eq_false_iff_not]; intro h; subst h; exact Hl.out rfl), 0, rfl⟩

theorem bs_set (xs : List UInt8) (k : Nat) (v : UInt8) : (bs xs).set k (.int .u8 (v.toNat : Int)) = bs (xs.set k v) := by
  simp [bs, List.map_set]
theorem Ob.put {w : World} {B g n c : Nat} {xs : List UInt8} (h : Ob w B (some ⟨g, 0, none⟩) n c xs) (k : Nat) (v : UInt8) (z : Int) (hz : z = (v.toNat : Int)) :
    Ob (w.setCell ⟨g, k, none⟩ (.int .u8 z)) B (some ⟨g, 0, none⟩) n c (xs.set k v) := by
  subst hz
  have h2 := World.ownsRow.stored h k (.int .u8 (v.toNat : Int))
  unfold Ob
  rw [← bs_set]
  exact h2.1
theorem Ob.frz {w : World} {B g n c : Nat} {xs : List UInt8} (h : Ob w B (some ⟨g, 0, none⟩) n c xs) (k : Nat) : w.frozen? ⟨g, k, none⟩ = false :=
  World.ownsRow.frozenAt h k
theorem Ob.cellX {w : World} {B g n c : Nat} {xs : List UInt8} (h : Ob w B (some ⟨g, 0, none⟩) n c xs) (k : Nat) (hk : k < n) : ∃ z, w.cell? ⟨g, k, none⟩ = some (.int .u8 z) := by
  obtain ⟨b, o, e, hc⟩ := h.rd.at_ k (by have := h.rd.len; omega)
  simp only [Option.some.injEq, Addr.mk.injEq, and_true] at e
  obtain ⟨rfl, rfl⟩ := e
  rw [Nat.zero_add] at hc
  exact ⟨_, hc⟩
theorem xor8 (x K : Nat) (hx : x < 256) (hK : K < 256) : ∃ v : UInt8, bits .xor .u8 (x : Int) (K : Int) = (v.toNat : Int) := by
  refine ⟨UInt8.ofNat (x ^^^ K), ?_⟩
  have : x ^^^ K < 256 := Nat.xor_lt_two_pow (n := 8) hx hK
  rw [u8_xor_nat _ _ hx hK, UInt8.toNat_ofNat', Nat.mod_eq_of_lt this]
theorem or1 (K : Nat) (hK : K < 256) : ∃ q : Nat, q < 256 ∧ bits .or .u8 (K : Int) 1 = (q : Int) := 
  ⟨K ||| 1, Nat.or_lt_two_pow (n := 8) hK (by decide), u8_or_nat K 1 hK (by decide)⟩

theorem spoil_any (w : World) (B : Nat) (A : Option Addr) (n c : Nat) (xs : List UInt8) (h : Ob w B A n c xs) (hn : n ≤ 999999000) (hB : B ≤ w.heap.size) (K : Nat) (hK : K ≤ 200) :
    Calls Tryd.prog 21 #[.slice A n c, .int .u8 (K : Int)] w fun e w' => e = .returned (.tuple #[]) ∧ Chg w w' (inA A) := by
  have HO := Lib.hid h
  have hcap := h.rd.le
  have hmax := h.rd.max
  obtain ⟨q, hq, hqe⟩ := or1 K (by omega)
  have hk1 : ((K : Int) + 1) % 256 = (K : Int) + 1 := by omega
  have hk2 : ((K : Int) + 2) % 256 = (K : Int) + 2 := by omega
  clear h
  go_enter Tryd.func21, Tryd.ntmps21
  go_wp2
  go_loopw [4] (fun i wr => ∃ (k : Nat) (zs : List UInt8), k ≤ n ∧ i = .int .i64 k ∧ Hid (Ob wr B A n c zs) ∧ Hid (Chg w wr (inA A))) (fun i _ => n - (intOf i).toNat)
  case atStart => exact ⟨0, xs, Nat.zero_le _, rfl, HO, Chg.refl _ _⟩
  case round =>
    obtain ⟨k, zs, hk, rfl, HO, HC⟩ := hrel
    by_cases hlt : k < n
    · obtain ⟨g, rfl, hg⟩ := HO.out.form (by omega)
      have hlz := HO.out.rd.len
      obtain ⟨b, o, e, hc⟩ := HO.out.rd.at_ k (by omega)
      simp only [Option.some.injEq, Addr.mk.injEq, and_true] at e
      obtain ⟨rfl, rfl⟩ := e
      rw [Nat.zero_add] at hc
      have hf := HO.out.frz k
      have hx8 : (zs[k]'(by omega)).toNat < 256 := UInt8.toNat_lt _
      generalize (zs[k]'(by omega)).toNat = X at hc hx8
      obtain ⟨v, hv⟩ := xor8 X q hx8 hq
      go_wp2
      go_roundw
      case rel => 
        refine ⟨k + 1, zs.set k v, by omega, by go_num, ?_, ?_⟩
        · exact HO.out.put k v _ rfl
        · exact Chg.set (a := ⟨g, k, none⟩) HC.out (fun _ => ⟨_, rfl, rfl⟩) _
      case measure => simp [intOf]; omega
    · have hlz := HO.out.rd.len
      have HB : Hid (B ≤ (wr.alloc (.cells #[.int .u8 (K : Int), .int .u8 ((K : Int) + 1), .int .u8 ((K : Int) + 2)] 5)).heap.size) := by
        have := HC.out.size
        simp
        show B ≤ _
        omega
      have HR : Hid (Rd (wr.alloc (.cells #[.int .u8 (K : Int), .int .u8 ((K : Int) + 1), .int .u8 ((K : Int) + 2)] 5)) (some ⟨wr.heap.size, 0, none⟩) 3 3 [u8of K, u8of (K + 1), u8of (K + 2)]) := by
        have := Rd.ofBlk (xs := [u8of K, u8of (K + 1), u8of (K + 2)]) (w := wr.alloc (.cells #[.int .u8 (K : Int), .int .u8 ((K : Int) + 1), .int .u8 ((K : Int) + 2)] 5)) (g := wr.heap.size) (by
          have h0 := Blk.new wr #[.int .u8 (K : Int), .int .u8 ((K : Int) + 1), .int .u8 ((K : Int) + 2)] 5
          simp only [bs, List.map_cons, List.map_nil]
          rw [u8of_toNat (by omega) (by omega), u8of_toNat (by omega) (by omega), u8of_toNat (by omega) (by omega)]
          exact h0) (by simp)
        exact this
      have HOA := Lib.hid (HO.out.alloc (.cells #[.int .u8 (K : Int), .int .u8 ((K : Int) + 1), .int .u8 ((K : Int) + 2)] 5))
      go_wp2_with (at_builtin; refine wpl_append_b rfl (.tmp 21) (.tmp 27) rfl rfl HOA.out rfl HR.out (by omega) HB.out ?_; intro A2 c2 w2 hown2 hchg2 hin2; obtain ⟨g2, rfl, hg2⟩ := hown2.form (by omega); have hf2 := hown2.frz (n + 2); obtain ⟨z2, hz2⟩ := hown2.cellX (n + 2) (by omega); have hle2 := hown2.rd.le; have hb2 : g2 < w2.heap.size := (hown2.lt ⟨_, rfl, rfl⟩).2; have HA := Lib.hid (And.intro hown2 (And.intro hchg2 hin2)); clear hown2 hchg2 hin2)
      go_returns
      refine ⟨rfl, ?_⟩
      refine Chg.set (a := ⟨g2, n + 2, none⟩) ((HC.out.alloc _).trans' HA.out.2.1) (fun hlt' => ?_) _
      rcases HA.out.2.2 g2 ⟨_, rfl, rfl⟩ with h | h
      · exact h
      · have h' : g2 < w.heap.size := hlt'
        have := HC.out.size
        simp at h
        omega

/-- One bit turned over. -/
def flipB (xs : List UInt8) (k : Nat) : List UInt8 := xs.set (k / 8) (UInt8.ofNat ((xs.getD (k / 8) 0).toNat ^^^ 2 ^ (k % 8)))
theorem flipB_length (xs : List UInt8) (k : Nat) : (flipB xs k).length = xs.length := by simp [flipB]
theorem pow8 (j : Nat) (h : j < 8) : 2 ^ j < 256 := Nat.pow_lt_pow_right (by decide) h (n := 8)

theorem flip_any (w : World) (B : Nat) (A : Option Addr) (n c : Nat) (xs : List UInt8) (h : Ob w B A n c xs) (k : Nat) (hk : k < 8 * n) (hn : n ≤ 999999000) :
    Calls Tryd.prog 24 #[.slice A n c, .int .i64 (k : Int)] w fun e w' => e = .returned (.tuple #[]) ∧ Ob w' B A n c (flipB xs k) ∧ Chg w w' (inA A) := by
  have HO := Lib.hid h
  obtain ⟨g, rfl, hg⟩ := h.form (by omega)
  have hlz := h.rd.len
  obtain ⟨b, o, e, hc⟩ := h.rd.at_ (k / 8) (by omega)
  simp only [Option.some.injEq, Addr.mk.injEq, and_true] at e
  obtain ⟨rfl, rfl⟩ := e
  rw [Nat.zero_add] at hc
  have hf := h.frz (k / 8)
  have hle := h.rd.le
  clear h
  have hx8 : (xs[k / 8]'(by omega)).toNat < 256 := UInt8.toNat_lt _
  have hX : Hid ((xs.getD (k / 8) 0).toNat = (xs[k / 8]'(by omega)).toNat) := by
    rw [List.getD_eq_getElem?_getD, List.getElem?_eq_getElem (by omega)]
    exact rfl
  generalize (xs[k / 8]'(by omega)).toNat = X at hc hx8 hX
  have hp := pow8 (k % 8) (by omega)
  have hxor : bits .xor .u8 (X : Int) ((2 ^ (k % 8) : Nat) : Int) = ((X ^^^ 2 ^ (k % 8) : Nat) : Int) := u8_xor_nat _ _ hx8 hp
  have hj : k / 8 < n := by omega
  obtain ⟨j, hjd⟩ : ∃ j, j = k / 8 := ⟨_, rfl⟩
  obtain ⟨r, hrd⟩ : ∃ r, r = k % 8 := ⟨_, rfl⟩
  have hr8 : r < 8 := by omega
  have hq : ((k : Int)).tdiv 8 = (j : Int) := by rw [Int.tdiv_eq_ediv_of_nonneg (by omega)]; omega
  have hm : ((k : Int)).tmod 8 = (r : Int) := by rw [Int.tmod_eq_emod_of_nonneg (by omega)]; omega
  rw [← hjd] at hc hf hX hj
  rw [← hrd] at hxor hp
  have HJ := Lib.hid hjd
  have HR := Lib.hid hrd
  clear hjd hrd hk
  go_enter Tryd.func24, Tryd.ntmps24
  go_wp2
  go_returns
  have hpI : ((2 : Int) ^ r % 256) = ((2 ^ r : Nat) : Int) := by
    rw [show (2 : Int) ^ r = ((2 ^ r : Nat) : Int) from (Int.natCast_pow 2 r).symm]
    exact Int.emod_eq_of_lt (Int.natCast_nonneg _) (Int.ofNat_lt.2 hp)
  rw [hpI, hxor]
  have hl : X ^^^ 2 ^ r < 256 := Nat.xor_lt_two_pow (n := 8) hx8 hp
  refine ⟨rfl, ?_, Chg.set (a := ⟨g, j, none⟩) (Chg.refl _ _) (fun _ => ⟨_, rfl, rfl⟩) _⟩
  unfold flipB
  rw [← HJ.out, ← HR.out, hX.out]
  exact HO.out.put j _ _ (by rw [UInt8.toNat_ofNat', Nat.mod_eq_of_lt hl])
end Go.Proofs.YtbhmnkpbaeemeaaDoor

/-! # W21 -/
namespace Go.Proofs.YtbhmnkpbaeemeaaDoor
open Go.RowKit

theorem UnfErr.no {b : List UInt8} {c a : Nat} (h : UnfErr b c a) : ¬ UnfOk b := by
  intro k
  have h1 := k.max
  have h2 := k.min
  have h3 := k.magic
  have h4 := k.version
  have h5 := k.size
  have h6 := k.sum
  cases h <;> first | omega | contradiction
theorem UnfErr.det {b : List UInt8} {c a c' a' : Nat} (h : UnfErr b c a) (k : UnfErr b c' a') : c = c' ∧ a = a' := by
  cases h <;> cases k <;> first | exact ⟨rfl, rfl⟩ | (exfalso; omega) | (exfalso; contradiction)
theorem UnfErr.ne {b : List UInt8} {c a : Nat} (h : UnfErr b c a) : (c : Int) ≠ 0 := by cases h <;> decide
theorem UnfErr.le {b : List UInt8} {c a : Nat} (h : UnfErr b c a) : c ≤ 28 := by cases h <;> decide

/-- What an error of the program's says. -/
def ErrIs (w : World) (err : Value) (code at_ : Int) : Prop :=
  (err = .nilIface ∧ code = 0 ∧ at_ = 0) ∨ (∃ p, err = .iface 129 (.pointer (some ⟨p, 0, none⟩)) ∧ ErrAt w p code at_ ∧ code ≠ 0)
theorem ErrIs.below {w w' : World} {err : Value} {code at_ : Int} (h : ErrIs w err code at_) (hb : Below w.heap.size w w') : ErrIs w' err code at_ := by
  rcases h with h | ⟨p, h1, h2, h3⟩
  · exact .inl h
  · exact .inr ⟨p, h1, Blk.kept h2 hb, h3⟩
theorem told_any (w : World) (err : Value) (code at_ : Int) (h : ErrIs w err code at_) :
    Calls Tryd.prog 19 #[err] w fun e w' => e = .returned (.tuple #[.int .i64 code, .int .i64 at_]) ∧ ∃ q, w' = w.drewN q := by
  rcases h with ⟨rfl, rfl, rfl⟩ | ⟨p, rfl, h2, h3⟩
  · exact (told_nil w).mono fun e w' ⟨h1, h2⟩ => ⟨h1, 0, h2.symm⟩
  · exact told_err w p code at_ h2 h3

theorem wunframe_any (w : World) (A : Option Addr) (n c : Nat) (b : List UInt8) (hx : Rd w A n c b) (hn : n ≤ 1000000000) (hT : Tab w) :
    Calls Tryd.prog 23 #[.slice A n c] w fun e w' => UnfBad w w' e b ∨ UnfGood w w' e b := by
  by_cases hs : 65507 < n ∨ n < 12
  · exact (wunframe_size w A n c b hx hn hs).mono fun e w' h => .inl h
  · exact wunframe_main w A n c b hx (by omega) (by omega) hT
theorem runframe_any (w : World) (A : Option Addr) (n c : Nat) (b : List UInt8) (hx : Rd w A n c b) (hn : n ≤ 1000000000) :
    Calls Tryd.prog 67 #[.slice A n c] w fun e w' => RUnfBad w w' e b ∨ RUnfGood w w' e b := by
  by_cases hs : 65507 < n ∨ n < 12
  · exact (runframe_size w A n c b hx hn hs).mono fun e w' h => .inl h
  · by_cases hk : UnfOk b
    · exact (runframe_good w A n c b hx hk).mono fun e w' h => .inr h
    · exact (runframe_bad w A n c b hx (by omega) (by omega) hk).mono fun e w' h => .inl h

/-- What both Unframes give at the same bytes. -/
def UnfW (w w' : World) (e : Ending) (kv : Nat) (body : List UInt8) (code at_ : Int) : Prop :=
  ∃ A m c err, e = .returned (.tuple #[.int .u8 (kv : Int), .slice A m c, err]) ∧ Ob w' w.heap.size A m c body ∧ ErrIs w' err code at_ ∧ Below w.heap.size w w'
def UnfR (w w' : World) (e : Ending) (kv : Nat) (body : List UInt8) (code at_ : Int) : Prop :=
  ∃ A m c, e = .returned (.tuple #[.int .i64 (kv : Int), .slice A m c, .agg #[.int .i64 code, .int .i64 at_]]) ∧ Ob w' w.heap.size A m c body ∧ Below w.heap.size w w'

theorem unf_both (b : List UInt8) (hb : b.length ≤ 1000000000) : ∃ (kv : Nat) (body : List UInt8) (code at_ : Int), kv < 256 ∧
    (∀ w A c, Rd w A b.length c b → Tab w → Calls Tryd.prog 23 #[.slice A b.length c] w fun e w' => UnfW w w' e kv body code at_) ∧
    (∀ w A c, Rd w A b.length c b → Calls Tryd.prog 67 #[.slice A b.length c] w fun e w' => UnfR w w' e kv body code at_) ∧ (UnfOk b → code = 0 ∧ kv = kd b ∧ body = bodyOf b) ∧ (¬ UnfOk b → code ≠ 0) ∧ body.length ≤ 65507 := by
  by_cases hk : UnfOk b
  · refine ⟨kd b, bodyOf b, 0, 0, kd_lt b, ?_, ?_, fun _ => ⟨rfl, rfl, rfl⟩, fun h => absurd hk h, by have := hk.max; unfold bodyOf; rw [List.length_take]; omega⟩
    · intro w A c hx hT
      refine (wunframe_any w A _ c b hx hb hT).mono ?_
      rintro e w' (⟨code, at_, p, hE, _⟩ | ⟨A', m, _, rfl, ho, hbl⟩)
      · exact absurd hk hE.no
      · exact ⟨A', m, m, .nilIface, rfl, ho, .inl ⟨rfl, rfl, rfl⟩, hbl⟩
    · intro w A c hx
      refine (runframe_any w A _ c b hx hb).mono ?_
      rintro e w' (⟨code, at_, hE, _⟩ | ⟨A', m, c', _, rfl, ho, hbl⟩)
      · exact absurd hk hE.no
      · exact ⟨A', m, c', rfl, ho, hbl⟩
  · obtain ⟨code, at_, hE⟩ : ∃ code at_, UnfErr b code at_ := by
      by_cases h1 : 65507 < b.length
      · exact ⟨_, _, .long h1⟩
      by_cases h2 : b.length < 12
      · exact ⟨_, _, .short h2⟩
      by_cases h3 : hd2 b ≠ 20813
      · exact ⟨_, _, .magic (by omega) (by omega) h3⟩
      replace h3 := Decidable.not_not.1 h3
      by_cases h4 : ver b ≠ 1
      · exact ⟨_, _, .version (by omega) (by omega) h3 h4⟩
      replace h4 := Decidable.not_not.1 h4
      by_cases h5 : b.length < 12 + sz b
      · exact ⟨_, _, .less (by omega) (by omega) h3 h4 h5⟩
      by_cases h6 : 12 + sz b < b.length
      · exact ⟨_, _, .more (by omega) (by omega) h3 h4 h6⟩
      by_cases h7 : sumOk b
      · exact absurd ⟨by omega, by omega, h3, h4, by omega, h7⟩ hk
      · exact ⟨_, _, .sum (by omega) (by omega) h3 h4 (by omega) h7⟩
    refine ⟨0, [], code, at_, by decide, ?_, ?_, fun h => absurd h hk, fun _ => hE.ne, by simp⟩
    · intro w A c hx hT
      refine (wunframe_any w A _ c b hx hb hT).mono ?_
      rintro e w' (⟨code', at', p, hE', rfl, he, hp, hbl⟩ | ⟨A', m, hok, _⟩)
      · obtain ⟨rfl, rfl⟩ := hE.det hE'
        exact ⟨none, 0, 0, _, rfl, Ob.nil _ _, .inr ⟨p, rfl, he, hE.ne⟩, hbl⟩
      · exact absurd hok hk
    · intro w A c hx
      refine (runframe_any w A _ c b hx hb).mono ?_
      rintro e w' (⟨code', at', hE', rfl, hbl⟩ | ⟨A', m, c', hok, _⟩)
      · obtain ⟨rfl, rfl⟩ := hE.det hE'
        exact ⟨none, 0, 0, rfl, Ob.nil _ _, hbl⟩
      · exact absurd hok hk

/-- What both Frames give at the same kind and bytes. -/
def FrmW (w w' : World) (e : Ending) (out : List UInt8) (code at_ : Int) : Prop :=
  ∃ A m c err, e = .returned (.tuple #[.slice A m c, err]) ∧ Ob w' w.heap.size A m c out ∧ ErrIs w' err code at_ ∧ Below w.heap.size w w'
def FrmR (w w' : World) (e : Ending) (out : List UInt8) (code at_ : Int) : Prop :=
  ∃ A m c, e = .returned (.tuple #[.slice A m c, .agg #[.int .i64 code, .int .i64 at_]]) ∧ Ob w' w.heap.size A m c out ∧ Below w.heap.size w w'
theorem frm_both (K : UInt8) (b : List UInt8) (hb : b.length ≤ 1000000000) : ∃ (out : List UInt8) (code at_ : Int),
    (∀ w A c, Rd w A b.length c b → Tab w → Calls Tryd.prog 18 #[.int .u8 (K.toNat : Int), .slice A b.length c] w fun e w' => FrmW w w' e out code at_) ∧
    (∀ w A c, Rd w A b.length c b → Calls Tryd.prog 17 #[.int .i64 (K.toNat : Int), .slice A b.length c] w fun e w' => FrmR w w' e out code at_) ∧ out.length ≤ 65507 ∧ (b.length ≤ 65495 → out = frameL K b ∧ code = 0) := by
  by_cases hl : 65495 < b.length
  · refine ⟨[], 21, 65507, ?_, ?_, by simp, fun h => absurd h (by omega)⟩
    · intro w A c hx hT
      refine (wframe_long w _ A _ c hl).mono ?_
      rintro e w' ⟨p, rfl, he, hp, hbl⟩
      exact ⟨none, 0, 0, _, rfl, Ob.nil _ _, .inr ⟨p, rfl, he, by decide⟩, hbl⟩
    · intro w A c hx
      refine (refFrame_long w _ A _ c hl hb).mono ?_
      rintro e w' ⟨rfl, hbl⟩
      exact ⟨none, 0, 0, rfl, Ob.nil _ _, hbl⟩
  · refine ⟨frameL K b, 0, 0, ?_, ?_, ?_, fun _ => ⟨rfl, rfl⟩⟩
    · intro w A c hx hT
      refine (wframe_good w K A _ c b hx (by omega) hT).mono ?_
      rintro e w' ⟨A', rfl, ho, hbl⟩
      exact ⟨A', _, _, _, rfl, ho, .inl ⟨rfl, rfl, rfl⟩, hbl⟩
    · intro w A c hx
      refine (refFrame_good w K A _ c b hx (by omega)).mono ?_
      rintro e w' ⟨A', c', rfl, ho, hbl⟩
      exact ⟨A', _, c', rfl, ho, hbl⟩
    · rw [frameL, List.length_append, preL_length, show (lowR (Crc.sum (preL K b)) 4).length = 4 by simp [lowR]]
      omega
end Go.Proofs.YtbhmnkpbaeemeaaDoor
