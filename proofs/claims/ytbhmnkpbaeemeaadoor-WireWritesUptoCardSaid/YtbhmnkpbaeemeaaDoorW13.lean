import Derived.Test.YtbhmnkpbaeemeaaDoorW12
set_option linter.unusedVariables false
set_option linter.unusedSimpArgs false
namespace Go.Proofs.YtbhmnkpbaeemeaaDoor
open Go.RowKit

/-! ### The reader -/
structure RdS where
  made : Bool
  bad : Bool
  code : Int
  at_ : Int
  buf : List UInt8
  off : Nat

structure Rdr (w : World) (p : Nat) (A : Option Addr) (c : Nat) (s : RdS) : Prop where
  blk : Blk w p #[.bool s.made, .bool s.bad, .int .i64 s.code, .int .i64 s.at_, .slice A s.buf.length c, .int .i64 (s.off : Int)] 64
  row : Ob w 0 A s.buf.length c s.buf
  ne : ¬ inA A p
  le : s.off ≤ s.buf.length
  small : s.buf.length ≤ 1000000000

section
variable {w w' : World} {p : Nat} {A : Option Addr} {c : Nat} {s : RdS}
theorem Rdr.chg {F : Nat → Prop} (h : Rdr w p A c s) (hc : Chg w w' F) (hF : ∀ k, wrF p A k → ¬ F k) : Rdr w' p A c s :=
  ⟨h.blk.chg hc (hF _ (.inl rfl)), h.row.chg hc fun k hk => hF k (.inr hk), h.ne, h.le, h.small⟩
theorem Rdr.below (h : Rdr w p A c s) (hc : Below w.heap.size w w') : Rdr w' p A c s := h.chg (Chg.ofBelow hc fun _ => False) fun _ _ => id
theorem Rdr.lt (h : Rdr w p A c s) {k : Nat} (hk : wrF p A k) : k < w.heap.size := by
  rcases hk with rfl | hk
  · exact h.blk.lt
  · exact (h.row.lt hk).2
theorem Rdr.drewN (h : Rdr w p A c s) (n : Nat) : Rdr (w.drewN n) p A c s := ⟨h.blk, h.row, h.ne, h.le, h.small⟩
theorem Rdr.drew (h : Rdr w p A c s) : Rdr w.drew p A c s := ⟨h.blk, h.row, h.ne, h.le, h.small⟩

theorem Rdr.failed (h : Rdr w p A c s) (code at_ : Int) :
    Rdr (((w.setCell ⟨p, 1, none⟩ (.bool true)).setCell ⟨p, 2, none⟩ (.int .i64 code)).setCell ⟨p, 3, none⟩ (.int .i64 at_)) p A c { s with bad := true, code := code, at_ := at_ } := by
  have hc : Chg w (((w.setCell ⟨p, 1, none⟩ (.bool true)).setCell ⟨p, 2, none⟩ (.int .i64 code)).setCell ⟨p, 3, none⟩ (.int .i64 at_)) (· = p) := by
    refine Chg.set (Chg.set (Chg.set (Chg.refl _ _) ?_ _) ?_ _) ?_ _ <;> exact fun _ => rfl
  refine ⟨?_, h.row.chg hc (fun k hk e => h.ne (by subst e; exact hk)), h.ne, h.le, h.small⟩
  exact ((h.blk.set 1 (.bool true)).set 2 (.int .i64 code)).set 3 (.int .i64 at_)
theorem Rdr.moved (h : Rdr w p A c s) (o : Nat) (ho : o ≤ s.buf.length) : Rdr (w.setCell ⟨p, 5, none⟩ (.int .i64 (o : Int))) p A c { s with off := o } := by
  have hc : Chg w (w.setCell ⟨p, 5, none⟩ (.int .i64 (o : Int))) (· = p) := by
    refine Chg.set (Chg.refl _ _) ?_ _
    exact fun _ => rfl
  refine ⟨?_, h.row.chg hc (fun k hk e => h.ne (by subst e; exact hk)), h.ne, ho, h.small⟩
  exact h.blk.set 5 _
end

theorem chg_failed1 (w : World) (p : Nat) (code at_ : Int) :
    Chg w (((w.setCell ⟨p, 1, none⟩ (.bool true)).setCell ⟨p, 2, none⟩ (.int .i64 code)).setCell ⟨p, 3, none⟩ (.int .i64 at_)) (· = p) := by
  refine Chg.set (Chg.set (Chg.set (Chg.refl _ _) ?_ _) ?_ _) ?_ _ <;> exact fun _ => rfl

theorem Ob.form {w : World} {B : Nat} {A : Option Addr} {n c : Nat} {xs : List UInt8} (h : Ob w B A n c xs) (h0 : 0 < n) : ∃ g, A = some ⟨g, 0, none⟩ ∧ B ≤ g := by
  obtain ⟨h1, h2⟩ := h
  rcases h2 with ⟨_, h2⟩ | ⟨g, cap, cur, e, hg, r⟩
  · omega
  · cases e
    exact ⟨g, rfl, hg⟩

/-- A piece of what reads as bytes. -/
theorem Rd.piece {w : World} {b o n c : Nat} {xs : List UInt8} (h : Rd w (some ⟨b, o, none⟩) n c xs) (i j : Nat) (hij : i ≤ j) (hj : j ≤ n) : Rd w (some ⟨b, o + i, none⟩) (j - i) (c - i) ((xs.drop i).take (j - i)) :=
  ⟨by have := h.len; simp; omega, by have := h.le; omega, by have := h.max; omega, (fun e => by cases e), fun k hk => by
    have hk' : k < j - i := by simp at hk; omega
    obtain ⟨b', o', e, hc⟩ := h.at_ (i + k) (by have := h.len; omega)
    cases e
    refine ⟨b, o + i, rfl, ?_⟩
    rw [Nat.add_assoc, hc]
    simp [List.getElem_take, List.getElem_drop]⟩

def RdS.stuck (s : RdS) : Bool := !s.made || s.bad
def RdS.short (s : RdS) : RdS := { s with bad := true, code := 20, at_ := s.off }
def RdS.step (s : RdS) (n : Nat) : RdS := { s with off := s.off + n }

theorem take_stuck (w : World) (p : Nat) (A : Option Addr) (c : Nat) (s : RdS) (h : Rdr w p A c s) (n : Int) (hs : s.stuck = true) :
    Calls Tryd.prog 166 #[.pointer (some ⟨p, 0, none⟩), .int .i64 n] w fun e w' => e = .returned (.slice none 0 0) ∧ w = w' := by
  have S := stuck_any w p s.made s.bad ((h.blk.cell 0).trans rfl) ((h.blk.cell 1).trans rfl)
  rw [show (!s.made || s.bad) = true from hs] at S
  have HS := Lib.hid S; clear S h hs
  go_enter Tryd.func166, Tryd.ntmps166
  go_wp2_with (go_at_call 132; refine HS.out.mono ?_; rintro e w' ⟨rfl, rfl⟩)
  go_ret
  exact ⟨rfl, rfl⟩

theorem take_short (w : World) (p : Nat) (A : Option Addr) (c : Nat) (s : RdS) (h : Rdr w p A c s) (n : Nat) (hs : s.stuck = false) (hn : s.buf.length < s.off + n) (hm : n ≤ 1000000000) :
    Calls Tryd.prog 166 #[.pointer (some ⟨p, 0, none⟩), .int .i64 (n : Int)] w fun e w' => e = .returned (.slice none 0 0) ∧ Rdr w' p A c s.short ∧ Chg w w' (· = p) := by
  have S := stuck_any w p s.made s.bad ((h.blk.cell 0).trans rfl) ((h.blk.cell 1).trans rfl)
  rw [show (!s.made || s.bad) = false from hs] at S
  have HS := Lib.hid S; clear S
  have hbad : s.bad = false := by unfold RdS.stuck at hs; simp at hs; exact hs.2
  have c4 : w.cell? ⟨p, 4, none⟩ = some (.slice A s.buf.length c) := h.blk.cell 4
  have c5 : w.cell? ⟨p, 5, none⟩ = some (.int .i64 (s.off : Int)) := h.blk.cell 5
  have hle := h.le
  have hsm := h.small
  have FF : ∀ k, Hid (Calls Tryd.prog 133 #[.pointer (some ⟨p, 0, none⟩), .int .i64 20, .int .i64 (s.off : Int)] (w.drewN k) fun e w' => e = .returned (.tuple #[]) ∧
      w' = (((w.drewN k).setCell ⟨p, 1, none⟩ (.bool true)).setCell ⟨p, 2, none⟩ (.int .i64 20)).setCell ⟨p, 3, none⟩ (.int .i64 (s.off : Int))) := fun k =>
    fail_good (w.drewN k) p 20 s.off _ _ (h.blk.drewN k) (by show some (Value.bool s.bad) = _; rw [hbad]) (by show 3 < 6; omega)
  have Hb := Lib.hid hbad; clear hbad hs
  have H := Lib.hid h; clear h
  go_enter Tryd.func166, Tryd.ntmps166
  go_wp2_with (go_at_call 132; refine HS.out.mono ?_; rintro e w' ⟨rfl, rfl⟩)
  go_quiet (fail)
  go_wp2
  go_region_with (go_at_call 133; refine (FF (nq + 1)).out.mono ?_; rintro e w' ⟨rfl, rfl⟩)
  all_goals
    go_wp2
    go_ret
    exact ⟨rfl, (H.out.drewN (nq + 1)).failed 20 _, ((Chg.refl _ _).drewN (nq + 1)).trans' (chg_failed1 _ p 20 _)⟩

theorem take_good (w : World) (p : Nat) (A : Option Addr) (c : Nat) (s : RdS) (h : Rdr w p A c s) (n : Nat) (hs : s.stuck = false) (hn : s.off + n ≤ s.buf.length) (h0 : 0 < n) :
    Calls Tryd.prog 166 #[.pointer (some ⟨p, 0, none⟩), .int .i64 (n : Int)] w fun e w' => ∃ A' c', e = .returned (.slice A' n c') ∧ Rdr w' p A c (s.step n) ∧ Rd w' A' n c' ((s.buf.drop s.off).take n) ∧ Chg w w' (· = p) := by
  have S := stuck_any w p s.made s.bad ((h.blk.cell 0).trans rfl) ((h.blk.cell 1).trans rfl)
  rw [show (!s.made || s.bad) = false from hs] at S
  have HS := Lib.hid S; clear S
  obtain ⟨g, rfl, _⟩ := h.row.form (by omega)
  have hcap := h.row.rd.le
  have c4 : w.cell? ⟨p, 4, none⟩ = some (.slice (some ⟨g, 0, none⟩) s.buf.length c) := h.blk.cell 4
  have c5 : w.cell? ⟨p, 5, none⟩ = some (.int .i64 (s.off : Int)) := h.blk.cell 5
  have f5 := h.blk.frozen 5
  have hle := h.le
  have hsm := h.small
  have fin : ∀ q : Nat, Rdr ((w.drewN q).setCell ⟨p, 5, none⟩ (.int .i64 ((s.off : Int) + (n : Int)))) p (some ⟨g, 0, none⟩) c (s.step n) := fun q => by
    have := (h.drewN q).moved (s.off + n) hn
    rw [Int.natCast_add] at this
    exact this
  have Fin := Lib.hid fin; clear fin hs
  have H := Lib.hid h; clear h
  go_enter Tryd.func166, Tryd.ntmps166
  go_wp2_with (go_at_call 132; refine HS.out.mono ?_; rintro e w' ⟨rfl, rfl⟩)
  go_quiet (fail)
  go_wp2
  go_quiet (fail)
  go_wp2
  go_ret
  have hch : ∀ a b : Nat, Chg w (((w.drewN a).setCell ⟨p, 5, none⟩ (.int .i64 ((s.off : Int) + (n : Int)))).drewN b) (· = p) := fun a b => by
    refine Chg.drewN (Chg.set ((Chg.refl _ _).drewN a) ?_ _) b
    exact fun _ => rfl
  refine ⟨some ⟨g, s.off, none⟩, c - s.off, ?_, (Fin.out _).drewN _, ?_, hch _ _⟩
  · show Ending.returned (.slice _ (s.off + n - s.off) _) = _
    rw [Nat.add_sub_cancel_left]
  · have hp := H.out.row.rd.piece s.off (s.off + n) (by omega) hn
    rw [Nat.add_sub_cancel_left, Nat.zero_add] at hp
    refine hp.chg (hch _ _) fun _ k hk e => H.out.ne ?_
    subst e
    rw [inA_some] at hk
    rw [hk]
    exact inA_some.2 rfl

/-! ### numbers of fixed width -/
def beV (l : List UInt8) : Nat := l.foldl (fun v x => v * 256 + x.toNat) 0
theorem beV_snoc (l : List UInt8) (x : UInt8) : beV (l ++ [x]) = beV l * 256 + x.toNat := by simp [beV]
theorem beV_lt' (l : List UInt8) : ∀ a : Nat, l.foldl (fun v x => v * 256 + x.toNat) a < (a + 1) * 256 ^ l.length := by
  induction l with
  | nil => intro a; simp
  | cons x l ih =>
    intro a
    have h1 := ih (a * 256 + x.toNat)
    have hx := x.toNat_lt
    simp only [List.foldl_cons, List.length_cons, Nat.pow_succ]
    refine Nat.lt_of_lt_of_le h1 ?_
    rw [show (a + 1) * (256 ^ l.length * 256) = ((a + 1) * 256) * 256 ^ l.length by rw [Nat.mul_comm (256 ^ l.length), ← Nat.mul_assoc]]
    exact Nat.mul_le_mul_right _ (by omega)
theorem beV_lt (l : List UInt8) : beV l < 256 ^ l.length := by
  have := beV_lt' l 0
  simpa [beV] using this

theorem orByte (v x : Nat) (hv : v < 72057594037927936) (hx : x < 256) : bits .or .u64 ((v : Int) * 256) (x : Int) = ((v * 256 + x : Nat) : Int) := by
  rw [u64_or _ _ (by omega) (by omega) (by omega) (by omega), show ((v : Int) * 256).toNat = v * 256 by omega, Int.toNat_natCast, nat_join 8 (v * 256) x (by omega) (by omega)]

/-- What sum gives, and the reader behind it. -/
def RdS.sumV (s : RdS) (n : Nat) : Nat := if s.stuck then 0 else if s.buf.length < s.off + n then 0 else beV ((s.buf.drop s.off).take n)
def RdS.sumS (s : RdS) (n : Nat) : RdS := if s.stuck then s else if s.buf.length < s.off + n then s.short else s.step n

theorem sum_none (P : Program) (w : World) : True := trivial

theorem take_any (w : World) (p : Nat) (A : Option Addr) (c : Nat) (s : RdS) (h : Rdr w p A c s) (n : Nat) (h0 : 0 < n) (hm : n ≤ 1000000000) :
    Calls Tryd.prog 166 #[.pointer (some ⟨p, 0, none⟩), .int .i64 (n : Int)] w fun e w' => ∃ A' m c' ys, e = .returned (.slice A' m c') ∧ Rdr w' p A c (s.sumS n) ∧ Rd w' A' m c' ys ∧ beV ys = s.sumV n ∧ m ≤ n ∧ Chg w w' (· = p) := by
  unfold RdS.sumS RdS.sumV
  by_cases hs : s.stuck = true
  · rw [if_pos hs, if_pos hs]
    refine (take_stuck w p A c s h n hs).mono ?_
    rintro e w' ⟨rfl, rfl⟩
    exact ⟨none, 0, 0, [], rfl, h, Rd.nilRd w, rfl, by omega, Chg.refl _ _⟩
  · rw [if_neg hs, if_neg hs]
    have hs' : s.stuck = false := by simpa using hs
    by_cases hl : s.buf.length < s.off + n
    · rw [if_pos hl, if_pos hl]
      refine (take_short w p A c s h n hs' hl hm).mono ?_
      rintro e w' ⟨rfl, h1, h2⟩
      exact ⟨none, 0, 0, [], rfl, h1, Rd.nilRd w', rfl, by omega, h2⟩
    · rw [if_neg hl, if_neg hl]
      refine (take_good w p A c s h n hs' (by omega) h0).mono ?_
      rintro e w' ⟨A', c', rfl, h1, h2, h3⟩
      exact ⟨A', n, c', _, rfl, h1, h2, rfl, Nat.le_refl _, h3⟩

set_option maxRecDepth 100000 in
theorem sum_any (w : World) (p : Nat) (A : Option Addr) (c : Nat) (s : RdS) (h : Rdr w p A c s) (n : Nat) (h0 : 0 < n) (hn : n ≤ 8) :
    Calls Tryd.prog 134 #[.pointer (some ⟨p, 0, none⟩), .int .i64 (n : Int)] w fun e w' => e = .returned (.int .u64 (s.sumV n : Int)) ∧ Rdr w' p A c (s.sumS n) ∧ Chg w w' (· = p) := by
  have HT := Lib.hid (take_any w p A c s h n h0 (by omega))
  clear h
  go_enter Tryd.func134, Tryd.ntmps134
  go_wp2_with (go_at_call 166; refine HT.out.mono ?_; rintro e w1 ⟨A1, m, c1, ys, rfl, hr, hy, hv, hm, hch⟩)
  have HR := Lib.hid hr
  have HC := Lib.hid hch
  have HV := Lib.hid hv
  have hl := hy.len
  have hle := hy.le
  have hmx := hy.max
  have ha := hy.at_
  subst hl
  have Ha := Lib.hid ha
  clear hr hch hv ha hy
  go_loop [5, 12] (fun v i => ∃ k V : Nat, k ≤ ys.length ∧ i = .int .i64 k ∧ v = .int .u64 (V : Int) ∧ Hid (V = beV (ys.take k))) (fun _ i => ys.length - (intOf i).toNat)
  case atStart => exact ⟨0, 0, Nat.zero_le _, rfl, rfl, rfl⟩
  case round =>
    obtain ⟨k, V, hk, rfl, rfl, HVk⟩ := hrel
    by_cases hlt : k < ys.length
    · obtain ⟨b, o, rfl, hc⟩ := Ha.out k hlt
      have hX : (ys[k]'hlt).toNat < 256 := (ys[k]'hlt).toNat_lt
      have hV : V < 72057594037927936 := by
        have h1 := beV_lt (ys.take k)
        rw [List.length_take, Nat.min_eq_left hk, ← HVk.out] at h1
        have h2 : 256 ^ k ≤ 256 ^ 7 := Nat.pow_le_pow_right (by omega) (by omega)
        have h3 : (256 : Nat) ^ 7 = 72057594037927936 := by decide
        omega
      have hor := orByte V (ys[k]'hlt).toNat hV hX
      go_wp2
      go_round
      case rel => exact ⟨k + 1, V * 256 + (ys[k]'hlt).toNat, by omega, by go_num, rfl, by show _ = _; rw [take_snoc hlt, beV_snoc, HVk.out]⟩
      case measure => simp [intOf]; omega
    · go_wp2
      go_ret
      have e1 : V = s.sumV n := by rw [HVk.out, List.take_of_length_le (by omega)]; exact HV.out
      subst e1
      exact ⟨rfl, HR.out, HC.out⟩
end Go.Proofs.YtbhmnkpbaeemeaaDoor
