import Derived.Test.YtbhmnkpbaeemeaaDoorW11
set_option linter.unusedVariables false
set_option linter.unusedSimpArgs false
namespace Go.Proofs.YtbhmnkpbaeemeaaDoor
open Go.RowKit

/-- A writer in good order. -/
def gW (b : List UInt8) : WrS := ⟨true, false, 0, 0, 65507, b⟩
theorem gW_lay (b xs : List UInt8) (h : b.length + xs.length ≤ 65507) : (gW b).lay 0 xs = gW (b ++ xs) := by
  unfold WrS.lay gW
  rw [if_neg (by simp), if_neg (by simp), if_neg (by simp only []; omega)]

/-- A writer of the call's own: all its blocks lie from the call's begin on. -/
structure OwnW (w0 w : World) (p : Nat) (A : Option Addr) (c : Nat) (s : WrS) : Prop where
  wr : Wr w p A c s
  new : ∀ k, wrF p A k → w0.heap.size ≤ k
  bel : Below w0.heap.size w0 w

theorem OwnW.post {w0 w w' : World} {p : Nat} {A : Option Addr} {c : Nat} {s s' : WrS} (h : OwnW w0 w p A c s) (hq : WrPost w w' p A s') : ∃ A' c', OwnW w0 w' p A' c' s' := by
  obtain ⟨A', c', h1, h2, h3⟩ := hq
  refine ⟨A', c', h1, fun k hk => ?_, h.bel.trans (h2.below h.bel.size fun i hi hF => by have := h.new i hF; omega)⟩
  rcases hk with rfl | hk
  · exact h.new _ (.inl rfl)
  · rcases h3 k hk with h3 | h3
    · exact h.new _ (.inr h3)
    · exact Nat.le_trans h.bel.size h3
theorem OwnW.below {w0 w w' : World} {p : Nat} {A : Option Addr} {c : Nat} {s : WrS} (h : OwnW w0 w p A c s) (hb : Below w.heap.size w w') : OwnW w0 w' p A c s := ⟨h.wr.below hb, h.new, below_then h.bel hb⟩
theorem OwnW.rd {w0 w : World} {p : Nat} {A : Option Addr} {c : Nat} {s : WrS} (h : OwnW w0 w p A c s) {A1 : Option Addr} {n1 c1 : Nat} {xs : List UInt8} (hr : Rd w0 A1 n1 c1 xs) : Rd w A1 n1 c1 xs := hr.below h.bel
theorem Rd.in_ {w : World} {A : Option Addr} {n c : Nat} {xs : List UInt8} (h : Rd w A n c xs) (h0 : 0 < n) : ∀ k, inA A k → k < w.heap.size := by
  intro k hk
  obtain ⟨a, rfl, rfl⟩ := hk
  obtain ⟨b, o, e, hc⟩ := h.at_ 0 (by rw [h.len]; exact h0)
  cases e
  exact World.block_lt_of_cell? w _ hc

theorem OwnW.lay_ {w0 w1 w2 : World} {p : Nat} {A1 : Option Addr} {c1 : Nat} {b xs : List UInt8} (h : OwnW w0 w1 p A1 c1 (gW b)) (hq : WrPost w1 w2 p A1 ((gW b).lay 0 xs)) (hl : b.length + xs.length ≤ 65507) : ∃ A2 c2, OwnW w0 w2 p A2 c2 (gW (b ++ xs)) := by
  rw [gW_lay b xs hl] at hq
  exact h.post hq
theorem big4_eq (v : Nat) (h : v < 4294967296) : big4 (v : Int) = bigR v 4 := by
  simp only [big4, bigR]
  have h1 : ((v : Int) % 256) = ((v / 256 ^ 0 % 256 : Nat) : Int) := by simp
  have h2 : ((v : Int) / 256 % 256) = ((v / 256 ^ 1 % 256 : Nat) : Int) := by simp
  have h3 : ((v : Int) / 65536 % 256) = ((v / 256 ^ 2 % 256 : Nat) : Int) := by simp
  have h4 : ((v : Int) / 16777216) = ((v / 256 ^ 3 % 256 : Nat) : Int) := by simp; omega
  rw [h1, h2, h3, h4]
  simp only [u8of_nat]

theorem wframe_long (w : World) (K : Int) (A : Option Addr) (n c : Nat) (hn : 65495 < n) :
    Calls Tryd.prog 18 #[.int .u8 K, .slice A n c] w fun e w' => ∃ b, e = .returned (.tuple #[.slice none 0 0, .iface 129 (.pointer (some ⟨b, 0, none⟩))]) ∧ ErrAt w' b 21 65507 ∧ w.heap.size ≤ b ∧ Below w.heap.size w w' := by
  have hb : decide ((65495 : Int) < (n : Int)) = true := by simp; omega
  clear hn
  go_enter Tryd.func18, Tryd.ntmps18
  go_wp2_with (go_at_call 61; refine (fault_any _ _ _).mono ?_; rintro e w' ⟨rfl, rfl⟩)
  go_ret2
  exact ⟨_, rfl, Blk.new _ _ _, Nat.le_refl _, by go_grown⟩

set_option maxRecDepth 100000 in
set_option maxHeartbeats 400000 in
theorem wframe_good (w : World) (K : UInt8) (A : Option Addr) (n c : Nat) (xs : List UInt8) (hx : Rd w A n c xs) (hn : n ≤ 65495) (hT : Tab w) :
    Calls Tryd.prog 18 #[.int .u8 (K.toNat : Int), .slice A n c] w fun e w' => ∃ A', e = .returned (.tuple #[.slice A' (n + 12) (n + 12), .nilIface]) ∧ Ob w' w.heap.size A' (n + 12) (n + 12) (frameL K xs) ∧ Below w.heap.size w w' := by
  have hb : decide ((65495 : Int) < (n : Int)) = false := by simp; omega
  have hl := hx.len
  have hTl := hT.lt
  have Hn := Lib.hid hn; clear hn
  have Hl := Lib.hid hl; clear hl
  go_enter Tryd.func18, Tryd.ntmps18
  go_wp2_with fail
  refine (newWriter_any 65507 w).mono ?_
  rintro e w1 ⟨rfl, h1, b1⟩
  have o1 : OwnW w w1 w.heap.size none 0 (gW []) := ⟨h1, (fun k hk => by
    rcases hk with rfl | ⟨a, e, _⟩
    · exact Nat.le_refl _
    · cases e), b1⟩
  clear h1 b1
  generalize w.heap.size = p at *
  go_wp2_with fail
  refine (U16_any o1.wr 20813 (by omega) (by omega)).mono ?_
  rintro e w2 ⟨rfl, hq⟩
  obtain ⟨A2, c2, o2⟩ := OwnW.lay_ o1 hq (by simp [big2])
  clear hq
  rw [show [] ++ big2 20813 = [81, 77] by decide] at o2
  go_wp2_with fail
  refine (U8_any o2.wr 1).mono ?_
  rintro e w3 ⟨rfl, hq⟩
  obtain ⟨A3, c3, o3⟩ := OwnW.lay_ o2 hq (by simp)
  clear hq
  go_wp2_with fail
  refine (U8_any o3.wr K).mono ?_
  rintro e w4 ⟨rfl, hq⟩
  obtain ⟨A4, c4, o4⟩ := OwnW.lay_ o3 hq (by simp)
  clear hq
  have hm : (n : Int) ≤ 4294967295 := by have := Hn.out; omega
  go_wp2_with fail
  refine (U32_any o4.wr (n : Int) (by omega) hm).mono ?_
  rintro e w5 ⟨rfl, hq⟩
  rw [big4_eq n (by omega)] at hq
  obtain ⟨A5, c5, o5⟩ := OwnW.lay_ o4 hq (by simp [bigR_length])
  clear hq
  go_wp2_with fail
  refine (lay_one o5.wr (Below.refl _ _) (o5.rd hx) (fun h0 k hk hw => by have := hx.in_ h0 k hk; have := o5.new k hw; omega) (by rw [hx.len]; have := Hn.out; omega)).mono ?_
  rintro e w6 ⟨rfl, hq⟩
  obtain ⟨A6, c6, o6⟩ := OwnW.lay_ o5 hq (by have := Hn.out; have := Hl.out; simp [bigR_length]; omega)
  clear hq
  have e6 : [81, 77] ++ [1] ++ [K] ++ bigR n 4 ++ xs = preL K xs := by rw [preL, Hl.out]; rfl
  rw [e6] at o6
  have hpl : (preL K xs).length = 8 + n := by rw [preL_length, Hl.out]
  have HP := Lib.hid hpl
  have cb : w6.cell? ⟨p, 5, none⟩ = some (.slice A6 (preL K xs).length c6) := o6.wr.blk.cell 5
  rw [hpl] at cb
  have hr6 := o6.wr.row.rd
  rw [show (gW (preL K xs)).buf.length = 8 + n from hpl] at hr6
  have HSum := Lib.hid (Sum_any w6 A6 (8 + n) c6 (preL K xs) hr6 (hT.below o6.bel hT.lt))
  clear hpl hr6 e6
  go_wp2_with fail
  refine HSum.out.mono ?_
  rintro e w7 ⟨rfl, rfl⟩
  have HSL := Lib.hid (Crc.sum_lt (preL K xs))
  have HLW := Lib.hid (low_any (Crc.sum (preL K xs) : Int) w6 (by omega) (by have := HSL.out; omega))
  have bl : Blk (w6.alloc (.cells (bs (low4 (Crc.sum (preL K xs) : Int))).toArray 5)) w6.heap.size (bs (low4 (Crc.sum (preL K xs) : Int))).toArray 5 := Blk.new _ _ _
  have hL := lay_one o6.wr (below1 w6 (.cells (bs (low4 (Crc.sum (preL K xs) : Int))).toArray 5)) (Rd.ofBlk bl (by simp [low4])) (fun _ => o6.wr.fresh fun k hk => by rw [inA_some] at hk; omega) (by simp [low4])
  rw [World.size_alloc] at hL
  have HL := Lib.hid hL
  clear hL bl hTl
  go_wp2_with fail
  refine HLW.out.mono ?_
  rintro e w7 ⟨rfl, rfl⟩
  go_wp2_with fail
  refine HL.out.mono ?_
  rintro e w8 ⟨rfl, hq⟩
  rw [low4_eq _ HSL.out] at hq
  obtain ⟨A8, c8, o8⟩ := OwnW.lay_ o6 hq (by have := HP.out; have := Hn.out; simp [lowR]; omega)
  clear hq
  rw [show preL K xs ++ lowR (Crc.sum (preL K xs)) 4 = frameL K xs from rfl] at o8
  have hlen : (frameL K xs).length = n + 12 := by
    unfold frameL
    rw [List.length_append, HP.out]
    simp [lowR]
    omega
  have HB := Bytes_good o8.wr rfl rfl
  rw [show (gW (frameL K xs)).buf.length = n + 12 from hlen] at HB
  have HB := Lib.hid HB
  go_wp2_with fail
  refine HB.out.mono ?_
  rintro e w9 ⟨A9, rfl, o9, b9⟩
  go_wp2
  go_ret2
  refine ⟨A9, rfl, o9.mono ?_, below_then o8.bel b9⟩
  exact o8.bel.size
end Go.Proofs.YtbhmnkpbaeemeaaDoor
