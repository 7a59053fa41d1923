import Derived.Test.YtbhmnkpbaeemeaaDoorW22
set_option linter.unusedVariables false
set_option linter.unusedSimpArgs false
namespace Go.Proofs.YtbhmnkpbaeemeaaDoor
open Go.RowKit

set_option maxHeartbeats 800000 in
theorem wireFrames_walk (w : World) (K : UInt8) (A : Option Addr) (n c : Nat) (b : List UInt8) (AY : Option Addr) (nY cY : Nat) (y : List UInt8) (hx : Rd w A n c b) (hy : Rd w AY nY cY y) (hn : n ≤ 999000000) (hnY : nY ≤ 999000000) (hT : Tab w) :
    Calls Tryd.prog 4 #[.int .u8 (K.toNat : Int), .slice A n c, .slice AY nY cY] w fun e w' => e = .returned (.bool true) ∧ Below w.heap.size w w' := by
  have hl := hx.len
  subst hl
  have HY := Lib.hid hy
  clear hy
  have hKl : K.toNat < 256 := K.toNat_lt
  have hkw : IntKind.i64.wrap (K.toNat : Int) = (K.toNat : Int) := IntWalk.i64_in _ (by omega)
  obtain ⟨body, code, at_, hw, hr, hbl, _⟩ := frm_both K b (by omega)
  have HW := Lib.hid hw
  have HR := Lib.hid hr
  have HX := Lib.hid hx
  have HT := Lib.hid hT
  have hTl := hT.lt
  have hcap := hx.le
  clear hw hr hx hT
  go_enter Tryd.func4, Tryd.ntmps4
  go_wp2_with (go_at_call 17; refine (HR.out w _ _ HX.out).mono ?_; rintro e w1 ⟨A1, m1, c1, rfl, ho, hb⟩; have HO1 := Lib.hid ho; have HB1 := Lib.hid hb; clear ho hb)
  have bx := Blk.new w1 #[.int .i64 code, .int .i64 at_] 29
  have b2 := below_then HB1.out (below1 w1 (.cells #[.int .i64 code, .int .i64 at_] 29))
  have o1 := HO1.out.alloc (.cells #[.int .i64 code, .int .i64 at_] 29)
  have p1 : w.heap.size ≤ w1.heap.size := HB1.out.size
  obtain ⟨p, hp⟩ : ∃ p, p = w1.heap.size := ⟨_, rfl⟩
  rw [← hp] at bx ⊢
  generalize (w1.alloc (.cells #[.int .i64 code, .int .i64 at_] 29)) = w2 at *
  rw [← hp] at p1
  have BX := Lib.hid bx
  have B2 := Lib.hid b2
  have O1 := Lib.hid o1
  clear bx b2 o1 HB1 HO1 hp w1
  refine (lend_any w2 _ _ _ b (HX.out.below B2.out) (by omega)).mono ?_
  rintro e w3 ⟨A3, c3, rfl, ho, hb⟩
  have n0 : w3.cell? ⟨p, 0, none⟩ = some (.int .i64 code) := (BX.out.kept hb).cell 0
  have n1 : w3.cell? ⟨p, 1, none⟩ = some (.int .i64 at_) := (BX.out.kept hb).cell 1
  have B3 := Lib.hid (below_then B2.out hb)
  have X3 := Lib.hid (HX.out.below B3.out)
  have T3 := Lib.hid (HT.out.below B3.out hTl)
  have O13 := Lib.hid (O1.out.below hb)
  have O3 := Lib.hid ho
  have L3 : Hid (w2.heap.size ≤ w3.heap.size) := hb.size
  have L2 : Hid (p < w2.heap.size) := BX.out.lt
  clear ho hb
  go_wp2_with (go_at_call 18; refine (HW.out w3 _ _ (O3.out.rd.front rfl) T3.out).mono ?_; rintro e w4 ⟨A4, m4, c4, err, rfl, ho, he, hb⟩; have HA := Lib.hid (And.intro ho (And.intro he hb)); have n0' : w4.cell? ⟨p, 0, none⟩ = some (.int .i64 code) := (hb.cell (by show p < w3.heap.size; have := L3.out; have := L2.out; omega)).trans n0; have n1' : w4.cell? ⟨p, 1, none⟩ = some (.int .i64 at_) := (hb.cell (by show p < w3.heap.size; have := L3.out; have := L2.out; omega)).trans n1; clear ho he hb)
  clear n0 n1
  have hb := HA.out.2.2
  have B4 := Lib.hid (below_then B3.out hb)
  have X4 := Lib.hid (X3.out.below hb)
  have T4 := Lib.hid (T3.out.below hb T3.out.lt)
  have O14 := Lib.hid (O13.out.below hb)
  have O34 := Lib.hid (O3.out.below hb)
  have O4 := Lib.hid HA.out.1
  have E4 := Lib.hid HA.out.2.1
  have L4 : Hid (w3.heap.size ≤ w4.heap.size) := hb.size
  clear HA hb
  refine (told_any w4 err code at_ E4.out).mono ?_
  rintro e w5 ⟨rfl, q, rfl⟩
  go_wp2_with first | (go_at_call 20; refine (sameBytes_any (w4.drewN q) _ _ _ _ _ _ _ _ (O4.out.rd.drewN q) (O14.out.rd.drewN q)).mono ?_; rintro e w6 ⟨rfl, q', rfl⟩) | (go_at_call 16; refine (kept_true _ _ _ _ _ (O34.out.rd.drewN _) _ _ (X4.out.drewN _) (by omega)).mono ?_; rintro e w6 ⟨rfl, q2, rfl⟩)
  refine (HW.out _ _ _ ((O34.out.rd.drewN _).front rfl) T4.out).mono ?_
  rintro e w5 ⟨A5, m5, c5, err5, rfl, ho, he, hb0⟩
  have hb : Below w4.heap.size w4 w5 := (below_drewN (Below.refl _ w4) _).trans hb0
  have B5 := Lib.hid (below_then B4.out hb)
  have X5 := Lib.hid (X4.out.below hb)
  have T5 := Lib.hid (T4.out.below hb T4.out.lt)
  have O15 := Lib.hid (O14.out.below hb)
  have O35 := Lib.hid (O34.out.below hb)
  have O45 := Lib.hid (O4.out.below hb)
  have O5 : Hid (Ob w5 w4.heap.size A5 m5 c5 body) := ho
  have L5 : Hid (w4.heap.size ≤ w5.heap.size) := hb.size
  clear ho he hb0 hb
  go_wp2_with fail
  have N45 : Hid (∀ k, inA A4 k → w3.heap.size ≤ k ∧ k < w4.heap.size) := fun k hk => O4.out.lt hk
  refine (spoil_any w5 w3.heap.size A4 m4 c4 body O45.out (by have := O45.out.rd.len; omega) (by have := L4.out; have := L5.out; omega) 9 (by decide)).mono ?_
  rintro e w6 ⟨rfl, hc⟩
  have N1 : Hid (∀ k, inA A1 k → k < w2.heap.size) := fun k hk => (O1.out.lt hk).2
  have N3 : Hid (∀ k, inA A3 k → k < w3.heap.size) := fun k hk => (O3.out.lt hk).2
  have hb6 : Below w.heap.size w5 w6 := hc.below (B5.out.size) fun i hi hk => by
    have := (N45.out i hk).1
    have := B3.out.size
    omega
  have B6 := Lib.hid (B5.out.trans hb6)
  have X6 := Lib.hid (X5.out.chg hc fun h0 k hk hk' => by
    have := HX.out.in_ h0 k hk
    have := (N45.out k hk').1
    have := B3.out.size
    omega)
  have T6 := Lib.hid (T5.out.below hb6 hTl)
  have O16 := Lib.hid (O15.out.chg hc fun k hk hk' => by
    have := N1.out k hk
    have := (N45.out k hk').1
    have := L3.out
    omega)
  have O36 := Lib.hid (O35.out.chg hc fun k hk hk' => by
    have := N3.out k hk
    have := (N45.out k hk').1
    omega)
  have O56 := Lib.hid (O5.out.chg hc fun k hk hk' => by
    have := (O5.out.lt hk).1
    have := (N45.out k hk').2
    omega)
  clear hc hb6 O15 O35 O45 O5 X5 T5
  go_wp2_with fail
  refine (HW.out _ _ _ ((O36.out.rd).front rfl) T6.out).mono ?_
  rintro e w7 ⟨A7, m7, c7, err7, rfl, ho, he, hb⟩
  have B7 := Lib.hid (below_then B6.out hb)
  have X7 := Lib.hid (X6.out.below hb)
  have Y7 := Lib.hid (HY.out.below B7.out)
  have T7 := Lib.hid (T6.out.below hb T6.out.lt)
  have O17 := Lib.hid (O16.out.below hb)
  have O37 := Lib.hid (O36.out.below hb)
  have O57 := Lib.hid (O56.out.below hb)
  have O7 : Hid (Ob w7 w6.heap.size A7 m7 c7 body) := ho
  clear ho he hb
  go_wp2_with fail
  refine (kept_true w7 _ _ _ _ O37.out.rd _ _ X7.out (by omega)).mono ?_
  rintro e w8 ⟨rfl, q3, rfl⟩
  go_wp2_with fail
  refine (sameBytes_any _ _ _ _ _ _ _ _ _ (O57.out.rd.drewN _) (O17.out.rd.drewN _)).mono ?_
  rintro e w8 ⟨rfl, q4, rfl⟩
  go_wp2_with fail
  refine (sameBytes_any _ _ _ _ _ _ _ _ _ (O7.out.rd.drewN _) (O17.out.rd.drewN _)).mono ?_
  rintro e w8 ⟨rfl, q5, rfl⟩
  go_wp2_with fail
  refine (unframed_any _ _ _ _ _ (O17.out.rd.drewN _) (by have := O17.out.rd.len; omega) T7.out).mono ?_
  rintro e w8 ⟨rfl, hb0⟩
  have hb : Below w7.heap.size w7 w8 := (below_drewN (Below.refl _ w7) _).trans hb0
  have B8 := Lib.hid (below_then B7.out hb)
  have Y8 := Lib.hid (Y7.out.below hb)
  have T8 := Lib.hid (T7.out.below hb T7.out.lt)
  clear hb hb0
  go_wp2_with fail
  refine (unframed_any _ _ _ _ _ Y8.out (by omega) T8.out).mono ?_
  rintro e w9 ⟨rfl, hb⟩
  go_wp2
  go_ret
  exact ⟨by simp, below_then B8.out hb⟩
end Go.Proofs.YtbhmnkpbaeemeaaDoor
