import Derived.Test.YtbhmnkpbaeemeaaDoorW17
set_option linter.unusedVariables false
set_option linter.unusedSimpArgs false
namespace Go.Proofs.YtbhmnkpbaeemeaaDoor
open Go.RowKit

theorem Rd.set_ne {w : World} {A : Option Addr} {n c : Nat} {xs : List UInt8} (h : Rd w A n c xs) {a : Addr} (hne : ¬ inA A a.block) (v : Value) : Rd (w.setCell a v) A n c xs := by
  refine h.chg (F := (· = a.block)) ?_ fun _ k hk e => hne (by subst e; exact hk)
  refine Chg.set (Chg.refl _ _) ?_ _
  exact fun _ => rfl

theorem Ob.set2 {w5 : World} {B : Nat} {A : Option Addr} {n c : Nat} {xs : List UInt8} (h : Ob w5 B A n c xs) (p : Nat) (hp : p < B) (v v' : Value) :
    Ob ((w5.setCell ⟨p, 0, none⟩ v).setCell ⟨p, 1, none⟩ v') B A n c xs := by
  refine h.chg (F := (· = p)) ?_ ?_
  · refine Chg.set (Chg.set (Chg.refl _ _) ?_ _) ?_ _ <;> exact fun _ => rfl
  · intro k hk e
    have := (h.lt hk).1
    omega
theorem below_set2 {w w5 : World} (h : Below w.heap.size w w5) (p : Nat) (hp : w.heap.size ≤ p) (v v' : Value) :
    Below w.heap.size w ((w5.setCell ⟨p, 0, none⟩ v).setCell ⟨p, 1, none⟩ v') := by
  refine Chg.below (F := (· = p)) ?_ (Nat.le_refl _) (fun i hi e => by omega)
  refine Chg.set (Chg.set (Chg.ofBelow h _) ?_ _) ?_ _ <;> exact fun _ => rfl

set_option maxRecDepth 100000 in
set_option maxHeartbeats 800000 in
theorem runframe_good (w : World) (A : Option Addr) (n c : Nat) (b : List UInt8) (hx : Rd w A n c b) (hok : UnfOk b) :
    Calls Tryd.prog 67 #[.slice A n c] w fun e w' => RUnfGood w w' e b := by
  have hl := hx.len
  have hcap := hx.le
  subst hl
  have h12 := hok.min
  have hmax := hok.max
  have hb1 : decide ((65507 : Int) < (b.length : Int)) = false := by simp; omega
  have hb2 : decide ((b.length : Int) < 12) = false := by simp; omega
  have hm : b.length ≤ 1000000000 := by omega
  obtain ⟨bb, o, rfl, hdead⟩ := hx.at_ 0 (by omega)
  have hblt : bb < w.heap.size := World.block_lt_of_cell? w _ hdead
  have hbne : ¬ bb = w.heap.size := by omega
  clear hdead
  have HX := Lib.hid hx
  have HOK := Lib.hid hok
  have q0 := hx.yat 0 (by omega)
  have q1 := hx.yat 1 (by omega)
  have q2 := hx.yat 2 (by omega)
  have q4 := hx.yat 4 (by omega)
  have q5 := hx.yat 5 (by omega)
  have q6 := hx.yat 6 (by omega)
  have q7 := hx.yat 7 (by omega)
  rw [Nat.add_zero] at q0
  have l0 := yb_lt b 0
  have l1 := yb_lt b 1
  have l2 := yb_lt b 2
  have l4 := yb_lt b 4
  have l5 := yb_lt b 5
  have l6 := yb_lt b 6
  have l7 := yb_lt b 7
  have hhd := hd2_yb b (by omega)
  have hver := ver_yb b (by omega)
  have hszy := sz_yb b (by omega)
  have hmg := hok.magic
  have hvr := hok.version
  have hb3 : ((yb b 0 : Int) != 81) = false := by simp; omega
  have hb4 : ((yb b 1 : Int) != 77) = false := by simp; omega
  have hb5 : ((yb b 2 : Int) != 1) = false := by simp; omega
  have hszI : (yb b 4 : Int) * 16777216 + (yb b 5 : Int) * 65536 + (yb b 6 : Int) * 256 + (yb b 7 : Int) = ((sz b : Nat) : Int) := by omega
  have heq := hok.size
  have hsz := sz_lt b
  have hb6 : decide ((b.length : Int) < 12 + (sz b : Int)) = false := by simp; omega
  have hb7 : decide (12 + (sz b : Int) < (b.length : Int)) = false := by simp; omega
  have hle : 12 + sz b ≤ b.length := by omega
  have HSO := Lib.hid ((sumOk_yb b heq).1 hok.sum)
  clear hmax hx hok hhd hver hszy hmg hvr heq
  go_enter Tryd.func67, Tryd.ntmps67
  go_wp2
  go_quiet (fail)
  obtain ⟨wq, hwq⟩ : ∃ wq, wq = ((w.alloc (.cells #[.int .i64 0, .int .i64 0] 29)).drewN nq) := ⟨_, rfl⟩
  rw [← hwq]
  have bN : Blk wq w.heap.size #[.int .i64 0, .int .i64 0] 29 := by rw [hwq]; exact (Blk.new _ _ _).drewN _
  have bel : Below w.heap.size w wq := by rw [hwq]; exact below_drewN (below1 w _) _
  have hxq := HX.out.below bel
  have HXQ := Lib.hid hxq
  have BN := Lib.hid bN
  have BEL := Lib.hid bel
  clear hwq hxq bN bel q0 q1 q2 q4 q5 q6 q7 l0 l1 l2 l4 l5 l6 l7 hszI hb1 hb2 hb3 hb4 hb5
  have p0 := HXQ.out.yat (8 + sz b) (by omega)
  have p1 := HXQ.out.yat (9 + sz b) (by omega)
  have p2 := HXQ.out.yat (10 + sz b) (by omega)
  have p3 := HXQ.out.yat (11 + sz b) (by omega)
  have b0 := yb_lt b (8 + sz b)
  have b1 := yb_lt b (9 + sz b)
  have b2 := yb_lt b (10 + sz b)
  have b3 := yb_lt b (11 + sz b)
  generalize yb b (8 + sz b) = z0 at *
  generalize yb b (9 + sz b) = z1 at *
  generalize yb b (10 + sz b) = z2 at *
  generalize yb b (11 + sz b) = z3 at *
  obtain ⟨T, hT⟩ : ∃ T : Nat, T = z0 + z1 * 256 + z2 * 65536 + z3 * 16777216 := ⟨_, rfl⟩
  have hTI : (z0 : Int) + (z1 : Int) * 256 + (z2 : Int) * 65536 + (z3 : Int) * 16777216 = (T : Int) := by omega
  rw [← hT] at HSO
  have hTl : T < 4294967296 := by omega
  clear hT
  go_wp2
  go_quiet (fail)
  obtain ⟨wr, hwr⟩ : ∃ wr, wr = wq.drewN nq := ⟨_, rfl⟩
  rw [← hwr]
  have HXR := Lib.hid (by rw [hwr]; exact HXQ.out.drewN _ : Rd wr (some ⟨bb, o, none⟩) b.length c b)
  have BNR := Lib.hid (by rw [hwr]; exact BN.out.drewN _ : Blk wr w.heap.size #[.int .i64 0, .int .i64 0] 29)
  have BELR := Lib.hid (by rw [hwr]; exact below_drewN BEL.out _ : Below w.heap.size w wr)
  clear hwr p0 p1 p2 p3 b0 b1 b2 b3 hTI
  have n0 : wr.cell? ⟨w.heap.size, 0, none⟩ = some (.int .i64 0) := BNR.out.cell 0
  have n1 : wr.cell? ⟨w.heap.size, 1, none⟩ = some (.int .i64 0) := BNR.out.cell 1
  have f0 := BNR.out.frozen 0
  have f1 := BNR.out.frozen 1
  have HS := refSum_any wr _ _ _ _ (HXR.out.pre (8 + sz b) (by omega))
  have hts : ((T : Int) != ((Crc.sum (b.take (8 + sz b)) : Nat) : Int)) = false := by rw [HSO.out]; simp
  have HSR := Lib.hid HS; clear HS
  have q3 : wr.cell? ⟨bb, o + 3, none⟩ = some (.int .u8 (yb b 3 : Int)) := HXR.out.yat 3 (by omega)
  go_wp2_with (go_at_call 15; refine HSR.out.mono ?_; rintro e w4 ⟨rfl, rfl⟩)
  have hp8 := HXR.out.piece 8 (8 + sz b) (by omega) (by omega)
  rw [Nat.add_sub_cancel_left] at hp8
  have HP8 := Lib.hid hp8.drew
  have hcn : w.heap.size < wr.heap.size := BNR.out.lt
  have hbn : bb < wr.heap.size := by omega
  have HNI : Hid (¬ inA (some ⟨bb, o + 8, none⟩) w.heap.size) := fun h => hbne (inA_some.1 h)
  clear hp8 hb6 hb7 hts
  have g1 : (8 : Int) ≤ 8 + (sz b : Int) := by omega
  have g2 : 8 + (sz b : Int) ≤ (c : Int) := by omega
  have g3 : 8 + sz b ≤ c := by omega
  have hw8 : IntKind.i64.wrap (8 + (sz b : Int)) = 8 + (sz b : Int) := IntWalk.i64_in _ (by omega)
  have ht8 : (8 + (sz b : Int)).toNat = 8 + sz b := by omega
  have h9 : sz b ≤ 1000000000 := by omega
  have hw3 : IntKind.i64.wrap (yb b 3 : Int) = (yb b 3 : Int) := IntWalk.i64_in _ (by have := yb_lt b 3; omega)
  go_region_with (go_at_call 86; refine (Copy_any _ _ _ _ ((b.drop 8).take (sz b)) (by first | exact HP8.out | exact (HP8.out.set_ne HNI.out _).set_ne HNI.out _) h9).mono ?_; rintro e w5 ⟨A5, c5, rfl, ho, hb⟩; have HO5 := Lib.hid ho; have HB5 := Lib.hid hb; clear ho hb; have q3' : w5.cell? ⟨bb, o + 3, none⟩ = some (.int .u8 (yb b 3 : Int)) := (HB5.out.cell (by simp; omega)).trans (by simp [q3, hbne]); have n0' : w5.cell? ⟨w.heap.size, 0, none⟩ = some (.int .i64 0) := (HB5.out.cell (by simp; omega)).trans (by simp [n0, n1]); have n1' : w5.cell? ⟨w.heap.size, 1, none⟩ = some (.int .i64 0) := (HB5.out.cell (by simp; omega)).trans (by simp [n0, n1]); have f0' : w5.frozen? ⟨w.heap.size, 0, none⟩ = false := (HB5.out.frozen (by simp; omega)).trans (by simp [f0]); have f1' : w5.frozen? ⟨w.heap.size, 1, none⟩ = false := (HB5.out.frozen (by simp; omega)).trans (by simp [f1]))
  all_goals
    go_wp2
    refine bodyPost_ret (v := .tuple #[.int .i64 (yb b 3 : Int), .slice A5 (sz b) c5, .agg #[.int .i64 0, .int .i64 0]]) (by simp [results, Tryd.results67, go_sem, n0', n1', hw3]) rfl ?_
    refine ⟨A5, sz b, c5, HOK.out, by rw [kd_yb b (by omega)], ?_, ?_⟩
    · rw [show bodyOf b = (b.drop 8).take (sz b) by unfold bodyOf; rw [show b.length - 12 = sz b by have := HOK.out.size; omega]]
      first
      | exact HO5.out.mono (by first | exact Nat.le_of_lt hcn | (simp; omega))
      | exact Ob.mono (Ob.set2 HO5.out w.heap.size hcn _ _) (Nat.le_of_lt hcn)
    · first
      | exact below_set2 (below_then BELR.out ((below_drewN (Below.refl _ wr) 1).trans HB5.out)) _ (Nat.le_refl _) _ _
      | exact below_then (below_set2 BELR.out _ (Nat.le_refl _) _ _) HB5.out
end Go.Proofs.YtbhmnkpbaeemeaaDoor
