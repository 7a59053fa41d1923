import Derived.Test.YtbhmnkpbaeemeaaDoorW17
set_option linter.unusedVariables false
set_option linter.unusedSimpArgs false
namespace Go.Proofs.YtbhmnkpbaeemeaaDoor
open Go.RowKit

set_option maxRecDepth 100000 in
set_option maxHeartbeats 800000 in
theorem runframe_bad (w : World) (A : Option Addr) (n c : Nat) (b : List UInt8) (hx : Rd w A n c b) (h12 : 12 ≤ n) (hmax : n ≤ 65507) (hno : ¬ UnfOk b) :
    Calls Tryd.prog 67 #[.slice A n c] w fun e w' => RUnfBad w w' e b := by
  have HNO := Lib.hid hno
  clear hno
  have hl := hx.len
  have hcap := hx.le
  subst hl
  have hb1 : decide ((65507 : Int) < (b.length : Int)) = false := by simp; omega
  have hb2 : decide ((b.length : Int) < 12) = false := by simp; omega
  have hm : b.length ≤ 1000000000 := by omega
  have Hmax := Lib.hid hmax
  obtain ⟨bb, o, rfl, hdead⟩ := hx.at_ 0 (by omega)
  have hblt : bb < w.heap.size := World.block_lt_of_cell? w _ hdead
  have hbne : ¬ bb = w.heap.size := by omega
  clear hdead
  have HX := Lib.hid hx
  have q0 := hx.yat 0 (by omega)
  have q1 := hx.yat 1 (by omega)
  have q2 := hx.yat 2 (by omega)
  have q3 := hx.yat 3 (by omega)
  have q4 := hx.yat 4 (by omega)
  have q5 := hx.yat 5 (by omega)
  have q6 := hx.yat 6 (by omega)
  have q7 := hx.yat 7 (by omega)
  rw [Nat.add_zero] at q0
  have l0 := yb_lt b 0
  have l1 := yb_lt b 1
  have l2 := yb_lt b 2
  have l3 := yb_lt b 3
  have l4 := yb_lt b 4
  have l5 := yb_lt b 5
  have l6 := yb_lt b 6
  have l7 := yb_lt b 7
  have Hhd := Lib.hid (hd2_yb b (by omega))
  have Hver := Lib.hid (ver_yb b (by omega))
  have Hkd := Lib.hid (kd_yb b (by omega))
  have Hsz := Lib.hid (sz_yb b (by omega))
  clear hmax hx
  by_cases hm0 : yb b 0 = 81
  case neg =>
    have hb3 : ((yb b 0 : Int) != 81) = true := by simpa using (by omega : ¬ (yb b 0 : Int) = 81)
    have HE := Lib.hid (UnfErr.magic Hmax.out h12 (by rw [Hhd.out]; omega))
    clear hm0
    go_enter Tryd.func67, Tryd.ntmps67
    go_wp2
    refine bodyPost_ret (v := .tuple #[.int .i64 0, .slice none 0 0, .agg #[.int .i64 22, .int .i64 0]]) (by simp [results, Tryd.results67, go_sem]) rfl ?_
    exact ⟨_, _, HE.out, rfl, by go_grown⟩
  case pos =>
    have hb3 : ((yb b 0 : Int) != 81) = false := by rw [hm0]; rfl
    have Hm0 := Lib.hid hm0
    clear hm0
    by_cases hm1 : yb b 1 = 77
    case neg =>
      have hb4 : ((yb b 1 : Int) != 77) = true := by simpa using (by omega : ¬ (yb b 1 : Int) = 77)
      have HE := Lib.hid (UnfErr.magic Hmax.out h12 (by rw [Hhd.out]; omega))
      clear hm1
      go_enter Tryd.func67, Tryd.ntmps67
      go_wp2
      refine bodyPost_ret (v := .tuple #[.int .i64 0, .slice none 0 0, .agg #[.int .i64 22, .int .i64 0]]) (by simp [results, Tryd.results67, go_sem]) rfl ?_
      exact ⟨_, _, HE.out, rfl, by go_grown⟩
    case pos =>
      have hb4 : ((yb b 1 : Int) != 77) = false := by rw [hm1]; rfl
      have Hmg : Hid (hd2 b = 20813) := by show _ = _; rw [Hhd.out, Hm0.out, hm1]
      clear hm1
      by_cases hvr : yb b 2 = 1
      case neg =>
        have hb5 : ((yb b 2 : Int) != 1) = true := by simpa using (by omega : ¬ (yb b 2 : Int) = 1)
        have HE := Lib.hid (UnfErr.version Hmax.out h12 Hmg.out (by rw [Hver.out]; exact hvr))
        clear hvr
        go_enter Tryd.func67, Tryd.ntmps67
        go_wp2
        refine bodyPost_ret (v := .tuple #[.int .i64 0, .slice none 0 0, .agg #[.int .i64 23, .int .i64 2]]) (by simp [results, Tryd.results67, go_sem]) rfl ?_
        exact ⟨_, _, HE.out, rfl, by go_grown⟩
      case pos =>
        have hb5 : ((yb b 2 : Int) != 1) = false := by rw [hvr]; rfl
        have Hvr : Hid (ver b = 1) := by show _ = _; rw [Hver.out]; exact hvr
        clear hvr
        have hszI : (yb b 4 : Int) * 16777216 + (yb b 5 : Int) * 65536 + (yb b 6 : Int) * 256 + (yb b 7 : Int) = ((sz b : Nat) : Int) := by rw [Hsz.out]; omega
        have hsz := sz_lt b
        go_enter Tryd.func67, Tryd.ntmps67
        go_wp2
        go_quiet (fail)
        obtain ⟨wq, hwq⟩ : ∃ wq, wq = ((w.alloc (.cells #[.int .i64 0, .int .i64 0] 29)).drewN nq) := ⟨_, rfl⟩
        rw [← hwq]
        have bN : Blk wq w.heap.size #[.int .i64 0, .int .i64 0] 29 := by rw [hwq]; exact (Blk.new _ _ _).drewN _
        have bel : Below w.heap.size w wq := by rw [hwq]; exact below_drewN (below1 w _) _
        have hxq := HX.out.below bel
        have HXQ := Lib.hid hxq
        have BN := Lib.hid bN
        have BEL := Lib.hid bel
        have n0 : wq.cell? ⟨w.heap.size, 0, none⟩ = some (.int .i64 0) := bN.cell 0
        have n1 : wq.cell? ⟨w.heap.size, 1, none⟩ = some (.int .i64 0) := bN.cell 1
        have f0 := bN.frozen 0
        have f1 := bN.frozen 1
        clear hwq hxq bN bel q0 q1 q2 q3 q4 q5 q6 q7 l0 l1 l2 l4 l5 l6 l7 hszI hb1 hb2 hb3 hb4 hb5
        have hlen : ∀ i, i < b.length → Hid (wq.cell? ⟨bb, o + i, none⟩ = some (.int .u8 (yb b i : Int))) := fun i hi => HXQ.out.yat i hi
        by_cases hlt : b.length < 12 + sz b
        case pos =>
          have hb6 : decide ((b.length : Int) < 12 + (sz b : Int)) = true := by simp; omega
          have HE := Lib.hid (UnfErr.less Hmax.out h12 Hmg.out Hvr.out hlt)
          clear hlt hlen
          go_wp2
          refine bodyPost_ret (v := .tuple #[.int .i64 0, .slice none 0 0, .agg #[.int .i64 20, .int .i64 (b.length : Int)]]) (by simp [results, Tryd.results67, go_sem, n0, n1]) rfl ?_
          exact ⟨_, _, HE.out, rfl, (BEL.out.setCell (Nat.le_refl _) _).setCell (Nat.le_refl _) _⟩
        case neg =>
          have hb6 : decide ((b.length : Int) < 12 + (sz b : Int)) = false := by simp; omega
          by_cases hgt : 12 + sz b < b.length
          case pos =>
            have hb7 : decide (12 + (sz b : Int) < (b.length : Int)) = true := by simp; omega
            have HE := Lib.hid (UnfErr.more Hmax.out h12 Hmg.out Hvr.out hgt)
            clear hlt hgt hlen
            go_wp2
            refine bodyPost_ret (v := .tuple #[.int .i64 0, .slice none 0 0, .agg #[.int .i64 28, .int .i64 (12 + (sz b : Int))]]) (by simp [results, Tryd.results67, go_sem, n0, n1]) rfl ?_
            refine ⟨28, 12 + sz b, HE.out, ?_, (BEL.out.setCell (Nat.le_refl _) _).setCell (Nat.le_refl _) _⟩
            rw [Int.natCast_add]
            rfl
          case neg =>
            have heq : b.length = 12 + sz b := by omega
            have hb7 : decide (12 + (sz b : Int) < (b.length : Int)) = false := by simp; omega
            have hle : 12 + sz b ≤ b.length := by omega
            have Heq := Lib.hid heq
            have p0 := (hlen (8 + sz b) (by omega)).out
            have p1 := (hlen (9 + sz b) (by omega)).out
            have p2 := (hlen (10 + sz b) (by omega)).out
            have p3 := (hlen (11 + sz b) (by omega)).out
            have b0 := yb_lt b (8 + sz b)
            have b1 := yb_lt b (9 + sz b)
            have b2 := yb_lt b (10 + sz b)
            have b3 := yb_lt b (11 + sz b)
            have HSO := Lib.hid (sumOk_yb b heq)
            clear hlt hgt heq hlen
            generalize yb b (8 + sz b) = z0 at *
            generalize yb b (9 + sz b) = z1 at *
            generalize yb b (10 + sz b) = z2 at *
            generalize yb b (11 + sz b) = z3 at *
            obtain ⟨T, hT⟩ : ∃ T : Nat, T = z0 + z1 * 256 + z2 * 65536 + z3 * 16777216 := ⟨_, rfl⟩
            have hTI : (z0 : Int) + (z1 : Int) * 256 + (z2 : Int) * 65536 + (z3 : Int) * 16777216 = (T : Int) := by omega
            rw [← hT] at HSO
            have hTl : T < 4294967296 := by omega
            have HTD := Lib.hid hT
            clear hT
            go_wp2
            go_quiet (fail)
            obtain ⟨wr, hwr⟩ : ∃ wr, wr = wq.drewN nq := ⟨_, rfl⟩
            rw [← hwr]
            have HXR := Lib.hid (by rw [hwr]; exact HXQ.out.drewN _ : Rd wr (some ⟨bb, o, none⟩) b.length c b)
            have BNR := Lib.hid (by rw [hwr]; exact BN.out.drewN _ : Blk wr w.heap.size #[.int .i64 0, .int .i64 0] 29)
            have BELR := Lib.hid (by rw [hwr]; exact below_drewN BEL.out _ : Below w.heap.size w wr)
            clear hwr n0 n1 f0 f1 p0 p1 p2 p3 b0 b1 b2 b3 hTI
            have n0 : wr.cell? ⟨w.heap.size, 0, none⟩ = some (.int .i64 0) := BNR.out.cell 0
            have n1 : wr.cell? ⟨w.heap.size, 1, none⟩ = some (.int .i64 0) := BNR.out.cell 1
            have f0 := BNR.out.frozen 0
            have f1 := BNR.out.frozen 1
            have HS := refSum_any wr _ _ _ _ (HXR.out.pre (8 + sz b) (by omega))
            generalize hS : Crc.sum (b.take (8 + sz b)) = S at *
            have HSd := Lib.hid hS; clear hS
            have HSR := Lib.hid HS; clear HS
            by_cases hst : T = S
            case neg =>
              have hb8 : ((T : Int) != (S : Int)) = true := by simp; omega
              have HE := Lib.hid (UnfErr.sum Hmax.out h12 Hmg.out Hvr.out Heq.out (fun h => hst (HSO.out.1 h)))
              clear hst
              go_wp2_with (go_at_call 15; refine HSR.out.mono ?_; rintro e w4 ⟨rfl, rfl⟩)
              refine bodyPost_ret (v := .tuple #[.int .i64 0, .slice none 0 0, .agg #[.int .i64 24, .int .i64 (8 + (sz b : Int))]]) (by simp [results, Tryd.results67, go_sem, n0, n1]) rfl ?_
              refine ⟨24, 8 + sz b, HE.out, ?_, (BELR.out.setCell (Nat.le_refl _) _).setCell (Nat.le_refl _) _⟩
              rw [Int.natCast_add]
              rfl
            case pos =>
              have hb8 : ((T : Int) != (S : Int)) = false := by rw [hst]; simp
              exact absurd (UnfOk.mk Hmax.out h12 Hmg.out Hvr.out Heq.out (HSO.out.2 hst)) HNO.out
end Go.Proofs.YtbhmnkpbaeemeaaDoor
