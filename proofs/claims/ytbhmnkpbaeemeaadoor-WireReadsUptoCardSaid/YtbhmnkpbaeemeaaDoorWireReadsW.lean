import Derived.Test.YtbhmnkpbaeemeaaDoorW51
set_option linter.unusedVariables false
set_option linter.unusedSimpArgs false
namespace Go.Proofs.YtbhmnkpbaeemeaaDoor
open Go.RowKit

theorem Ob.front' {w : World} {B : Nat} {A : Option Addr} {n m c : Nat} {xs ys : List UInt8} (h : Ob w B A m c (xs ++ ys)) (hn : xs.length = n) (hm : n ≤ m) : Ob w B A n c xs := by
  obtain ⟨hl, h2⟩ := h
  rw [bs_length, Nat.mul_one] at hl
  refine ⟨by rw [bs_length, Nat.mul_one]; exact hn, ?_⟩
  rcases h2 with ⟨e, h0⟩ | ⟨g, cap, cur, e, hB, hg, h1, h3, h4, h5⟩
  · cases e
    obtain rfl : n = 0 := by omega
    exact .inl ⟨rfl, rfl⟩
  · cases e
    refine .inr ⟨g, _, cur, rfl, hB, hg, by omega, h3, h4, ?_⟩
    rw [Nat.mul_one] at h5 ⊢
    have e2 : cur.toList.take n = (cur.toList.take m).take n := by rw [List.take_take, Nat.min_eq_left hm]
    rw [e2, h5, bs_append, List.take_left' (by rw [bs_length, hn])]

def s00 : RdS := ⟨false, false, 0, 0, [], 0⟩
theorem s00_ok : s00.Ok := ⟨Nat.le_refl _, rfl, fun _ => ⟨rfl, rfl, rfl⟩, by simp [s00], fun _ => rfl⟩
theorem not_inA_none' {k : Nat} (h : inA none k) : False := by
  obtain ⟨a, e, _⟩ := h
  cases e
def rrCells : Array Value := #[.bool false, .slice none 0 0, .int .i64 0, .int .i64 0, .int .i64 0]
def rnCells : Array Value := #[.bool false, .bool false, .int .i64 0, .int .i64 0, .slice none 0 0, .int .i64 0]
theorem sep_rr0 {w0 w1 : World} {l : List Ch} {o : Obj} (S : Sep w0 (w1.alloc o) l) : Sep w0 ((w1.alloc o).alloc (.cells rrCells 67)) (cRr (w1.heap.size + 1) none 0 s00 :: l) := by
  have h := S.box rrCells 67
  have e : (w1.alloc o).heap.size = w1.heap.size + 1 := by simp
  rw [e] at h
  refine h.as _ ⟨h.h0, Ob.nil _ _, fun h => not_inA_none' h, s00_ok⟩ ?_
  rintro k (rfl | hk)
  · rfl
  · exact (not_inA_none' hk).elim
theorem sep_rn0 {w0 w1 : World} {l : List Ch} (S : Sep w0 w1 l) : Sep w0 (w1.alloc (.cells rnCells 64)) (cRN (some ⟨w1.heap.size, 0, none⟩) none 0 s00 :: l) := by
  have h := S.box rnCells 64
  refine h.as _ (.inr ⟨_, rfl, ⟨h.h0, Ob.nil _ _, fun h => not_inA_none' h, Nat.le_refl _, by simp [s00]⟩, s00_ok⟩) ?_
  rintro k (hk | hk)
  · rw [inA_some] at hk; exact hk.symm
  · exact (not_inA_none' hk).elim
theorem sep_rnil {w0 w1 : World} {l : List Ch} (S : Sep w0 w1 l) : Sep w0 w1 (cRN none none 0 s00 :: l) :=
  S.push (Below.refl _ _) (cRN none none 0 s00) (.inl ⟨rfl, rfl, rfl, s00_ok⟩) (by rintro k (hk | hk) <;> exact (not_inA_none' hk).elim)

set_option maxRecDepth 100000 in
set_option maxHeartbeats 2000000 in
theorem wireReads_walk (w : World) (how : Int) (Ab : Option Addr) (n cb : Nat) (b : List UInt8) (hb : Rd w Ab n cb b) (hn : n ≤ 2000000) (AO : Option Addr) (m c : Nat) (os : List OpV) (hx : RdO w AO m c os) (hT : U8T w) :
    Calls Tryd.prog 7 #[.int .i64 how, .slice Ab n cb, .slice AO m c] w fun e w' => e = .returned (.bool true) ∧ Below w.heap.size w w' := by
  have hl := hx.len
  subst hl
  have hle := hx.le
  have hmx := hx.max
  have HX := Lib.hid hx
  have HT := Lib.hid hT
  have HB := Lib.hid hb
  have HBL : Hid (b.length ≤ 2000000) := by have := hb.len; show _ ≤ _; omega
  clear hx hT hb
  by_cases h0 : how = 0
  · subst h0
    go_enter Tryd.func7, Tryd.ntmps7
    go_wp2_with fail
    refine (lend_any w _ _ _ b HB.out (by omega)).mono ?_
    rintro e w1 ⟨A3, c3, rfl, ho, hbe⟩
    have S0 := Lib.hid ((Sep.start w).pushO hbe ho)
    clear ho hbe
    go_wp2_with fail
    have S0' := Lib.hid ((S0.out.box #[.bool false, .bool false, .int .i64 0, .int .i64 0, .slice none 0 0, .int .i64 0] 64).box #[.bool false, .slice none 0 0, .int .i64 0, .int .i64 0, .int .i64 0] 67).tail.tail
    refine (rnNew S0'.out ((Ob.rd S0'.out.h0).front (by have := HB.out.len; exact this)) (by omega)).mono ?_
    rintro e w2 ⟨p, A4, c4, rfl, hS⟩
    have S01 := Lib.hid hS
    clear hS
    go_wp2_with fail
    refine (rrNew S01.out (S01.out.rd HB.out) (by omega)).mono ?_
    rintro e w3 ⟨q, A5, c5, rfl, hS⟩
    have S1 := Lib.hid hS.fr1
    clear hS S0 S0' S01
    have XB := Lib.hid (S1.out.rd HB.out)
    go_wp2_with (go_at_call 16; refine (kept_true _ _ _ _ b (Ob.rd S1.out.h2) _ _ XB.out (by omega)).mono ?_; rintro e w2 ⟨rfl, q2, rfl⟩)
    have S2 := Lib.hid (S1.out.drewN q2).fr2
    refine (spoil_any _ 0 A3 n c3 b (Ob.front' S2.out.h0 (by have := HB.out.len; omega) (by omega)) (by omega) (Nat.zero_le _) 1 (by decide)).mono ?_
    rintro e w3 ⟨rfl, hc⟩
    have S3 := Lib.hid (S2.out.lose hc)
    clear hc
    go_wp2
    go_loopw [10] (fun i wr => ∃ (k : Nat) (s : RdS), k ≤ os.length ∧ i = .int .i64 k ∧ Hid (s.buf.length ≤ 2000000) ∧ Hid (Sep w wr [cRN (some ⟨p, 0, none⟩) A4 c4 s, cRr q A5 c5 s])) (fun i _ => os.length - (intOf i).toNat)
    case atStart => exact ⟨0, _, Nat.zero_le _, rfl, (by exact HBL), S3.out⟩
    case round =>
      obtain ⟨k, s, hk, rfl, HL, S⟩ := hrel
      by_cases hlt : k < os.length
      · obtain ⟨b', o, rfl, hc⟩ := HX.out.at_ k hlt
        obtain ⟨d0, d1, d2, d3, d4, d5⟩ := hc
        have hb0 : b' < w.heap.size := World.block_lt_of_cell? w _ d0
        have e0 := (S.out.bel.cell hb0).trans d0
        have e1 := (S.out.bel.cell hb0).trans d1
        have e2 := (S.out.bel.cell hb0).trans d2
        have e3 := (S.out.bel.cell hb0).trans d3
        have e4 := (S.out.bel.cell hb0).trans d4
        have e5 := (S.out.bel.cell hb0).trans d5
        clear d0 d1 d2 d3 d4 d5
        have OK := Lib.hid (HX.out.ok _ (List.getElem_mem hlt))
        generalize (os[k]'hlt) = op at *
        have hL := Lib.hid (read_any S.out op OK.out HT.out HL.out)
        unfold OpV.val ReadPost at hL
        go_wp2_with (go_at_call 31; refine hL.out.mono ?_; rintro e w5 ⟨rfl, s', hbf, hS⟩; have HBF := Lib.hid hbf; clear hbf)
        go_roundw
        case rel => exact ⟨k + 1, s', by omega, by go_num, by show _ ≤ _; rw [HBF.out]; exact HL.out, hS⟩
        case measure => simp [intOf]; omega
      · have HE : Hid (∀ wz l, Sep w wz (cRN (some ⟨p, 0, none⟩) A4 c4 s :: l) → Calls Tryd.prog 33 #[.pointer ((some ⟨p, 0, none⟩))] wz fun e w' => ∃ err, e = .returned err ∧ ErrIs w' err s.errC s.errA ∧ Below wz.heap.size wz w') := fun wz l S1 => rnErr S1
        have HR := Lib.hid (rrErr S.out.fr1)
        generalize s.errC = ec at *
        generalize s.errA = ea at *
        go_wp2_with fail
        refine HR.out.mono ?_
        rintro e w5 ⟨rfl, hb⟩
        have S5 := Lib.hid ((S.out.kept hb).box #[.int .i64 ec, .int .i64 ea] 29)
        clear hb
        go_wp2_with fail
        refine (HE.out _ _ S5.out.fr1).mono ?_
        rintro e w6 ⟨err, rfl, he, hb⟩
        have S6 := Lib.hid (S5.out.kept hb)
        have HEr := Lib.hid he
        clear he hb
        go_wp2_with fail
        refine (told_any _ err ec ea HEr.out).mono ?_
        rintro e w7 ⟨rfl, q4, rfl⟩
        have X6 : Blk w6 w5.heap.size #[.int .i64 ec, .int .i64 ea] 29 := S6.out.h0
        have n0 : w6.cell? ⟨w5.heap.size, 0, none⟩ = some (.int .i64 ec) := X6.cell 0
        have n1 : w6.cell? ⟨w5.heap.size, 1, none⟩ = some (.int .i64 ea) := X6.cell 1
        have HST := Lib.hid (stands_any (S6.out.drewN q4).tail)
        clear X6
        go_wp2_with (go_at_call 34; refine HST.out.mono ?_; rintro e w8 ⟨rfl, hS⟩)
        go_ret
        exact ⟨rfl, hS.bel⟩

  · have hb0 : (how == 0) = false := by simpa using h0
    by_cases h1 : how = 1
    · subst h1
      go_enter Tryd.func7, Tryd.ntmps7
      go_wp2_with fail
      refine (lend_any w _ _ _ b HB.out (by omega)).mono ?_
      rintro e w1 ⟨A3, c3, rfl, ho, hbe⟩
      have S0 := Lib.hid ((Sep.start w).pushO hbe ho)
      have S1 : Hid (Sep w ((w1.alloc (.cells #[.bool false, .bool false, .int .i64 0, .int .i64 0, .slice none 0 0, .int .i64 0] 64)).alloc (.cells #[.bool false, .slice none 0 0, .int .i64 0, .int .i64 0, .int .i64 0] 67)) [cRN none none 0 s00, cRr (w1.heap.size + 1) none 0 s00, cOb A3 (n + 4) c3 (b ++ marks)]) := by
        exact sep_rnil (sep_rr0 (sep_rn0 S0.out).tail)
      clear ho hbe S0
      have XB := Lib.hid (S1.out.rd HB.out)
      go_wp2_with (go_at_call 16; refine (kept_true _ _ _ _ b (Ob.rd S1.out.h2) _ _ XB.out (by omega)).mono ?_; rintro e w2 ⟨rfl, q2, rfl⟩)
      have S2 := Lib.hid (S1.out.drewN q2).fr2
      refine (spoil_any _ 0 A3 n c3 b (Ob.front' S2.out.h0 (by have := HB.out.len; omega) (by omega)) (by omega) (Nat.zero_le _) 1 (by decide)).mono ?_
      rintro e w3 ⟨rfl, hc⟩
      have S3 := Lib.hid (S2.out.lose hc)
      clear hc
      go_wp2
      go_loopw [10] (fun i wr => ∃ (k : Nat) (s : RdS), k ≤ os.length ∧ i = .int .i64 k ∧ Hid (s.buf.length ≤ 2000000) ∧ Hid (Sep w wr [cRN none none 0 s, cRr (w1.heap.size + 1) none 0 s])) (fun i _ => os.length - (intOf i).toNat)
      case atStart => exact ⟨0, _, Nat.zero_le _, rfl, (by show _ ≤ _; simp [s00]), S3.out⟩
      case round =>
        obtain ⟨k, s, hk, rfl, HL, S⟩ := hrel
        by_cases hlt : k < os.length
        · obtain ⟨b', o, rfl, hc⟩ := HX.out.at_ k hlt
          obtain ⟨d0, d1, d2, d3, d4, d5⟩ := hc
          have hb0 : b' < w.heap.size := World.block_lt_of_cell? w _ d0
          have e0 := (S.out.bel.cell hb0).trans d0
          have e1 := (S.out.bel.cell hb0).trans d1
          have e2 := (S.out.bel.cell hb0).trans d2
          have e3 := (S.out.bel.cell hb0).trans d3
          have e4 := (S.out.bel.cell hb0).trans d4
          have e5 := (S.out.bel.cell hb0).trans d5
          clear d0 d1 d2 d3 d4 d5
          have OK := Lib.hid (HX.out.ok _ (List.getElem_mem hlt))
          generalize (os[k]'hlt) = op at *
          have hL := Lib.hid (read_any S.out op OK.out HT.out HL.out)
          unfold OpV.val ReadPost at hL
          go_wp2_with (go_at_call 31; refine hL.out.mono ?_; rintro e w5 ⟨rfl, s', hbf, hS⟩; have HBF := Lib.hid hbf; clear hbf)
          go_roundw
          case rel => exact ⟨k + 1, s', by omega, by go_num, by show _ ≤ _; rw [HBF.out]; exact HL.out, hS⟩
          case measure => simp [intOf]; omega
        · have HE : Hid (∀ wz l, Sep w wz (cRN none none 0 s :: l) → Calls Tryd.prog 33 #[.pointer (none)] wz fun e w' => ∃ err, e = .returned err ∧ ErrIs w' err s.errC s.errA ∧ Below wz.heap.size wz w') := fun wz l S1 => rnErr S1
          have HR := Lib.hid (rrErr S.out.fr1)
          generalize s.errC = ec at *
          generalize s.errA = ea at *
          go_wp2_with fail
          refine HR.out.mono ?_
          rintro e w5 ⟨rfl, hb⟩
          have S5 := Lib.hid ((S.out.kept hb).box #[.int .i64 ec, .int .i64 ea] 29)
          clear hb
          go_wp2_with fail
          refine (HE.out _ _ S5.out.fr1).mono ?_
          rintro e w6 ⟨err, rfl, he, hb⟩
          have S6 := Lib.hid (S5.out.kept hb)
          have HEr := Lib.hid he
          clear he hb
          go_wp2_with fail
          refine (told_any _ err ec ea HEr.out).mono ?_
          rintro e w7 ⟨rfl, q4, rfl⟩
          have X6 : Blk w6 w5.heap.size #[.int .i64 ec, .int .i64 ea] 29 := S6.out.h0
          have n0 : w6.cell? ⟨w5.heap.size, 0, none⟩ = some (.int .i64 ec) := X6.cell 0
          have n1 : w6.cell? ⟨w5.heap.size, 1, none⟩ = some (.int .i64 ea) := X6.cell 1
          have HST := Lib.hid (stands_any (S6.out.drewN q4).tail)
          clear X6
          go_wp2_with (go_at_call 34; refine HST.out.mono ?_; rintro e w8 ⟨rfl, hS⟩)
          go_ret
          exact ⟨rfl, hS.bel⟩

    · have hb1 : (how == 1) = false := by simpa using h1
      go_enter Tryd.func7, Tryd.ntmps7
      go_wp2_with fail
      refine (lend_any w _ _ _ b HB.out (by omega)).mono ?_
      rintro e w1 ⟨A3, c3, rfl, ho, hbe⟩
      have S0 := Lib.hid ((Sep.start w).pushO hbe ho)
      have S1 : Hid (Sep w ((w1.alloc (.cells #[.bool false, .bool false, .int .i64 0, .int .i64 0, .slice none 0 0, .int .i64 0] 64)).alloc (.cells #[.bool false, .slice none 0 0, .int .i64 0, .int .i64 0, .int .i64 0] 67)) [cRN (some ⟨w1.heap.size, 0, none⟩) none 0 s00, cRr (w1.heap.size + 1) none 0 s00, cOb A3 (n + 4) c3 (b ++ marks)]) := by
        exact (sep_rr0 (sep_rn0 S0.out)).fr1
      clear ho hbe S0
      have XB := Lib.hid (S1.out.rd HB.out)
      go_wp2_with (go_at_call 16; refine (kept_true _ _ _ _ b (Ob.rd S1.out.h2) _ _ XB.out (by omega)).mono ?_; rintro e w2 ⟨rfl, q2, rfl⟩)
      have S2 := Lib.hid (S1.out.drewN q2).fr2
      refine (spoil_any _ 0 A3 n c3 b (Ob.front' S2.out.h0 (by have := HB.out.len; omega) (by omega)) (by omega) (Nat.zero_le _) 1 (by decide)).mono ?_
      rintro e w3 ⟨rfl, hc⟩
      have S3 := Lib.hid (S2.out.lose hc)
      clear hc
      go_wp2
      go_loopw [10] (fun i wr => ∃ (k : Nat) (s : RdS), k ≤ os.length ∧ i = .int .i64 k ∧ Hid (s.buf.length ≤ 2000000) ∧ Hid (Sep w wr [cRN (some ⟨w1.heap.size, 0, none⟩) none 0 s, cRr (w1.heap.size + 1) none 0 s])) (fun i _ => os.length - (intOf i).toNat)
      case atStart => exact ⟨0, _, Nat.zero_le _, rfl, (by show _ ≤ _; simp [s00]), S3.out⟩
      case round =>
        obtain ⟨k, s, hk, rfl, HL, S⟩ := hrel
        by_cases hlt : k < os.length
        · obtain ⟨b', o, rfl, hc⟩ := HX.out.at_ k hlt
          obtain ⟨d0, d1, d2, d3, d4, d5⟩ := hc
          have hb0 : b' < w.heap.size := World.block_lt_of_cell? w _ d0
          have e0 := (S.out.bel.cell hb0).trans d0
          have e1 := (S.out.bel.cell hb0).trans d1
          have e2 := (S.out.bel.cell hb0).trans d2
          have e3 := (S.out.bel.cell hb0).trans d3
          have e4 := (S.out.bel.cell hb0).trans d4
          have e5 := (S.out.bel.cell hb0).trans d5
          clear d0 d1 d2 d3 d4 d5
          have OK := Lib.hid (HX.out.ok _ (List.getElem_mem hlt))
          generalize (os[k]'hlt) = op at *
          have hL := Lib.hid (read_any S.out op OK.out HT.out HL.out)
          unfold OpV.val ReadPost at hL
          go_wp2_with (go_at_call 31; refine hL.out.mono ?_; rintro e w5 ⟨rfl, s', hbf, hS⟩; have HBF := Lib.hid hbf; clear hbf)
          go_roundw
          case rel => exact ⟨k + 1, s', by omega, by go_num, by show _ ≤ _; rw [HBF.out]; exact HL.out, hS⟩
          case measure => simp [intOf]; omega
        · have HE : Hid (∀ wz l, Sep w wz (cRN (some ⟨w1.heap.size, 0, none⟩) none 0 s :: l) → Calls Tryd.prog 33 #[.pointer ((some ⟨w1.heap.size, 0, none⟩))] wz fun e w' => ∃ err, e = .returned err ∧ ErrIs w' err s.errC s.errA ∧ Below wz.heap.size wz w') := fun wz l S1 => rnErr S1
          have HR := Lib.hid (rrErr S.out.fr1)
          generalize s.errC = ec at *
          generalize s.errA = ea at *
          go_wp2_with fail
          refine HR.out.mono ?_
          rintro e w5 ⟨rfl, hb⟩
          have S5 := Lib.hid ((S.out.kept hb).box #[.int .i64 ec, .int .i64 ea] 29)
          clear hb
          go_wp2_with fail
          refine (HE.out _ _ S5.out.fr1).mono ?_
          rintro e w6 ⟨err, rfl, he, hb⟩
          have S6 := Lib.hid (S5.out.kept hb)
          have HEr := Lib.hid he
          clear he hb
          go_wp2_with fail
          refine (told_any _ err ec ea HEr.out).mono ?_
          rintro e w7 ⟨rfl, q4, rfl⟩
          have X6 : Blk w6 w5.heap.size #[.int .i64 ec, .int .i64 ea] 29 := S6.out.h0
          have n0 : w6.cell? ⟨w5.heap.size, 0, none⟩ = some (.int .i64 ec) := X6.cell 0
          have n1 : w6.cell? ⟨w5.heap.size, 1, none⟩ = some (.int .i64 ea) := X6.cell 1
          have HST := Lib.hid (stands_any (S6.out.drewN q4).tail)
          clear X6
          go_wp2_with (go_at_call 34; refine HST.out.mono ?_; rintro e w8 ⟨rfl, hS⟩)
          go_ret
          exact ⟨rfl, hS.bel⟩

end Go.Proofs.YtbhmnkpbaeemeaaDoor
