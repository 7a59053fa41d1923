import Derived.Test.YtbhmnkpbaeemeaaDoorW15
set_option linter.unusedVariables false
set_option linter.unusedSimpArgs false
namespace Go.Proofs.YtbhmnkpbaeemeaaDoor
open Go.RowKit

theorem Rd.pre {w : World} {A : Option Addr} {n c : Nat} {xs : List UInt8} (h : Rd w A n c xs) (k : Nat) (hk : k ≤ n) : Rd w A k c (xs.take k) :=
  ⟨by rw [List.length_take, h.len]; omega, by have := h.le; omega, h.max, h.nil, fun i hi => by
    have hi' : i < xs.length := by rw [List.length_take] at hi; omega
    obtain ⟨b, o, e, hc⟩ := h.at_ i hi'
    exact ⟨b, o, e, by rw [hc, List.getElem_take]⟩⟩

theorem rdr_new {w : World} {p : Nat} {A : Option Addr} {n c : Nat} {xs : List UInt8} {B : Nat} (ho : Ob w B A n c xs)
    (hb : Blk w p #[.bool true, .bool false, .int .i64 0, .int .i64 0, .slice A n c, .int .i64 0] 64) (hne : ¬ inA A p) (hm : n ≤ 1000000000) : Rdr w p A c ⟨true, false, 0, 0, xs, 0⟩ := by
  have hl := ho.rd.len
  subst hl
  exact ⟨hb, ho.mono (Nat.zero_le _), hne, Nat.zero_le _, hm⟩

section
variable {w : World} {p : Nat} {A : Option Addr} {c : Nat} {b : List UInt8}
theorem rsU16 (h : Rdr w p A c (rs b 0)) (hb : 8 ≤ b.length) :
    Calls Tryd.prog 68 #[.pointer (some ⟨p, 0, none⟩)] w fun e w' => e = .returned (.int .u16 (hd2 b : Int)) ∧ Rdr w' p A c (rs b 2) ∧ Chg w w' (· = p) := by
  have := rU16_any w p A c _ h
  rw [rs_sumV b 0 2 (by omega) hb, rs_sumS b 0 2 (by omega) hb] at this
  exact this
theorem rsVer (h : Rdr w p A c (rs b 2)) (hb : 8 ≤ b.length) :
    Calls Tryd.prog 69 #[.pointer (some ⟨p, 0, none⟩)] w fun e w' => e = .returned (.int .u8 (ver b : Int)) ∧ Rdr w' p A c (rs b 3) ∧ Chg w w' (· = p) := by
  have := rU8_any w p A c _ h
  rw [rs_sumV b 2 1 (by omega) hb, rs_sumS b 2 1 (by omega) hb] at this
  exact this
theorem rsKd (h : Rdr w p A c (rs b 3)) (hb : 8 ≤ b.length) :
    Calls Tryd.prog 69 #[.pointer (some ⟨p, 0, none⟩)] w fun e w' => e = .returned (.int .u8 (kd b : Int)) ∧ Rdr w' p A c (rs b 4) ∧ Chg w w' (· = p) := by
  have := rU8_any w p A c _ h
  rw [rs_sumV b 3 1 (by omega) hb, rs_sumS b 3 1 (by omega) hb] at this
  exact this
theorem rsSz (h : Rdr w p A c (rs b 4)) (hb : 8 ≤ b.length) :
    Calls Tryd.prog 70 #[.pointer (some ⟨p, 0, none⟩)] w fun e w' => e = .returned (.int .u32 (sz b : Int)) ∧ Rdr w' p A c (rs b 8) ∧ Chg w w' (· = p) := by
  have := rU32_any w p A c _ h
  rw [rs_sumV b 4 4 (by omega) hb, rs_sumS b 4 4 (by omega) hb] at this
  exact this
end

theorem chg_new {w0 w w' : World} {p : Nat} (h : Below w0.heap.size w0 w) (hp : w0.heap.size ≤ p) (hc : Chg w w' (· = p)) : Below w0.heap.size w0 w' :=
  h.trans (hc.below h.size fun i hi e => by omega)

set_option maxRecDepth 100000 in
set_option maxHeartbeats 800000 in
theorem wunframe_main (w : World) (A : Option Addr) (n c : Nat) (b : List UInt8) (hx : Rd w A n c b) (h12 : 12 ≤ n) (hmax : n ≤ 65507) (hT : Tab w) :
    Calls Tryd.prog 23 #[.slice A n c] w fun e w' => UnfBad w w' e b ∨ UnfGood w w' e b := by
  have hl := hx.len
  have hcap := hx.le
  subst hl
  have hb1 : decide ((65507 : Int) < (b.length : Int)) = false := by simp; omega
  have hb2 : decide ((b.length : Int) < 12) = false := by simp; omega
  have hm : b.length ≤ 1000000000 := by omega
  have Hmax := Lib.hid hmax
  have HN := Lib.hid (newReader_any w A 8 c (b.take 8) (hx.pre 8 (by omega)) (by omega))
  have HX := Lib.hid hx
  have h8 : 8 ≤ b.length := by omega
  clear hmax hx
  have HTL := Lib.hid hT.lt
  go_enter Tryd.func23, Tryd.ntmps23
  go_wp2_with fail
  refine HN.out.mono ?_
  rintro e w1 ⟨p, Ar, rfl, hp, ho, hblk, hne, be1⟩
  have r1 : Rdr w1 p Ar 8 (rs b 0) := rdr_new ho hblk hne (by omega)
  clear ho hblk hne
  go_wp2_with fail
  refine (rsU16 r1 h8).mono ?_
  rintro e w2 ⟨rfl, r2, cg⟩
  have be2 := chg_new be1 hp cg
  clear cg r1 be1
  by_cases hmg : hd2 b = 20813
  case neg =>
    have hb3 : ((hd2 b : Int) != 20813) = true := by simpa using (by omega : ¬ (hd2 b : Int) = 20813)
    have HE := Lib.hid (UnfErr.magic Hmax.out h12 hmg)
    clear hmg
    go_wp2_with (go_at_call 61; refine (fault_any _ _ _).mono ?_; rintro e w' ⟨rfl, rfl⟩)
    go_ret3
    exact .inl ⟨_, _, _, HE.out, rfl, Blk.new _ _ _, be2.size, be2.alloc be2.size _⟩
  case pos =>
    have hb3 : ((hd2 b : Int) != 20813) = false := by rw [hmg]; rfl
    have Hmg := Lib.hid hmg
    clear hmg
    go_wp2_with fail
    refine (rsVer r2 h8).mono ?_
    rintro e w3 ⟨rfl, r3, cg⟩
    have be3 := chg_new be2 hp cg
    clear cg r2 be2
    by_cases hvr : ver b = 1
    case neg =>
      have hb4 : ((ver b : Int) != 1) = true := by simpa using (by omega : ¬ (ver b : Int) = 1)
      have HE := Lib.hid (UnfErr.version Hmax.out h12 Hmg.out hvr)
      clear hvr
      go_wp2_with (go_at_call 61; refine (fault_any _ _ _).mono ?_; rintro e w' ⟨rfl, rfl⟩)
      go_ret3
      exact .inl ⟨_, _, _, HE.out, rfl, Blk.new _ _ _, be3.size, be3.alloc be3.size _⟩
    case pos =>
      have hb4 : ((ver b : Int) != 1) = false := by rw [hvr]; rfl
      have Hvr := Lib.hid hvr
      clear hvr
      go_wp2_with fail
      refine (rsKd r3 h8).mono ?_
      rintro e w4 ⟨rfl, r4, cg⟩
      have be4 := chg_new be3 hp cg
      clear cg r3 be3
      go_wp2_with fail
      refine (rsSz r4 h8).mono ?_
      rintro e w5 ⟨rfl, r5, cg⟩
      have be5 := chg_new be4 hp cg
      clear cg r4 be4 r5
      have hsz := sz_lt b
      by_cases hlt : b.length < 12 + sz b
      case pos =>
        have hb5 : decide ((b.length : Int) - 12 < (sz b : Int)) = true := by simp; omega
        have HE := Lib.hid (UnfErr.less Hmax.out h12 Hmg.out Hvr.out hlt)
        clear hlt
        go_wp2_with (go_at_call 61; refine (fault_any _ _ _).mono ?_; rintro e w' ⟨rfl, rfl⟩)
        go_ret3
        exact .inl ⟨_, _, _, HE.out, rfl, Blk.new _ _ _, be5.size, be5.alloc be5.size _⟩
      case neg =>
        have hb5 : decide ((b.length : Int) - 12 < (sz b : Int)) = false := by simp; omega
        by_cases hgt : 12 + sz b < b.length
        case pos =>
          have hb6 : decide ((sz b : Int) < (b.length : Int) - 12) = true := by simp; omega
          have HE := Lib.hid (UnfErr.more Hmax.out h12 Hmg.out Hvr.out hgt)
          clear hlt hgt
          go_wp2_with (go_at_call 61; refine (fault_any _ _ _).mono ?_; rintro e w' ⟨rfl, rfl⟩)
          go_ret3
          refine .inl ⟨_, _, _, HE.out, rfl, ?_, be5.size, be5.alloc be5.size _⟩
          rw [Int.natCast_add]
          exact Blk.new _ _ _
        case neg =>
          have heq : b.length = 12 + sz b := by omega
          have hb6 : decide ((sz b : Int) < (b.length : Int) - 12) = false := by simp; omega
          have hle : 12 + sz b ≤ b.length := by omega
          have Heq := Lib.hid heq
          clear hlt hgt heq
          have hx5 := HX.out.below be5
          have HS := Lib.hid (Sum_any w5 A (8 + sz b) c (b.take (8 + sz b)) (hx5.pre _ (by omega)) (hT.below be5 HTL.out))
          have HSL := Lib.hid (Crc.sum_lt (b.take (8 + sz b)))
          have HX5 := Lib.hid hx5
          clear hx5
          generalize hS : Crc.sum (b.take (8 + sz b)) = S at *
          have HSd := Lib.hid hS; clear hS
          have HLW := Lib.hid (low_any (S : Int) w5 (by omega) (by have := HSL.out; omega))
          go_wp2_with first | (go_at_call 14; refine HS.out.mono ?_; rintro e w6 ⟨rfl, rfl⟩) | (go_at_call 66; refine HLW.out.mono ?_; rintro e w6 ⟨rfl, rfl⟩)
          obtain ⟨w6, hw6⟩ : ∃ w6, w6 = w5.alloc (.cells (bs (low4 (S : Int))).toArray 5) := ⟨_, rfl⟩
          rw [← hw6]
          have hL4 : low4 (S : Int) = lowR S 4 := low4_eq S HSL.out
          have bl : Blk w6 w5.heap.size (bs (lowR S 4)).toArray 5 := by rw [hw6, hL4]; exact Blk.new _ _ _
          have BL := Lib.hid bl
          have HB6 := Lib.hid (by rw [hw6]; exact be5.alloc be5.size _ : Below w.heap.size w w6)
          have hx6 : Rd w6 A b.length c b := HX.out.below HB6.out
          have HX6 := Lib.hid hx6
          clear hL4 bl hx6 hw6 be5 HLW HS HX5
          go_loop [68] (fun i => ∃ k : Nat, k ≤ 4 ∧ i = .int .i64 k ∧ Hid (((b.drop (8 + sz b)).take 4).take k = (lowR S 4).take k)) (fun i => 4 - (intOf i).toNat)
          case atStart => exact ⟨0, Nat.zero_le _, rfl, rfl⟩
          case round =>
            obtain ⟨k, hk, rfl, HK⟩ := hrel
            by_cases hlt : k < 4
            · have hlD : k < ((b.drop (8 + sz b)).take 4).length := by rw [List.length_take, List.length_drop]; omega
              have hlL : k < (lowR S 4).length := by simp [lowR]; omega
              have hlb : 8 + sz b + k < b.length := by omega
              obtain ⟨bb, o, rfl, hc⟩ := HX6.out.at_ (8 + sz b + k) hlb
              have hcl : w6.cell? ⟨w5.heap.size, k, none⟩ = some (.int .u8 (((lowR S 4)[k]'hlL).toNat : Int)) := by
                rw [BL.out.cell k]; simpa using bs_get (lowR S 4) k hlL
              have hDk : ((b.drop (8 + sz b)).take 4)[k]'hlD = b[8 + sz b + k]'hlb := by rw [List.getElem_take, List.getElem_drop]
              have HDk := Lib.hid hDk
              clear hDk
              by_cases heq : b[8 + sz b + k]'hlb = (lowR S 4)[k]'hlL
              · have hb7 : (((b[8 + sz b + k]'hlb).toNat : Int) != (((lowR S 4)[k]'hlL).toNat : Int)) = false := by rw [heq]; simp
                have HE := Lib.hid heq
                clear heq
                go_wp2
                go_round
                case rel => exact ⟨k + 1, by omega, by go_num, by show _ = _; rw [take_snoc hlD, take_snoc hlL, HK.out, HDk.out, HE.out]⟩
                case measure => simp [intOf]; omega
              · have hb7 : (((b[8 + sz b + k]'hlb).toNat : Int) != (((lowR S 4)[k]'hlL).toNat : Int)) = true := by
                  simp only [bne_iff_ne, ne_eq, Int.natCast_inj]
                  exact fun h => heq (UInt8.toNat_inj.1 h)
                have HE := Lib.hid (UnfErr.sum Hmax.out h12 Hmg.out Hvr.out Heq.out (fun h => heq (by
                  unfold sumOk at h
                  rw [HSd.out] at h
                  rw [← HDk.out]
                  simp only [h])))
                clear heq
                go_wp2_with (go_at_call 61; refine (fault_any _ _ _).mono ?_; rintro e w' ⟨rfl, rfl⟩)
                go_ret3
                refine .inl ⟨_, _, _, HE.out, rfl, ?_, HB6.out.size, HB6.out.alloc HB6.out.size _⟩
                rw [Int.natCast_add]
                exact Blk.new _ _ _
            · obtain rfl : k = 4 := by omega
              have hok : sumOk b := by
                unfold sumOk
                rw [HSd.out]
                have h := HK.out
                have e1 : ((b.drop (8 + sz b)).take 4).take 4 = (b.drop (8 + sz b)).take 4 := List.take_of_length_le (by rw [List.length_take]; omega)
                have e2 : (lowR S 4).take 4 = lowR S 4 := List.take_of_length_le (by simp [lowR])
                rw [e1, e2] at h
                exact h
              have HOK := Lib.hid (UnfOk.mk Hmax.out h12 Hmg.out Hvr.out Heq.out hok)
              clear hok
              obtain ⟨bb, o, rfl, _⟩ := HX6.out.at_ 0 (by omega)
              have hp8 := HX6.out.piece 8 (8 + sz b) (by omega) (by omega)
              rw [Nat.add_sub_cancel_left] at hp8
              have HTW := Lib.hid (twin_any w6 _ _ _ _ hp8 (by omega))
              clear hp8
              go_wp2_with (go_at_call 71; refine HTW.out.mono ?_; rintro e w7 ⟨A7, rfl, ho, hb⟩)
              go_ret3
              have e1 : (b.drop 8).take (sz b) = bodyOf b := by
                unfold bodyOf
                rw [show sz b = b.length - 12 by have := Heq.out; omega]
              rw [e1] at ho
              exact .inr ⟨A7, _, HOK.out, rfl, ho.mono HB6.out.size, below_then HB6.out hb⟩
end Go.Proofs.YtbhmnkpbaeemeaaDoor
