import Derived.Test.YtbhmnkpbaeemeaaDoorStream3
set_option linter.unusedVariables false
set_option linter.unusedSimpArgs false
namespace Go.Proofs.YtbhmnkpbaeemeaaDoor
open Go.RowKit

def encAll (os : List OpV) : List UInt8 := (os.map encO).flatten
theorem encAll_succ (os : List OpV) (k : Nat) (h : k < os.length) : encAll (os.take (k + 1)) = encAll (os.take k) ++ encO (os[k]'h) := by
  unfold encAll
  rw [List.take_succ_eq_append_getElem h, List.map_append, List.flatten_append]
  simp
theorem encAll_split (os : List OpV) (k : Nat) (h : k < os.length) : (encAll os).drop (encAll (os.take k)).length = encO (os[k]'h) ++ encAll (os.drop (k + 1)) := by
  have e : encAll os = encAll (os.take k) ++ (encO (os[k]'h) ++ encAll (os.drop (k + 1))) := by
    unfold encAll
    rw [← List.append_assoc]
    have h2 := List.take_append_drop (k + 1) os
    conv => lhs; rw [← h2, List.map_append, List.flatten_append, List.take_succ_eq_append_getElem h, List.map_append, List.flatten_append]
    simp
  rw [e, List.drop_left]
theorem encAll_le (os : List OpV) (k : Nat) : (encAll (os.take k)).length ≤ (encAll os).length := by
  have e : encAll os = encAll (os.take k) ++ encAll (os.drop k) := by
    unfold encAll
    conv => lhs; rw [← List.take_append_drop k os, List.map_append, List.flatten_append]
  rw [e, List.length_append]
  omega
def stA (os : List OpV) (k : Nat) : RdS := ⟨true, false, 0, 0, encAll os, (encAll (os.take k)).length⟩

set_option maxRecDepth 100000 in
set_option maxHeartbeats 2000000 in
theorem wireStream_walk (w : World) (AO : Option Addr) (m c : Nat) (os : List OpV) (hx : RdO w AO m c os) (hT : U8T w) :
    Calls Tryd.prog 8 #[.slice AO m c] w fun e w' => e = .returned (.bool true) ∧ Below w.heap.size w w' := by
  have hl := hx.len
  subst hl
  have hle := hx.le
  have hmx := hx.max
  have HX := Lib.hid hx
  have HT := Lib.hid hT
  clear hx hT
  go_enter Tryd.func8, Tryd.ntmps8
  go_wp2
  go_loopw [3, 4] (fun a i wr => ∃ k n : Nat, k ≤ os.length ∧ i = .int .i64 k ∧ a = .int .i64 (n : Int) ∧ n ≤ 65507 ∧ Hid (n = (encAll (os.take k)).length) ∧ Hid (∀ j (h : j < os.length), j < k → okO (os[j]'h) = true) ∧ Hid (Below w.heap.size w wr)) (fun _ i _ => os.length - (intOf i).toNat)
  case atStart => exact ⟨0, 0, Nat.zero_le _, rfl, rfl, by decide, rfl, fun j h hj => by omega, Below.refl _ _⟩
  case round =>
    obtain ⟨k, n, hk, rfl, rfl, hn, HN, HO, HB⟩ := hrel
    by_cases hlt : k < os.length
    · obtain ⟨b', o, rfl, hc⟩ := HX.out.at_ k hlt
      obtain ⟨d0, d1, d2, d3, d4, d5⟩ := hc
      have hb0 : b' < w.heap.size := World.block_lt_of_cell? w _ d0
      have e0 := (HB.out.cell hb0).trans d0
      have e1 := (HB.out.cell hb0).trans d1
      have e2 := (HB.out.cell hb0).trans d2
      have e3 := (HB.out.cell hb0).trans d3
      have e4 := (HB.out.cell hb0).trans d4
      have e5 := (HB.out.cell hb0).trans d5
      clear d0 d1 d2 d3 d4 d5
      have OK0 := HX.out.ok _ (List.getElem_mem hlt)
      have OK : OpOk wr (os[k]'hlt) := ⟨OK0.num, OK0.int0, OK0.int, OK0.rd.below HB.out, OK0.n, OK0.s, OK0.most0, OK0.most⟩
      have HS := Lib.hid (size_op wr _ OK)
      have HN1 : Hid ((encAll (os.take (k + 1))).length = n + (encO (os[k]'hlt)).length) := by show _ = _; rw [encAll_succ os k hlt, List.length_append, HN.out]
      have HO1 : Hid (okO (os[k]'hlt) = true → ∀ j (h : j < os.length), j < k + 1 → okO (os[j]'h) = true) := fun ho j h hj => by
        rcases Nat.lt_or_ge j k with h1 | h1
        · exact HO.out j h h1
        · obtain rfl : j = k := by omega
          exact ho
      clear OK OK0
      generalize (os[k]'hlt) = op at *
      cases hok : okO op
      · have hz : sizeO op = -1 := by simp [sizeO, hok]
        rw [hz] at HS
        unfold OpV.val at HS
        clear hz hok
        go_wp2_with (go_at_call 35; refine HS.out.mono ?_; rintro e w5 ⟨rfl, hb⟩)
        go_ret
        exact ⟨rfl, below_then HB.out hb⟩
      · have hz : sizeO op = ((encO op).length : Int) := by simp [sizeO, hok]
        rw [hz] at HS
        have HK := Lib.hid (HO1.out hok)
        unfold OpV.val at HS
        clear hz hok
        generalize (encO op).length = x at *
        rcases Nat.lt_or_ge 65507 (n + x) with hgt | hge
        · have hg : (65507 : Int) - (n : Int) < (x : Int) := by omega
          go_wp2_with (go_at_call 35; refine HS.out.mono ?_; rintro e w5 ⟨rfl, hb⟩)
          go_ret
          exact ⟨rfl, below_then HB.out hb⟩
        · have hg : (x : Int) ≤ (65507 : Int) - (n : Int) := by omega
          go_wp2_with (go_at_call 35; refine HS.out.mono ?_; rintro e w5 ⟨rfl, hb⟩)
          go_roundw
          case rel => exact ⟨k + 1, n + x, by omega, by go_num, by simp, by omega, HN1.out.symm, HK.out, below_then HB.out hb⟩
          case measure => simp [intOf]; omega
    · obtain rfl : k = os.length := by omega
      have HNE : Hid (n = (encAll os).length) := by have := HN.out; rw [List.take_length] at this; exact this
      have HOK : Hid (∀ j (h : j < os.length), okO (os[j]'h) = true) := fun j h => HO.out j h h
      clear hlt hk HN HO
      go_wp2_with fail
      refine (newWriter_any 65507 wr).mono ?_
      rintro e w1 ⟨rfl, hw1, hb1⟩
      have S1 : Hid (Sep w w1 [cWr wr.heap.size none 0 (gW [])]) := by
        have h1 : Sep w wr [] := ⟨HB.out, fun _ h => by simp at h, .nil, fun _ h => by simp at h⟩
        exact h1.push hb1 _ hw1 fun k hk => by
          rcases hk with rfl | ⟨a, e, _⟩
          · exact Nat.le_refl _
          · cases e
      generalize wr.heap.size = p at *
      clear hw1 hb1
      go_wp2
      go_loopw [7] (fun i wr => ∃ (k : Nat) (A1 : Option Addr) (c1 : Nat), k ≤ os.length ∧ i = .int .i64 k ∧ Hid (Sep w wr [cWr p A1 c1 (gW (encAll (os.take k)))])) (fun i _ => os.length - (intOf i).toNat)
      case atStart => exact ⟨0, none, 0, Nat.zero_le _, rfl, S1⟩
      case round =>
        obtain ⟨k, A1, c1, hk, rfl, S⟩ := hrel
        by_cases hlt : k < os.length
        · obtain ⟨b', o, rfl, hc⟩ := HX.out.at_ k hlt
          obtain ⟨d0, d1, d2, d3, d4, d5⟩ := hc
          have hb0 : b' < w.heap.size := World.block_lt_of_cell? w _ d0
          have e0 := (S.out.bel.cell hb0).trans d0
          have e1 := (S.out.bel.cell hb0).trans d1
          have e2 := (S.out.bel.cell hb0).trans d2
          have e3 := (S.out.bel.cell hb0).trans d3
          have e4 := (S.out.bel.cell hb0).trans d4
          have e5 := (S.out.bel.cell hb0).trans d5
          clear d0 d1 d2 d3 d4 d5
          have hL := Lib.hid (put_op S.out (os[k]'hlt) (HX.out.ok _ (List.getElem_mem hlt)) HT.out (HOK.out k hlt) (by rw [← List.length_append, ← encAll_succ os k hlt]; have := encAll_le os (k + 1); have := HNE.out; omega))
          rw [← encAll_succ os k hlt] at hL
          generalize (os[k]'hlt) = op at *
          unfold OpV.val PutPost at hL
          go_wp2_with (go_at_call 37; refine hL.out.mono ?_; rintro e w5 ⟨rfl, A2, c2, hS⟩)
          go_roundw
          case rel => exact ⟨k + 1, A2, c2, by omega, by go_num, hS⟩
          case measure => simp [intOf]; omega
        · obtain rfl : k = os.length := by omega
          rw [List.take_length] at S
          clear hlt hk
          have HW : Hid (Wr wr p A1 c1 (gW (encAll os))) := S.out.h0
          go_wp2_with fail
          refine (Bytes_good HW.out rfl rfl).mono ?_
          rintro e w2 ⟨A2, rfl, ho, hb⟩
          have S2 := Lib.hid (S.out.pushO hb ho)
          clear ho hb
          have HL2 : Hid (Calls Tryd.prog 27 #[.pointer (some ⟨p, 0, none⟩)] w2 fun e w' => e = .returned (.int .i64 (n : Int)) ∧ w2 = w') := by
            have h1 : Wr w2 p A1 c1 (gW (encAll os)) := S2.out.h1
            have := Len_any h1
            rw [show ((gW (encAll os)).buf.length : Int) = (n : Int) by rw [HNE.out]; rfl] at this
            exact this
          have S2' : Hid (Sep w w2 [cOb A2 n n (encAll os)]) := by rw [HNE.out]; exact S2.out.d1
          rw [show (gW (encAll os)).buf.length = n by rw [HNE.out]; rfl]
          go_wp2_with (go_at_call 27; refine HL2.out.mono ?_; rintro e w3 ⟨rfl, rfl⟩)
          refine (rnNew S2'.out (Ob.rd S2'.out.h0) (by omega)).mono ?_
          rintro e w3 ⟨q, A3, c3, rfl, hS⟩
          have S3 := Lib.hid hS.d1
          clear hS
          go_wp2
          go_loopw [11] (fun i wr => ∃ (k : Nat), k ≤ os.length ∧ i = .int .i64 k ∧ Hid (Sep w wr [cRN (some ⟨q, 0, none⟩) A3 c3 (stA os k)])) (fun i _ => os.length - (intOf i).toNat)
          case atStart => exact ⟨0, Nat.zero_le _, rfl, S3⟩
          case round =>
            obtain ⟨k, hk, rfl, Z⟩ := hrel
            by_cases hlt : k < os.length
            · obtain ⟨b', o, rfl, hc⟩ := HX.out.at_ k hlt
              obtain ⟨d0, d1, d2, d3, d4, d5⟩ := hc
              have hb0 : b' < w.heap.size := World.block_lt_of_cell? w _ d0
              have e0 := (Z.out.bel.cell hb0).trans d0
              have e1 := (Z.out.bel.cell hb0).trans d1
              have e2 := (Z.out.bel.cell hb0).trans d2
              have e3 := (Z.out.bel.cell hb0).trans d3
              have e4 := (Z.out.bel.cell hb0).trans d4
              have e5 := (Z.out.bel.cell hb0).trans d5
              clear d0 d1 d2 d3 d4 d5
              have hL := Lib.hid (take_op Z.out (os[k]'hlt) (HX.out.ok _ (List.getElem_mem hlt)) HT.out (HOK.out k hlt) rfl (by show (encAll os).length ≤ _; have := HNE.out; omega) (encAll_split os k hlt))
              have he : (stA os k).step (encO (os[k]'hlt)).length = stA os (k + 1) := by
                unfold stA RdS.step
                rw [encAll_succ os k hlt, List.length_append]
              rw [he] at hL
              clear he
              generalize (os[k]'hlt) = op at *
              unfold OpV.val TakePost at hL
              go_wp2_with (go_at_call 39; refine hL.out.mono ?_; rintro e w5 ⟨rfl, hS⟩)
              go_roundw
              case rel => exact ⟨k + 1, by omega, by go_num, hS⟩
              case measure => simp [intOf]; omega
            · obtain rfl : k = os.length := by omega
              have hst : stA os os.length = ⟨true, false, 0, 0, encAll os, (encAll os).length⟩ := by unfold stA; rw [List.take_length]
              rw [hst] at Z
              have HE := Lib.hid (rnEnd Z.out)
              have hz : RdS.endC ⟨true, false, 0, 0, encAll os, (encAll os).length⟩ = 0 := by simp [RdS.endC, RdS.stuck]
              rw [hz] at HE
              clear hlt hk hz hst
              go_wp2_with fail
              refine HE.out.mono ?_
              rintro e w6 ⟨err, rfl, he, hb⟩
              obtain ⟨rfl, _⟩ : err = .nilIface ∧ True := by
                rcases he with h | ⟨_, _, _, h⟩
                · exact ⟨h.1, trivial⟩
                · exact absurd rfl h
              have S6 := Lib.hid (Z.out.kept hb)
              clear he hb
              have HA6 := Lib.hid (rnAt S6.out)
              have HL6 := Lib.hid (rnLeft S6.out)
              rw [show (RdS.mk true false 0 0 (encAll os) (encAll os).length).off = n by rw [HNE.out]] at HA6 HL6
              rw [show ((RdS.mk true false 0 0 (encAll os) (encAll os).length).buf.length - n : Nat) = 0 by show (encAll os).length - n = 0; have := HNE.out; omega] at HL6
              go_wp2_with first | (go_at_call 41; refine HA6.out.mono ?_; rintro e w7 ⟨rfl, rfl⟩) | (go_at_call 42; refine HL6.out.mono ?_; rintro e w7 ⟨rfl, q7, rfl⟩)
              go_ret
              exact ⟨rfl, (S6.out.drewN _).bel⟩
end Go.Proofs.YtbhmnkpbaeemeaaDoor
