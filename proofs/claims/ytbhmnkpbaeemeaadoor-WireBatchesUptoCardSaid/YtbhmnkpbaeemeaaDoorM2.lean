import Derived.Test.YtbhmnkpbaeemeaaDoorM1
import Derived.Test.YtbhmnkpbaeemeaaDoorK5
set_option linter.unusedVariables false
set_option linter.unusedSimpArgs false
/-! # L11 -/
set_option maxRecDepth 100000
namespace Go.Proofs.YtbhmnkpbaeemeaaDoor
open Go.RowKit

/-! ## numbers with a bound; requests; a batch, read -/
def RdS.upS (s : RdS) (m : Nat) : RdS := if s.numS.stuck then s.numS else if m < s.numV then s.numS.no 29 s.off else s.numS
def RdS.upV (s : RdS) (m : Nat) : Nat := if s.numS.stuck then s.numV else if m < s.numV then 0 else s.numV
/-- A client's number. -/
def RdS.clS (s : RdS) : RdS := if s.numS.stuck then s.numS else if s.numV < 256 then s.numS.no 29 s.off else s.numS
def RdS.rqS (s : RdS) : RdS := s.clS.numS.blobS 700
def RdS.rqV (s : RdS) : Nat × Nat × List UInt8 := (s.numV, s.clS.numV, s.clS.numS.blobV 700)
def RdS.reqs : Nat → RdS → RdS × List (Nat × Nat × List UInt8)
  | 0, s => (s, [])
  | n + 1, s => if s.stuck then (s, []) else ((RdS.reqs n s.rqS).1, s.rqV :: (RdS.reqs n s.rqS).2)
def RdS.btS (s : RdS) : RdS := (RdS.reqs ((s.upS 1099511627776).countV 8) ((s.upS 1099511627776).countS 8)).1
def RdS.btV (s : RdS) : List (Nat × Nat × List UInt8) := (RdS.reqs ((s.upS 1099511627776).countV 8) ((s.upS 1099511627776).countS 8)).2

theorem numS_buf (s : RdS) : s.numS.buf = s.buf := by
  unfold RdS.numS
  split
  · rfl
  · split <;> rfl
theorem numV_lt {s : RdS} (h : s.Ok) : s.numV < 18446744073709551616 := by
  have := pk_facts s h.le
  unfold RdS.numV
  split
  · decide
  · exact this.1
theorem RdS.Ok.upS {s : RdS} (h : s.Ok) (m : Nat) : (s.upS m).Ok := by
  unfold RdS.upS
  cases hs : s.numS.stuck
  · simp only [Bool.false_eq_true, if_false]
    split
    · exact h.numS.no hs 29 s.off (by decide) (by rw [numS_buf]; exact h.le)
    · exact h.numS
  · exact h.numS
theorem RdS.Ok.clS {s : RdS} (h : s.Ok) : s.clS.Ok := by
  unfold RdS.clS
  cases hs : s.numS.stuck
  · simp only [Bool.false_eq_true, if_false]
    split
    · exact h.numS.no hs 29 s.off (by decide) (by rw [numS_buf]; exact h.le)
    · exact h.numS
  · exact h.numS
theorem RdS.Ok.rqS {s : RdS} (h : s.Ok) : s.rqS.Ok := (h.clS.numS).blobS 700
theorem reqs_stuck {s : RdS} (h : s.stuck = true) (n : Nat) : RdS.reqs n s = (s, []) := by
  cases n <;> simp [RdS.reqs, h]

section
variable {w0 w w' : World} {A : Option Addr} {c : Nat} {s s' : RdS} {l : List Ch} {q : Nat}
theorem rrUpTo (S : Sep w0 w (cRr q A c s :: l)) (m : Nat) (hm : m < 18446744073709551616) : Calls Tryd.prog 149 #[.pointer (some ⟨q, 0, none⟩), .int .u64 (m : Int)] w fun e w' => e = .returned (.int .u64 (s.upV m : Int)) ∧ Sep w0 w' (cRr q A c (s.upS m) :: l) := by
  have ok : s.Ok := S.h0.ok
  have h : Rr w q A c s := S.h0
  have c2 : w.cell? ⟨q, 2, none⟩ = some (.int .i64 (s.off : Int)) := h.blk.cell 2
  have HF := Lib.hid (rrNum S)
  have hv := numV_lt ok
  cases ht : s.numS.stuck
  · by_cases hg : m < s.numV
    · have e1 : s.upS m = s.numS.no 29 s.off := by simp [RdS.upS, ht, hg]
      have e2 : s.upV m = 0 := by simp [RdS.upV, ht, hg]
      have hbl : s.off ≤ s.numS.buf.length := by rw [numS_buf]; exact ok.le
      rw [e1, e2]
      clear e1 e2 h ok S
      have HT := Lib.hid ht
      have HBL := Lib.hid hbl
      clear ht hbl
      generalize s.numS = s1 at *
      go_enter Tryd.func149, Tryd.ntmps149
      go_wp2_with first | (go_at_call 89; refine HF.out.mono ?_; rintro e w2 ⟨rfl, hS⟩; have S2 := Lib.hid hS; clear hS) | (go_at_call 142; refine (rrDead S2.out HT.out).mono ?_; rintro e w3 ⟨rfl, rfl⟩) | (go_at_call 143; refine (rrFail S2.out HT.out 29 s.off (by decide) HBL.out _ _ rfl rfl).mono ?_; rintro e w4 ⟨rfl, hS⟩; have S4 := Lib.hid hS; clear hS)
      go_ret
      exact ⟨rfl, S4.out⟩
    · have e1 : s.upS m = s.numS := by simp [RdS.upS, ht, hg]
      have e2 : s.upV m = s.numV := by simp [RdS.upV, ht, hg]
      rw [e1, e2]
      clear e1 e2 h ok S
      have HT := Lib.hid ht
      clear ht
      generalize s.numS = s1 at *
      go_enter Tryd.func149, Tryd.ntmps149
      go_wp2_with first | (go_at_call 89; refine HF.out.mono ?_; rintro e w2 ⟨rfl, hS⟩; have S2 := Lib.hid hS; clear hS) | (go_at_call 142; refine (rrDead S2.out HT.out).mono ?_; rintro e w3 ⟨rfl, rfl⟩)
      go_ret
      exact ⟨rfl, S2.out⟩
  · have e1 : s.upS m = s.numS := by simp [RdS.upS, ht]
    have e2 : s.upV m = s.numV := by simp [RdS.upV, ht]
    rw [e1, e2]
    clear e1 e2 h ok S
    have HT := Lib.hid ht
    clear ht
    generalize s.numS = s1 at *
    go_enter Tryd.func149, Tryd.ntmps149
    go_wp2_with first | (go_at_call 89; refine HF.out.mono ?_; rintro e w2 ⟨rfl, hS⟩; have S2 := Lib.hid hS; clear hS) | (go_at_call 142; refine (rrDead S2.out HT.out).mono ?_; rintro e w3 ⟨rfl, rfl⟩)
    go_ret
    exact ⟨rfl, S2.out⟩
end
end Go.Proofs.YtbhmnkpbaeemeaaDoor

/-! # L12 -/
set_option maxRecDepth 100000
namespace Go.Proofs.YtbhmnkpbaeemeaaDoor
open Go.RowKit

def RQ.fine (q : RQ) : Prop := q.client < 18446744073709551616 ∧ q.seq < 18446744073709551616 ∧ q.b.length = q.n ∧ q.n ≤ 2000000

section
variable {w0 w w' : World} {A : Option Addr} {c : Nat} {s s' : RdS} {l : List Ch} {q : Nat}
theorem clS_cases (s : RdS) : (s.numS.stuck = true ∧ s.clS = s.numS) ∨ (s.numS.stuck = false ∧ s.numV < 256 ∧ s.clS = s.numS.no 29 s.off) ∨ (s.numS.stuck = false ∧ 256 ≤ s.numV ∧ s.clS = s.numS) := by
  unfold RdS.clS
  cases h : s.numS.stuck
  · by_cases h2 : s.numV < 256
    · exact .inr (.inl ⟨rfl, h2, by simp [h2]⟩)
    · exact .inr (.inr ⟨rfl, by omega, by simp [h2]⟩)
  · exact .inl ⟨rfl, by simp⟩

theorem blobV_max (s : RdS) (m : Nat) : (s.blobV (m : Int)).length ≤ m := by
  unfold RdS.blobV
  split
  · simp
  · split
    · rename_i h
      simp only [RdS.fits, RdS.much, Bool.and_eq_true, Bool.not_eq_true', decide_eq_false_iff_not] at h
      unfold RdS.body
      rw [List.length_take]
      omega
    · simp

set_option maxHeartbeats 4000000 in
theorem rrBatch (S : Sep w0 w (cRr q A c s :: l)) : Calls Tryd.prog 145 #[.pointer (some ⟨q, 0, none⟩)] w fun e w' => ∃ A' n' c' qs', e = .returned (.agg #[.int .u64 (s.upV 1099511627776 : Int), .slice A' n' c']) ∧ qs'.map RQ.key = s.btV ∧ (∀ q ∈ qs', q.fine) ∧
    Sep w0 w' (cRr q A c s.btS :: cOw 155 3 A' n' c' (qcells qs') :: cAll (qs'.map cOwn) :: l) := by
  have ok : s.Ok := S.h0.ok
  have S0 := Lib.hid (S.box #[.int .u64 0, .slice none 0 0] 83).fr1
  have HU := fun (W : World) (L : List Ch) (S : Sep w0 W (cRr q A c s :: L)) => Lib.hid (rrUpTo S 1099511627776 (by decide))
  have ok1 := ok.upS 1099511627776
  have HCt := fun (W : World) (L : List Ch) (S : Sep w0 W (cRr q A c (s.upS 1099511627776) :: L)) => Lib.hid (rrCount S 8 (by decide))
  have ok4 := ok1.countS 8
  unfold RdS.btS RdS.btV
  clear S ok
  generalize s.upV 1099511627776 = st at *
  generalize s.upS 1099511627776 = s1 at *
  have hn8 : s1.countV 8 ≤ 8 := by
    unfold RdS.countV RdS.much
    split
    · omega
    · split
      · omega
      · split
        · omega
        · rename_i h
          simp at h
          omega
  clear ok1
  generalize s1.countV 8 = n at *
  generalize s1.countS 8 = s2 at *
  obtain ⟨g0, hg⟩ : ∃ g, g = w.heap.size := ⟨_, rfl⟩
  rw [← hg] at S0
  go_enter Tryd.func145, Tryd.ntmps145
  go_wp2_with fail
  rw [← hg]
  clear hg
  generalize (w.alloc (.cells #[.int .u64 0, .slice none 0 0] 83)) = w1 at *
  refine (HU _ _ S0.out).out.mono ?_
  rintro e w2 ⟨rfl, hS⟩
  have S2 := Lib.hid (hS.box #[.int .u64 (st : Int), .slice none 0 0] 83).fr1
  clear hS S0
  obtain ⟨g1, hg⟩ : ∃ g, g = w2.heap.size := ⟨_, rfl⟩
  rw [← hg] at S2
  go_wp2_with fail
  rw [← hg]
  clear hg
  generalize (w2.alloc (.cells #[.int .u64 (st : Int), .slice none 0 0] 83)) = w3 at *
  refine (HCt _ _ S2.out).out.mono ?_
  rintro e w4 ⟨rfl, hS⟩
  have S4 := Lib.hid hS
  clear hS S2 HU HCt
  go_wp2
  go_loopw [5] (fun i wr => ∃ (k : Nat) (s' : RdS) (A' : Option Addr) (c' : Nat) (qs' : List RQ), k ≤ n ∧ i = .int .i64 (k : Int) ∧ Hid (RdS.reqs n s2 = ((RdS.reqs (n - k) s').1, qs'.map RQ.key ++ (RdS.reqs (n - k) s').2)) ∧ Hid (∀ q ∈ qs', q.fine) ∧
    Hid (Sep w0 wr (cRr q A c s' :: cOw 155 3 A' k c' (qcells qs') :: cAll (qs'.map cOwn) :: cBlk g1 #[.int .u64 (st : Int), .slice A' k c'] 83 :: cBlk g0 #[.int .u64 0, .slice none 0 0] 83 :: l))) (fun i _ => n - (intOf i).toNat)
  case atStart => exact ⟨0, s2, none, 0, [], Nat.zero_le _, rfl, (show _ = _ by simp), (show ∀ q ∈ [], _ by simp), ((S4.out.packNil).push (Below.refl _ _) (cOw 155 3 none 0 0 []) (Ow.nil _ _ _) fun k hk => by obtain ⟨a, e, _⟩ := hk; cases e).fr2⟩
  case round =>
    obtain ⟨k, s', A', c', qs', hk, rfl, HK, HF, R⟩ := hrel
    have XB : Blk wr g1 _ _ := R.out.h3
    have b0 : wr.cell? ⟨g1, 0, none⟩ = some (.int .u64 (st : Int)) := XB.cell 0
    have b1 : wr.cell? ⟨g1, 1, none⟩ = some (.slice A' k c') := XB.cell 1
    have ok' : s'.Ok := R.out.h0.ok
    clear XB
    by_cases hlt : k < n
    · cases hst : s'.stuck
      · have HST := Lib.hid hst
        have HU : Hid (RdS.reqs n s2 = ((RdS.reqs (n - (k + 1)) s'.rqS).1, (qs'.map RQ.key ++ [s'.rqV]) ++ (RdS.reqs (n - (k + 1)) s'.rqS).2)) := by
          show _ = _
          rw [HK.out, show n - k = (n - (k + 1)) + 1 by omega]
          simp [RdS.reqs, hst]
        clear HK hst
        have c2 : wr.cell? ⟨q, 2, none⟩ = some (.int .i64 (s'.off : Int)) := R.out.h0.blk.cell 2
        have hv := numV_lt ok'
        have hb : (s'.clS.numS.blobV 700).length ≤ 700 := blobV_max _ _
        have hsm := (ok'.clS.numS).small
        have hv2 := numV_lt ok'.clS
        have okk := ok'.rqS
        unfold RdS.rqS RdS.rqV at HU
        go_wp2_with fail
        refine (rrDead R.out HST.out).mono ?_
        rintro e w5 ⟨rfl, rfl⟩
        go_wp2_with fail
        refine (rrNum R.out).mono ?_
        rintro e w6 ⟨rfl, hS⟩
        have S7 := Lib.hid (hS.box #[.int .u64 (s'.numV : Int), .int .u64 0, .slice none 0 0] 155).fr1
        clear hS
        obtain ⟨h, hg⟩ : ∃ h, h = w6.heap.size := ⟨_, rfl⟩
        rw [← hg] at S7
        go_wp2_with fail
        rw [← hg]
        clear hg
        generalize (w6.alloc (.cells #[.int .u64 (s'.numV : Int), .int .u64 0, .slice none 0 0] 155)) = w7 at *
        have XH : Blk w7 h _ _ := S7.out.h1
        have h0 : w7.cell? ⟨h, 0, none⟩ = some (.int .u64 (s'.numV : Int)) := XH.cell 0
        clear XH b0 b1 c2
        have hbo : s'.off ≤ s'.numS.buf.length := by rw [numS_buf]; exact ok'.le
        have HBO := Lib.hid hbo
        clear hbo
        have HC := Lib.hid (clS_cases s')
        generalize s'.clS = sc at *
        generalize s'.numS = sn at *
        generalize s'.numV = cv at *
        have HS9 := fun (W : World) (L : List Ch) (S : Sep w0 W (cRr q A c sc :: L)) => Lib.hid (rrNum S)
        have HSb := fun (W : World) (L : List Ch) (S : Sep w0 W (cRr q A c sc.numS :: L)) => Lib.hid (rrBlob S 700 (by decide))
        rcases HC.out with ⟨ht, he⟩ | ⟨ht, hlt2, he⟩ | ⟨ht, hge, he⟩
        · refine (rrDead S7.out ht).mono ?_
          rintro e w8 ⟨rfl, rfl⟩
          have S8 := S7
          rw [← he] at S8
          generalize sn = sx at *
          clear S7 h0 ht he HC
          go_wp2_with fail
          refine (HS9 _ _ S8.out).out.mono ?_
          rintro e w9 ⟨rfl, hS⟩
          have S9 := Lib.hid (hS.fr1.set 1 (.int .u64 (sc.numV : Int))).fr1
          have XH : Blk w9 h _ _ := hS.h1
          have h1 : w9.cell? ⟨h, 1, none⟩ = some (.int .u64 0) := XH.cell 1
          have f1 := XH.frozen 1
          clear XH hS S8 HS9
          go_wp2_with fail
          generalize (w9.setCell ⟨h, 1, none⟩ (.int .u64 (sc.numV : Int))) = w10 at *
          refine (HSb _ _ S9.out).out.mono ?_
          unfold BlPost
          rintro e w11 ⟨A5, n5, c5, rfl, hS⟩
          have S12 := Lib.hid (hS.fr2.set 2 (.slice A5 n5 c5)).tail.fr2
          have XH : Blk w11 h _ _ := hS.h2
          have XB : Blk w11 g1 _ _ := hS.h5
          have h0 : w11.cell? ⟨h, 0, none⟩ = some (.int .u64 (cv : Int)) := XH.cell 0
          have h1 : w11.cell? ⟨h, 1, none⟩ = some (.int .u64 (sc.numV : Int)) := XH.cell 1
          have h2 : w11.cell? ⟨h, 2, none⟩ = some (.slice none 0 0) := XH.cell 2
          have f2 := XH.frozen 2
          have b1 : w11.cell? ⟨g1, 1, none⟩ = some (.slice A' k c') := XB.cell 1
          have fb1 := XB.frozen 1
          have hln : n5 = (sc.numS.blobV 700).length := (Ob.rd hS.h0).len.symm
          have hne : ¬ g1 = h := fun e => (List.pairwise_cons.1 hS.tail.tail.sep).1 _ (.tail _ (.tail _ (.head _))) h rfl e.symm
          have HLN := Lib.hid hln
          clear XH XB hS S9 HSb hln
          go_wp2_with (at_builtin; refine sep_app1 elQ rfl (.tmp 48) (.tmp 50) rfl rfl S12.out #[.int .u64 (cv : Int), .int .u64 (sc.numV : Int), .slice A5 n5 c5] (congrArg (fun z => Value.slice (some ⟨z, 0, none⟩) 1 1) (show w11.heap.size = (w11.setCell ⟨h, 2, none⟩ (.slice A5 n5 c5)).heap.size by simp)) rfl (by simp [Value.oneCell']) (by omega) (by omega) ?_; intro A6 c6 w13 S13; have S14 := Lib.hid S13; have XC : Blk w13 g1 _ _ := S13.h4; have i6 : w13.cell? ⟨g1, 1, none⟩ = some (.slice A' k c') := XC.cell 1; have f6 := XC.frozen 1; clear XC S13)
          go_roundw
          case rel =>
            have S15 : Sep w0 (w13.setCell ⟨g1, 1, none⟩ (.slice A6 (k + 1) c6)) (cBlk g1 #[.int .u64 (st : Int), .slice A6 (k + 1) c6] 83 :: cOw 155 3 A6 (k + 1) c6 (qcells (qs' ++ [⟨cv, sc.numV, A5, n5, c5, sc.numS.blobV 700⟩])) :: cOwn ⟨cv, sc.numV, A5, n5, c5, sc.numS.blobV 700⟩ :: cRr q A c (sc.numS.blobS 700) :: cAll (qs'.map cOwn) :: cBlk g0 #[.int .u64 0, .slice none 0 0] 83 :: l) := by
              rw [qcells_snoc]
              exact S14.out.fr4.set 1 _
            refine ⟨k + 1, sc.numS.blobS 700, A6, c6, qs' ++ [⟨cv, sc.numV, A5, n5, c5, sc.numS.blobV 700⟩], by omega, by go_num, ?_, ?_, ?_⟩
            · show _ = _
              rw [List.map_append]
              exact HU.out
            · intro q hq
              rcases List.mem_append.1 hq with hq | hq
              · exact HF.out q hq
              · rw [List.mem_singleton.1 hq]
                exact ⟨hv, hv2, HLN.out.symm, by have := HLN.out; simp only; omega⟩
            · have S16 : Sep w0 _ (cAll (qs'.map cOwn ++ [cOwn ⟨cv, sc.numV, A5, n5, c5, sc.numS.blobV 700⟩]) :: _ :: _ :: _ :: _) := Sep.packCons S15.fr4.fr3
              show Sep w0 _ (_ :: _ :: cAll ((qs' ++ [(⟨cv, sc.numV, A5, n5, c5, sc.numS.blobV 700⟩ : RQ)]).map cOwn) :: _)
              rw [List.map_append]
              exact S16.fr2.fr3
          case measure => simp [intOf]; omega
        · refine (rrDead S7.out ht).mono ?_
          rintro e w8 ⟨rfl, rfl⟩
          have HT := Lib.hid ht
          have HE := Lib.hid he
          clear ht he HC
          go_wp2_with fail
          refine (rrFail S7.out HT.out 29 s'.off (by decide) HBO.out _ _ rfl rfl).mono ?_
          rintro e w8 ⟨rfl, hS⟩
          rw [← HE.out] at hS
          have S8 := Lib.hid hS
          clear S7 h0 HE HT hS
          go_wp2_with fail
          refine (HS9 _ _ S8.out).out.mono ?_
          rintro e w9 ⟨rfl, hS⟩
          have S9 := Lib.hid (hS.fr1.set 1 (.int .u64 (sc.numV : Int))).fr1
          have XH : Blk w9 h _ _ := hS.h1
          have h1 : w9.cell? ⟨h, 1, none⟩ = some (.int .u64 0) := XH.cell 1
          have f1 := XH.frozen 1
          clear XH hS S8 HS9
          go_wp2_with fail
          generalize (w9.setCell ⟨h, 1, none⟩ (.int .u64 (sc.numV : Int))) = w10 at *
          refine (HSb _ _ S9.out).out.mono ?_
          unfold BlPost
          rintro e w11 ⟨A5, n5, c5, rfl, hS⟩
          have S12 := Lib.hid (hS.fr2.set 2 (.slice A5 n5 c5)).tail.fr2
          have XH : Blk w11 h _ _ := hS.h2
          have XB : Blk w11 g1 _ _ := hS.h5
          have h0 : w11.cell? ⟨h, 0, none⟩ = some (.int .u64 (cv : Int)) := XH.cell 0
          have h1 : w11.cell? ⟨h, 1, none⟩ = some (.int .u64 (sc.numV : Int)) := XH.cell 1
          have h2 : w11.cell? ⟨h, 2, none⟩ = some (.slice none 0 0) := XH.cell 2
          have f2 := XH.frozen 2
          have b1 : w11.cell? ⟨g1, 1, none⟩ = some (.slice A' k c') := XB.cell 1
          have fb1 := XB.frozen 1
          have hln : n5 = (sc.numS.blobV 700).length := (Ob.rd hS.h0).len.symm
          have hne : ¬ g1 = h := fun e => (List.pairwise_cons.1 hS.tail.tail.sep).1 _ (.tail _ (.tail _ (.head _))) h rfl e.symm
          have HLN := Lib.hid hln
          clear XH XB hS S9 HSb hln
          go_wp2_with (at_builtin; refine sep_app1 elQ rfl (.tmp 48) (.tmp 50) rfl rfl S12.out #[.int .u64 (cv : Int), .int .u64 (sc.numV : Int), .slice A5 n5 c5] (congrArg (fun z => Value.slice (some ⟨z, 0, none⟩) 1 1) (show w11.heap.size = (w11.setCell ⟨h, 2, none⟩ (.slice A5 n5 c5)).heap.size by simp)) rfl (by simp [Value.oneCell']) (by omega) (by omega) ?_; intro A6 c6 w13 S13; have S14 := Lib.hid S13; have XC : Blk w13 g1 _ _ := S13.h4; have i6 : w13.cell? ⟨g1, 1, none⟩ = some (.slice A' k c') := XC.cell 1; have f6 := XC.frozen 1; clear XC S13)
          go_roundw
          case rel =>
            have S15 : Sep w0 (w13.setCell ⟨g1, 1, none⟩ (.slice A6 (k + 1) c6)) (cBlk g1 #[.int .u64 (st : Int), .slice A6 (k + 1) c6] 83 :: cOw 155 3 A6 (k + 1) c6 (qcells (qs' ++ [⟨cv, sc.numV, A5, n5, c5, sc.numS.blobV 700⟩])) :: cOwn ⟨cv, sc.numV, A5, n5, c5, sc.numS.blobV 700⟩ :: cRr q A c (sc.numS.blobS 700) :: cAll (qs'.map cOwn) :: cBlk g0 #[.int .u64 0, .slice none 0 0] 83 :: l) := by
              rw [qcells_snoc]
              exact S14.out.fr4.set 1 _
            refine ⟨k + 1, sc.numS.blobS 700, A6, c6, qs' ++ [⟨cv, sc.numV, A5, n5, c5, sc.numS.blobV 700⟩], by omega, by go_num, ?_, ?_, ?_⟩
            · show _ = _
              rw [List.map_append]
              exact HU.out
            · intro q hq
              rcases List.mem_append.1 hq with hq | hq
              · exact HF.out q hq
              · rw [List.mem_singleton.1 hq]
                exact ⟨hv, hv2, HLN.out.symm, by have := HLN.out; simp only; omega⟩
            · have S16 : Sep w0 _ (cAll (qs'.map cOwn ++ [cOwn ⟨cv, sc.numV, A5, n5, c5, sc.numS.blobV 700⟩]) :: _ :: _ :: _ :: _) := Sep.packCons S15.fr4.fr3
              show Sep w0 _ (_ :: _ :: cAll ((qs' ++ [(⟨cv, sc.numV, A5, n5, c5, sc.numS.blobV 700⟩ : RQ)]).map cOwn) :: _)
              rw [List.map_append]
              exact S16.fr2.fr3
          case measure => simp [intOf]; omega
        · refine (rrDead S7.out ht).mono ?_
          rintro e w8 ⟨rfl, rfl⟩
          have S8 := S7
          rw [← he] at S8
          have HT := Lib.hid ht
          clear S7 ht he HC
          go_wp2_with fail
          refine (HS9 _ _ S8.out).out.mono ?_
          rintro e w9 ⟨rfl, hS⟩
          have S9 := Lib.hid (hS.fr1.set 1 (.int .u64 (sc.numV : Int))).fr1
          have XH : Blk w9 h _ _ := hS.h1
          have h1 : w9.cell? ⟨h, 1, none⟩ = some (.int .u64 0) := XH.cell 1
          have f1 := XH.frozen 1
          clear XH hS S8 HS9
          go_wp2_with fail
          generalize (w9.setCell ⟨h, 1, none⟩ (.int .u64 (sc.numV : Int))) = w10 at *
          refine (HSb _ _ S9.out).out.mono ?_
          unfold BlPost
          rintro e w11 ⟨A5, n5, c5, rfl, hS⟩
          have S12 := Lib.hid (hS.fr2.set 2 (.slice A5 n5 c5)).tail.fr2
          have XH : Blk w11 h _ _ := hS.h2
          have XB : Blk w11 g1 _ _ := hS.h5
          have h0 : w11.cell? ⟨h, 0, none⟩ = some (.int .u64 (cv : Int)) := XH.cell 0
          have h1 : w11.cell? ⟨h, 1, none⟩ = some (.int .u64 (sc.numV : Int)) := XH.cell 1
          have h2 : w11.cell? ⟨h, 2, none⟩ = some (.slice none 0 0) := XH.cell 2
          have f2 := XH.frozen 2
          have b1 : w11.cell? ⟨g1, 1, none⟩ = some (.slice A' k c') := XB.cell 1
          have fb1 := XB.frozen 1
          have hln : n5 = (sc.numS.blobV 700).length := (Ob.rd hS.h0).len.symm
          have hne : ¬ g1 = h := fun e => (List.pairwise_cons.1 hS.tail.tail.sep).1 _ (.tail _ (.tail _ (.head _))) h rfl e.symm
          have HLN := Lib.hid hln
          clear XH XB hS S9 HSb hln
          go_wp2_with (at_builtin; refine sep_app1 elQ rfl (.tmp 48) (.tmp 50) rfl rfl S12.out #[.int .u64 (cv : Int), .int .u64 (sc.numV : Int), .slice A5 n5 c5] (congrArg (fun z => Value.slice (some ⟨z, 0, none⟩) 1 1) (show w11.heap.size = (w11.setCell ⟨h, 2, none⟩ (.slice A5 n5 c5)).heap.size by simp)) rfl (by simp [Value.oneCell']) (by omega) (by omega) ?_; intro A6 c6 w13 S13; have S14 := Lib.hid S13; have XC : Blk w13 g1 _ _ := S13.h4; have i6 : w13.cell? ⟨g1, 1, none⟩ = some (.slice A' k c') := XC.cell 1; have f6 := XC.frozen 1; clear XC S13)
          go_roundw
          case rel =>
            have S15 : Sep w0 (w13.setCell ⟨g1, 1, none⟩ (.slice A6 (k + 1) c6)) (cBlk g1 #[.int .u64 (st : Int), .slice A6 (k + 1) c6] 83 :: cOw 155 3 A6 (k + 1) c6 (qcells (qs' ++ [⟨cv, sc.numV, A5, n5, c5, sc.numS.blobV 700⟩])) :: cOwn ⟨cv, sc.numV, A5, n5, c5, sc.numS.blobV 700⟩ :: cRr q A c (sc.numS.blobS 700) :: cAll (qs'.map cOwn) :: cBlk g0 #[.int .u64 0, .slice none 0 0] 83 :: l) := by
              rw [qcells_snoc]
              exact S14.out.fr4.set 1 _
            refine ⟨k + 1, sc.numS.blobS 700, A6, c6, qs' ++ [⟨cv, sc.numV, A5, n5, c5, sc.numS.blobV 700⟩], by omega, by go_num, ?_, ?_, ?_⟩
            · show _ = _
              rw [List.map_append]
              exact HU.out
            · intro q hq
              rcases List.mem_append.1 hq with hq | hq
              · exact HF.out q hq
              · rw [List.mem_singleton.1 hq]
                exact ⟨hv, hv2, HLN.out.symm, by have := HLN.out; simp only; omega⟩
            · have S16 : Sep w0 _ (cAll (qs'.map cOwn ++ [cOwn ⟨cv, sc.numV, A5, n5, c5, sc.numS.blobV 700⟩]) :: _ :: _ :: _ :: _) := Sep.packCons S15.fr4.fr3
              show Sep w0 _ (_ :: _ :: cAll ((qs' ++ [(⟨cv, sc.numV, A5, n5, c5, sc.numS.blobV 700⟩ : RQ)]).map cOwn) :: _)
              rw [List.map_append]
              exact S16.fr2.fr3
          case measure => simp [intOf]; omega
      · have HE : Hid (RdS.reqs (n - k) s' = (s', [])) := reqs_stuck hst _
        have SF := ((R.out.fr4.set 0 (.int .u64 (st : Int))).set 1 (.slice A' k c'))
        have XR : Blk _ g0 _ _ := SF.h0
        have e0 := XR.cell 0
        have e1 := XR.cell 1
        have SG := Lib.hid SF.tail.fr3.tail
        have XR : Blk wr g0 _ _ := R.out.h4
        have r0 : wr.cell? ⟨g0, 0, none⟩ = some (.int .u64 0) := XR.cell 0
        have r1 : wr.cell? ⟨g0, 1, none⟩ = some (.slice none 0 0) := XR.cell 1
        have f0 := XR.frozen 0
        have f1 := XR.frozen 1
        clear XR SF
        go_wp2_with fail
        refine (rrDead R.out hst).mono ?_
        rintro e w5 ⟨rfl, rfl⟩
        go_wp2
        refine bodyPost_ret (v := .agg #[.int .u64 (st : Int), .slice A' k c']) (by simp [results, Tryd.results145, go_sem, e0, e1]) rfl ?_
        rw [HK.out, HE.out]
        exact ⟨A', k, c', qs', rfl, by simp, HF.out, SG.out⟩
    · obtain rfl : k = n := by omega
      have HE : Hid (RdS.reqs (k - k) s' = (s', [])) := by show _ = _; rw [Nat.sub_self]; rfl
      have SF := ((R.out.fr4.set 0 (.int .u64 (st : Int))).set 1 (.slice A' k c'))
      have XR : Blk _ g0 _ _ := SF.h0
      have e0 := XR.cell 0
      have e1 := XR.cell 1
      have SG := Lib.hid SF.tail.fr3.tail
      have XR : Blk wr g0 _ _ := R.out.h4
      have r0 : wr.cell? ⟨g0, 0, none⟩ = some (.int .u64 0) := XR.cell 0
      have r1 : wr.cell? ⟨g0, 1, none⟩ = some (.slice none 0 0) := XR.cell 1
      have f0 := XR.frozen 0
      have f1 := XR.frozen 1
      clear XR SF
      go_wp2
      refine bodyPost_ret (v := .agg #[.int .u64 (st : Int), .slice A' k c']) (by simp [results, Tryd.results145, go_sem, e0, e1]) rfl ?_
      rw [HK.out, HE.out]
      exact ⟨A', k, c', qs', rfl, by simp, HF.out, SG.out⟩
end
end Go.Proofs.YtbhmnkpbaeemeaaDoor

/-! # L13 -/
set_option maxRecDepth 100000
namespace Go.Proofs.YtbhmnkpbaeemeaaDoor
open Go.RowKit


def rd0 (xs : List UInt8) : RdS := ⟨true, false, 0, 0, xs, 0⟩
def decKs (s : RdS) : List (Nat × Nat × List UInt8) := if s.btS.endC = 0 then s.btV else []
def decSt (s : RdS) : Nat := if s.btS.endC = 0 then s.upV 1099511627776 else 0

theorem endC_zero {s : RdS} (h : s.Ok) (he : s.endC = 0) : s.endA = 0 ∧ s.stuck = false := by
  unfold RdS.endC at he
  unfold RdS.endA
  cases hs : s.stuck
  · simp only [hs, Bool.false_eq_true, if_false] at he ⊢
    by_cases hl : s.off < s.buf.length
    · rw [if_pos hl] at he; exact absurd he (by decide)
    · exact ⟨by rw [if_neg hl], trivial⟩
  · exfalso
    simp only [hs, if_true] at he
    unfold RdS.errC at he
    cases hm : s.made
    · simp [hm] at he
    · simp only [hm, Bool.not_true, Bool.false_eq_true, if_false] at he
      simp only [RdS.stuck, hm, Bool.not_true, Bool.false_or] at hs
      rw [hs] at he
      have := h.code
      rw [hs] at this
      simp at this
      exact this he

section
variable {w0 w w' : World} {A : Option Addr} {c n : Nat} {l : List Ch}
def DecR (w0 : World) (s : RdS) (l : List Ch) (e : Ending) (w' : World) : Prop :=
  ∃ A' n' c' qs', e = .returned (.tuple #[.agg #[.int .u64 (decSt s : Int), .slice A' n' c'], .agg #[.int .i64 s.btS.endC, .int .i64 s.btS.endA]]) ∧ qs'.map RQ.key = decKs s ∧ (∀ q ∈ qs', q.fine) ∧
    Sep w0 w' (cOw 155 3 A' n' c' (qcells qs') :: cAll (qs'.map cOwn) :: l)
theorem RdS.Ok.btS {s : RdS} (h : s.Ok) : s.btS.Ok := by
  have H : ∀ n (s : RdS), s.Ok → (RdS.reqs n s).1.Ok := by
    intro n
    induction n with
    | zero => intro s h; exact h
    | succ n ih =>
      intro s h
      unfold RdS.reqs
      split
      · exact h
      · exact ih _ h.rqS
  exact H _ _ ((h.upS _).countS 8)
theorem rd0_ok {xs : List UInt8} (h : xs.length ≤ 1000000000) : (rd0 xs).Ok := ⟨Nat.zero_le _, rfl, (fun h => by cases h), h, fun _ => rfl⟩

set_option maxHeartbeats 400000 in
theorem rDecodeBatch (S : Sep w0 w l) {xs : List UInt8} (hx : Rd w A n c xs) (hn : n ≤ 1000000000) : Calls Tryd.prog 108 #[.slice A n c] w (DecR w0 (rd0 xs) l) := by
  have HX := Lib.hid hx
  have hxl := hx.len
  have ok := (rd0_ok (xs := xs) (by omega)).btS
  have S0 := Lib.hid ((S.box #[.int .u64 0, .slice none 0 0] 83).box #[.int .i64 0, .int .i64 0] 29)
  have S0 : Hid (Sep w0 ((w.alloc (.cells #[.int .u64 0, .slice none 0 0] 83)).alloc (.cells #[.int .i64 0, .int .i64 0] 29)) (cBlk (w.heap.size + 1) #[.int .i64 0, .int .i64 0] 29 :: cBlk w.heap.size #[.int .u64 0, .slice none 0 0] 83 :: l)) := by
    have e1 : ∀ (u : World) o, (u.alloc o).heap.size = u.heap.size + 1 := fun u o => by simp
    have := S0.out
    rw [e1] at this
    exact this
  have HX1 : Hid (Rd ((w.alloc (.cells #[.int .u64 0, .slice none 0 0] 83)).alloc (.cells #[.int .i64 0, .int .i64 0] 29)) A n c xs) := hx.below (((Sep.start w).box #[.int .u64 0, .slice none 0 0] 83).box #[.int .i64 0, .int .i64 0] 29).bel
  have HB := fun (W : World) (q : Nat) (A : Option Addr) (c : Nat) (L : List Ch) (S : Sep w0 W (cRr q A c (rd0 xs) :: L)) => Lib.hid (rrBatch S)
  have HE := fun (W : World) (q : Nat) (A : Option Addr) (c : Nat) (L : List Ch) (S : Sep w0 W (cRr q A c (rd0 xs).btS :: L)) => Lib.hid (rrEnd S)
  have HZ := Lib.hid (endC_zero ok)
  unfold DecR decSt decKs
  clear S hx HX hxl ok
  generalize (rd0 xs).btS.endC = ec at *
  generalize (rd0 xs).btS.endA = ea at *
  generalize (rd0 xs).btV = ks at *
  generalize (rd0 xs).upV 1099511627776 = st at *
  generalize (rd0 xs).btS = s1 at *
  obtain ⟨g, hg⟩ : ∃ g, g = w.heap.size := ⟨_, rfl⟩
  rw [← hg] at S0
  go_enter Tryd.func108, Tryd.ntmps108
  go_wp2_with fail
  rw [← hg]
  clear hg
  generalize ((w.alloc (.cells #[.int .u64 0, .slice none 0 0] 83)).alloc (.cells #[.int .i64 0, .int .i64 0] 29)) = w1 at *
  refine (rrNew S0.out HX1.out hn).mono ?_
  rintro e w2 ⟨q, Aq, cq, rfl, hS⟩
  have S2 := Lib.hid hS
  clear hS S0 HX1
  go_wp2_with fail
  refine (HB _ _ _ _ _ S2.out).out.mono ?_
  rintro e w3 ⟨A3, n3, c3, qs3, rfl, hk, hf, hS⟩
  have HK := Lib.hid hk
  have HF := Lib.hid hf
  have S3 := Lib.hid (hS.box #[.int .u64 (st : Int), .slice A3 n3 c3] 83).fr1
  clear hS hk hf S2 HB
  obtain ⟨h, hg⟩ : ∃ g, g = w3.heap.size := ⟨_, rfl⟩
  rw [← hg] at S3
  go_wp2_with fail
  rw [← hg]
  clear hg
  generalize (w3.alloc (.cells #[.int .u64 (st : Int), .slice A3 n3 c3] 83)) = w4 at *
  refine (HE _ _ _ _ _ S3.out).out.mono ?_
  rintro e w5 ⟨rfl, hb⟩
  have K5 := S3.out.kept hb
  have XH : Blk w5 h _ _ := K5.h1
  have XN : Blk w5 (g + 1) _ _ := K5.h4
  have XG : Blk w5 g _ _ := K5.h5
  have h0 : w5.cell? ⟨h, 0, none⟩ = some (.int .u64 (st : Int)) := XH.cell 0
  have h1 : w5.cell? ⟨h, 1, none⟩ = some (.slice A3 n3 c3) := XH.cell 1
  have g0 : w5.cell? ⟨g, 0, none⟩ = some (.int .u64 0) := XG.cell 0
  have g1 : w5.cell? ⟨g, 1, none⟩ = some (.slice none 0 0) := XG.cell 1
  have n0 : w5.cell? ⟨g + 1, 0, none⟩ = some (.int .i64 0) := XN.cell 0
  have n1 : w5.cell? ⟨g + 1, 1, none⟩ = some (.int .i64 0) := XN.cell 1
  have fg0 := XG.frozen 0
  have fg1 := XG.frozen 1
  have fn0 := XN.frozen 0
  have fn1 := XN.frozen 1
  have hh : ¬ h = w5.heap.size := by have := XH.lt; omega
  have hgs : ¬ g = w5.heap.size := by have := XG.lt; omega
  have hns : ¬ g + 1 = w5.heap.size := by have := XN.lt; omega
  have hhl : h < w5.heap.size := XH.lt
  have hgl : g < w5.heap.size := XG.lt
  have hnl : g + 1 < w5.heap.size := XN.lt
  have K6 := Lib.hid (K5.perm (l' := cBlk g #[.int .u64 0, .slice none 0 0] 83 :: cBlk (g + 1) #[.int .i64 0, .int .i64 0] 29 :: cBlk h #[.int .u64 (st : Int), .slice A3 n3 c3] 83 :: cOw 155 3 A3 n3 c3 (qcells qs3) :: cAll (qs3.map cOwn) :: cRr q Aq cq s1 :: l) (by haveI : DecidableEq Ch := Classical.typeDecidableEq Ch; refine List.perm_iff_count.2 fun _ => ?_; simp only [List.count_cons]; ac_rfl))
  clear K5 XH XN XG hb S3 HE
  by_cases hec : ec = 0
  · obtain ⟨he0, hst⟩ := HZ.out hec
    subst hec he0
    clear HZ
    go_wp2
    have SF := ((((K6.out.set 0 (.int .u64 (st : Int))).set 1 (.slice A3 n3 c3)).fr1.set 0 (.int .i64 0)).set 1 (.int .i64 0)).box #[.int .i64 0, .int .i64 0] 29
    have XG : Blk _ g _ _ := SF.h2
    have XN : Blk _ (g + 1) _ _ := SF.h1
    have e0 := XG.cell 0
    have e1 := XG.cell 1
    have e2 := XN.cell 0
    have e3 := XN.cell 1
    have SG := Lib.hid SF.tail.tail.tail.tail.fr2.tail
    clear XG XN SF
    refine bodyPost_ret (v := .tuple #[.agg #[.int .u64 (st : Int), .slice A3 n3 c3], .agg #[.int .i64 0, .int .i64 0]]) (by simp [results, Tryd.results108, go_sem, e0, e1, e2, e3]) rfl ?_
    exact ⟨A3, n3, c3, rfl, qs3, HK.out, HF.out, SG.out⟩
  · clear HZ
    have hbb : (ec != 0) = true := by simpa using hec
    have HEC := Lib.hid hec
    clear hec
    go_wp2
    go_region
    all_goals
      go_wp2
      have SF := ((((K6.out.set 0 (.int .u64 0)).set 1 (.slice none 0 0)).fr1.set 0 (.int .i64 ec)).set 1 (.int .i64 ea)).box #[.int .i64 ec, .int .i64 ea] 29
      have XG : Blk _ g _ _ := SF.h2
      have XN : Blk _ (g + 1) _ _ := SF.h1
      have e0 := XG.cell 0
      have e1 := XG.cell 1
      have e2 := XN.cell 0
      have e3 := XN.cell 1
      have SG := Lib.hid SF.tail.tail.tail.tail.tail.tail.tail
      clear XG XN SF
      refine bodyPost_ret (v := .tuple #[.agg #[.int .u64 0, .slice none 0 0], .agg #[.int .i64 ec, .int .i64 ea]]) (by simp [results, Tryd.results108, go_sem, e0, e1, e2, e3]) rfl ?_
      exact ⟨none, 0, 0, rfl, ((SG.out.packNil).push (Below.refl _ _) (cOw 155 3 none 0 0 []) (Ow.nil _ _ _) fun k hk => by obtain ⟨a, e, _⟩ := hk; cases e).drew⟩
end
end Go.Proofs.YtbhmnkpbaeemeaaDoor

/-! # L14 -/
set_option maxRecDepth 100000
namespace Go.Proofs.YtbhmnkpbaeemeaaDoor
open Go.RowKit

/-! ## the program's intake -/
structure In where
  bad : Bool
  code : Int
  at_ : Int
def inC (p : Nat) (x : In) (m : List Value) : Array Value := (.pointer (some ⟨p, 0, none⟩) :: .bool x.bad :: .int .i64 x.code :: .int .i64 x.at_ :: m).toArray
theorem inC_set {p : Nat} {x : In} {m : List Value} (b : Bool) (c a : Int) : (((inC p x m).setIfInBounds 1 (.bool b)).setIfInBounds 2 (.int .i64 c)).setIfInBounds 3 (.int .i64 a) = inC p ⟨b, c, a⟩ m := by
  unfold inC
  simp

/-- The intake stands as the reference's reader does: the reader's own state, or the first fault. -/
def Like (x : In) (r s : RdS) : Prop :=
  (x.bad = false ∧ r = s) ∨ (x.bad = true ∧ s.made = true ∧ s.bad = true ∧ s.code = x.code ∧ s.at_ = x.at_)
theorem Like.over {x : In} {r s : RdS} (h : Like x r s) : (x.bad || r.stuck) = s.stuck := by
  rcases h with ⟨h, rfl⟩ | ⟨h, h1, h2, _⟩
  · rw [h]; rfl
  · rw [h]; simp [RdS.stuck, h2]

section
variable {w0 w w' : World} {p X c : Nat} {A : Option Addr} {x : In} {r s : RdS} {m : List Value} {l : List Ch}
theorem inOver (S : Sep w0 w (cRN (some ⟨p, 0, none⟩) A c r :: cBlk X (inC p x m) 181 :: l)) (L : Like x r s) :
    Calls Tryd.prog 123 #[.pointer (some ⟨X, 0, none⟩)] w fun e w' => e = .returned (.bool s.stuck) ∧ w = w' := by
  rw [← L.over]
  have XB : Blk w X _ _ := S.h1
  have b0 : w.cell? ⟨X, 0, none⟩ = some (.pointer (some ⟨p, 0, none⟩)) := XB.cell 0
  have b1 : w.cell? ⟨X, 1, none⟩ = some (.bool x.bad) := XB.cell 1
  obtain ⟨ok, ⟨h1, _⟩ | ⟨q, h1, h⟩⟩ := S.rnCases
  · cases h1
  · obtain rfl : p = q := by simpa using h1
    have HS := Lib.hid (h.stuckC rfl)
    clear h ok h1 XB S L
    generalize r.stuck = rs at *
    generalize x.bad = xb at *
    cases xb
    · go_enter Tryd.func123, Tryd.ntmps123
      go_wp2_with (go_at_call 132; refine HS.out.mono ?_; rintro e w2 ⟨rfl, rfl⟩)
      go_ret
      exact ⟨rfl, rfl⟩
    · go_enter Tryd.func123, Tryd.ntmps123
      go_wp2
      go_ret
      exact ⟨rfl, rfl⟩

theorem inWant (S : Sep w0 w (cRN (some ⟨p, 0, none⟩) A c r :: cBlk X (inC p x m) 181 :: l)) (L : Like x r s) (ok : Bool) (a : Nat) (code : Nat) (y z : Int) (hy : y = a) (hz : z = code) :
    Calls Tryd.prog 168 #[.pointer (some ⟨X, 0, none⟩), .bool ok, .int .i64 y, .int .i64 z] w fun e w' => e = .returned (.tuple #[]) ∧ ∃ x', Like x' r (if ok || s.stuck then s else s.no code a) ∧
      Sep w0 w' (cRN (some ⟨p, 0, none⟩) A c r :: cBlk X (inC p x' m) 181 :: l) := by
  subst hy hz
  have HO := Lib.hid (inOver S L)
  have HS := Lib.hid S
  have HL := Lib.hid L
  have XB : Blk w X _ _ := S.h1
  have b1 : w.cell? ⟨X, 1, none⟩ = some (.bool x.bad) := XB.cell 1
  have b2 : w.cell? ⟨X, 2, none⟩ = some (.int .i64 x.code) := XB.cell 2
  have b3 : w.cell? ⟨X, 3, none⟩ = some (.int .i64 x.at_) := XB.cell 3
  have f1 := XB.frozen 1
  have f2 := XB.frozen 2
  have f3 := XB.frozen 3
  clear XB S L
  cases ok
  · cases hs : s.stuck
    · have HZ : Hid (s.made = true ∧ s.bad = false) := by
        simp only [RdS.stuck, Bool.or_eq_false_iff, Bool.not_eq_false'] at hs
        exact hs
      rw [hs] at HO
      clear hs
      go_enter Tryd.func168, Tryd.ntmps168
      go_wp2_with (go_at_call 123; refine HO.out.mono ?_; rintro e w2 ⟨rfl, rfl⟩)
      go_end0
      have SF := ((HS.out.fr1.set 1 (.bool true)).set 2 (.int .i64 (code : Int))).set 3 (.int .i64 (a : Int))
      rw [inC_set] at SF
      exact ⟨rfl, ⟨true, code, a⟩, .inr ⟨rfl, HZ.out.1, rfl, rfl, rfl⟩, SF.fr1⟩
    · rw [hs] at HO
      clear hs
      go_enter Tryd.func168, Tryd.ntmps168
      go_wp2_with (go_at_call 123; refine HO.out.mono ?_; rintro e w2 ⟨rfl, rfl⟩)
      go_end0
      exact ⟨rfl, x, HL.out, HS.out⟩
  · clear HO
    go_enter Tryd.func168, Tryd.ntmps168
    go_wp2
    go_end0
    exact ⟨rfl, x, HL.out, HS.out⟩
end
end Go.Proofs.YtbhmnkpbaeemeaaDoor

/-! # L15 -/
set_option maxRecDepth 100000
namespace Go.Proofs.YtbhmnkpbaeemeaaDoor
open Go.RowKit

section
variable {w0 w w' : World} {p X c : Nat} {A : Option Addr} {x : In} {r s : RdS} {mm : List Value} {l : List Ch}
theorem Like.live (h : Like x r s) (hs : s.stuck = false) : r = s := by
  rcases h with ⟨_, h⟩ | ⟨_, h1, h2, _⟩
  · exact h
  · simp [RdS.stuck, h1, h2] at hs
/-- A step of both readers keeps them alike. -/
theorem Like.by (h : Like x r s) (f : RdS → RdS) (hf : ∀ t : RdS, t.stuck = true → f t = t) : Like x (f r) (f s) := by
  rcases h with ⟨h1, rfl⟩ | ⟨h1, h2, h3, h4⟩
  · exact .inl ⟨h1, rfl⟩
  · rw [hf s (by simp [RdS.stuck, h3])]
    exact .inr ⟨h1, h2, h3, h4⟩
theorem numS_live {s : RdS} (h : s.numS.stuck = false) : s.stuck = false := by
  cases hs : s.stuck
  · rfl
  · rw [(numS_dead hs).1, hs] at h; cases h
theorem no_stuck' (s : RdS) (hs : s.stuck = false) (code a : Nat) : (s.no code a).stuck = true := by simp [RdS.no, RdS.stuck]

set_option maxHeartbeats 1000000 in
theorem inMost (S : Sep w0 w (cRN (some ⟨p, 0, none⟩) A c r :: cBlk X (inC p x mm) 181 :: l)) (L : Like x r s) (m : Nat) (hm : m < 18446744073709551616) :
    Calls Tryd.prog 165 #[.pointer (some ⟨X, 0, none⟩), .int .u64 (m : Int)] w fun e w' => ∃ v x' r', e = .returned (.int .u64 ((v : Nat) : Int)) ∧ v < 18446744073709551616 ∧ Like x' r' (s.upS m) ∧ ((s.upS m).stuck = false → v = s.upV m) ∧
      Sep w0 w' (cRN (some ⟨p, 0, none⟩) A c r' :: cBlk X (inC p x' mm) 181 :: l) := by
  have ok : r.Ok := S.rnCases.1
  have hv := numV_lt ok
  have L1 := Lib.hid (L.by RdS.numS fun t ht => (numS_dead ht).1)
  have HR : Hid ((if decide (r.numV ≤ m) || s.numS.stuck then s.numS else s.numS.no 29 r.off) = s.upS m ∧ ((s.upS m).stuck = false → r.numV = s.upV m)) := by
    show _ ∧ _
    unfold RdS.upS RdS.upV
    cases hs : s.numS.stuck
    · obtain rfl := L.live (numS_live hs)
      by_cases hg : r.numV ≤ m
      · have h2 : ¬ m < r.numV := by omega
        simp [hg, h2]
      · have h2 : m < r.numV := by omega
        simp [hg, h2, no_stuck' _ hs]
    · simp [hs]
  have HA := Lib.hid (rnAt S)
  have HN := Lib.hid (rnNum S)
  have XB : Blk w X _ _ := S.h1
  have b0 : w.cell? ⟨X, 0, none⟩ = some (.pointer (some ⟨p, 0, none⟩)) := XB.cell 0
  clear XB S L
  generalize r.numS = r1 at *
  generalize s.upS m = s2 at *
  generalize s.upV m = v2 at *
  generalize s.numS = s1 at *
  generalize r.numV = v at *
  have HD : decide ((v : Int) ≤ (m : Int)) = decide (v ≤ m) := by simp
  go_enter Tryd.func165, Tryd.ntmps165
  go_wp2_with fail
  refine HA.out.mono ?_
  rintro e w1 ⟨rfl, rfl⟩
  go_wp2_with fail
  refine HN.out.mono ?_
  rintro e w2 ⟨rfl, hS⟩
  have S2 := Lib.hid hS
  have XB : Blk w2 X _ _ := hS.h1
  clear XB hS HA HN b0
  go_wp2_with fail
  refine (inWant S2.out L1.out _ r.off 29 _ _ rfl rfl).mono ?_
  rintro e w3 ⟨rfl, x', hl, hS⟩
  have S3 := Lib.hid hS
  have HL := Lib.hid hl
  clear hS hl
  go_wp2
  go_ret
  refine ⟨v, x', r1, rfl, hv, ?_, HR.out.2, S3.out⟩
  rw [← HR.out.1]
  exact HL.out
end
end Go.Proofs.YtbhmnkpbaeemeaaDoor

/-! # L16 -/
set_option maxRecDepth 100000
namespace Go.Proofs.YtbhmnkpbaeemeaaDoor
open Go.RowKit

/-- Fine, and with no room behind its end. -/
def RQ.finer (q : RQ) : Prop := q.fine ∧ q.c = q.n

theorem blobS_live' {s : RdS} {m : Int} (h : (s.blobS m).stuck = false) : s.stuck = false := by
  cases hs : s.stuck
  · rfl
  · rw [(blobS_dead hs m).1, hs] at h; cases h
theorem clS_live {s : RdS} (h : s.clS.stuck = false) : s.stuck = false := by
  apply numS_live
  cases hs : s.numS.stuck
  · rfl
  · simp [RdS.clS, hs] at h
theorem rqS_live {s : RdS} (h : s.rqS.stuck = false) : s.clS.stuck = false := numS_live (blobS_live' h)
theorem reqs_live : ∀ (n : Nat) {s : RdS}, (RdS.reqs n s).1.stuck = false → s.stuck = false := by
  intro n
  induction n with
  | zero => intro s h; exact h
  | succ n ih =>
    intro s h
    cases hs : s.stuck
    · rfl
    · rw [reqs_stuck hs] at h; rw [hs] at h; cases h

section
variable {w0 w w' : World} {p X c : Nat} {A : Option Addr} {x : In} {r s : RdS} {mm : List Value} {l : List Ch}
set_option maxHeartbeats 4000000 in
theorem inList (S : Sep w0 w (cRN (some ⟨p, 0, none⟩) A c r :: cBlk X (inC p x mm) 181 :: l)) (L : Like x r s) :
    Calls Tryd.prog 163 #[.pointer (some ⟨X, 0, none⟩)] w fun e w' => ∃ v x' r' A' n' c' qs', e = .returned (.agg #[.int .u64 ((v : Nat) : Int), .slice A' n' c']) ∧ v < 18446744073709551616 ∧ Like x' r' s.btS ∧ (s.btS.stuck = false → v = s.upV 1099511627776 ∧ qs'.map RQ.key = s.btV) ∧ (∀ q ∈ qs', q.finer) ∧
      Sep w0 w' (cRN (some ⟨p, 0, none⟩) A c r' :: cBlk X (inC p x' mm) 181 :: cOw 155 3 A' n' c' (qcells qs') :: cAll (qs'.map cOwn) :: l) := by
  have S0 := Lib.hid ((S.box #[.int .u64 0, .slice none 0 0] 83).fr2.fr2)
  have HM := fun (W : World) (L' : List Ch) (S : Sep w0 W (cRN (some ⟨p, 0, none⟩) A c r :: cBlk X (inC p x mm) 181 :: L')) => Lib.hid (inMost S L 1099511627776 (by decide))
  have hlive : s.btS.stuck = false → (s.upS 1099511627776).stuck = false := fun h => (countS_live (reqs_live _ h)).1
  unfold RdS.btS RdS.btV at *
  clear S L
  generalize s.upV 1099511627776 = st at *
  generalize s.upS 1099511627776 = s1 at *
  have HLV := Lib.hid hlive
  clear hlive
  obtain ⟨g0, hg⟩ : ∃ g, g = w.heap.size := ⟨_, rfl⟩
  rw [← hg] at S0
  go_enter Tryd.func163, Tryd.ntmps163
  go_wp2_with fail
  rw [← hg]
  clear hg
  generalize (w.alloc (.cells #[.int .u64 0, .slice none 0 0] 83)) = w1 at *
  refine (HM _ _ S0.out).out.mono ?_
  rintro e w2 ⟨v, x2, r2, rfl, hv, hl2, hv2, hS⟩
  have S2 := Lib.hid ((hS.box #[.int .u64 (v : Int), .slice none 0 0] 83).fr2.fr2)
  have HL2 := Lib.hid hl2
  have HV := Lib.hid hv2
  have XB0 : Blk w2 X _ _ := hS.h1
  have b0' : w2.cell? ⟨X, 0, none⟩ = some (.pointer (some ⟨p, 0, none⟩)) := XB0.cell 0
  have hXl : X < w2.heap.size := XB0.lt
  clear XB0 hS S0 HM hl2 hv2
  obtain ⟨g1, hg⟩ : ∃ g, g = w2.heap.size := ⟨_, rfl⟩
  rw [← hg] at S2
  go_wp2_with fail
  rw [← hg]
  clear hg b0' hXl
  generalize (w2.alloc (.cells #[.int .u64 (v : Int), .slice none 0 0] 83)) = w3 at *
  have HC := Lib.hid (rnCount S2.out 8 (by decide))
  have L4 := Lib.hid (HL2.out.by (fun t => t.countS 8) fun t ht => (countS_dead ht 8).1)
  have hn8 : r2.countV 8 ≤ 8 := by
    unfold RdS.countV RdS.much
    split
    · omega
    · split
      · omega
      · split
        · omega
        · rename_i h
          simp at h
          omega
  have HN : Hid (RdS.reqs (r2.countV 8) (s1.countS 8) = RdS.reqs (s1.countV 8) (s1.countS 8)) := by
    show _ = _
    cases ht : (s1.countS 8).stuck
    · rw [HL2.out.live (countS_live ht).1]
    · rw [reqs_stuck ht, reqs_stuck ht]
  generalize r2.countV 8 = n at *
  refine HC.out.mono ?_
  rintro e w4 ⟨rfl, hS⟩
  have S4 := Lib.hid hS
  clear hS S2 HC HL2
  go_wp2
  go_loopw [16] (fun i wr => ∃ (k : Nat) (x' : In) (r' s' : RdS) (A' : Option Addr) (c' : Nat) (qs' : List RQ), k ≤ n ∧ i = .int .i64 (k : Int) ∧ Hid (Like x' r' s') ∧ Hid (∃ ks', RdS.reqs n (s1.countS 8) = ((RdS.reqs (n - k) s').1, ks' ++ (RdS.reqs (n - k) s').2) ∧ (s'.stuck = false → qs'.map RQ.key = ks')) ∧ Hid (∀ q ∈ qs', q.finer) ∧
    Hid (Sep w0 wr (cRN (some ⟨p, 0, none⟩) A c r' :: cBlk X (inC p x' mm) 181 :: cOw 155 3 A' k c' (qcells qs') :: cAll (qs'.map cOwn) :: cBlk g1 #[.int .u64 (v : Int), .slice A' k c'] 83 :: cBlk g0 #[.int .u64 0, .slice none 0 0] 83 :: l))) (fun i _ => n - (intOf i).toNat)
  case atStart => exact ⟨0, x2, _, _, none, 0, [], Nat.zero_le _, rfl, L4.out, ⟨[], by simp, fun _ => rfl⟩, (show ∀ q ∈ [], _ by simp), ((S4.out.packNil).push (Below.refl _ _) (cOw 155 3 none 0 0 []) (Ow.nil _ _ _) fun k hk => by obtain ⟨a, e, _⟩ := hk; cases e).fr3.fr3⟩
  case round =>
    obtain ⟨k, x', r', s', A', c', qs', hk, rfl, HL, HK, HF, R⟩ := hrel
    have XB : Blk wr g1 _ _ := R.out.h4
    have b0 : wr.cell? ⟨g1, 0, none⟩ = some (.int .u64 (v : Int)) := XB.cell 0
    have b1 : wr.cell? ⟨g1, 1, none⟩ = some (.slice A' k c') := XB.cell 1
    clear XB
    by_cases hlt : k < n
    · cases hst : s'.stuck
      · obtain rfl := HL.out.live hst
        have ok' : r'.Ok := R.out.rnCases.1
        have HU : Hid (∃ ks', RdS.reqs n (s1.countS 8) = ((RdS.reqs (n - (k + 1)) r'.rqS).1, (ks' ++ [r'.rqV]) ++ (RdS.reqs (n - (k + 1)) r'.rqS).2) ∧ qs'.map RQ.key = ks') := by
          obtain ⟨ks', h1, h2⟩ := HK.out
          refine ⟨ks', ?_, h2 hst⟩
          rw [h1, show n - k = (n - (k + 1)) + 1 by omega]
          simp [RdS.reqs, hst]
        have HO := Lib.hid (inOver R.out HL.out)
        rw [hst] at HO
        have hv1 := numV_lt ok'
        have hv2 := numV_lt ok'.numS
        have hb1 : (r'.numS.numS.blobV 700).length ≤ 700 := blobV_max _ 700
        have LN := Lib.hid (HL.out.by RdS.numS fun t ht => (numS_dead ht).1)
        have HCL : Hid ((if decide (256 ≤ r'.numV) || r'.numS.stuck then r'.numS else r'.numS.no 29 r'.off) = r'.clS) := by
          show _ = _
          unfold RdS.clS
          cases hs : r'.numS.stuck
          · by_cases hg : 256 ≤ r'.numV
            · have h2 : ¬ r'.numV < 256 := by omega
              simp [hg, h2]
            · have h2 : r'.numV < 256 := by omega
              simp [hg, h2]
          · simp
        have HRV : ∀ y, Like y r'.numS r'.clS → Hid (Like y (r'.numS.numS.blobS 700) r'.rqS ∧ (r'.rqS.stuck = false → (r'.numV, r'.numS.numV, r'.numS.numS.blobV 700) = r'.rqV)) := fun y hy => by
          refine ⟨(hy.by RdS.numS fun t ht => (numS_dead ht).1).by (fun t => t.blobS 700) fun t ht => (blobS_dead ht 700).1, fun h => ?_⟩
          have := hy.live (rqS_live h)
          unfold RdS.rqV
          rw [this]
        clear HK hst ok'
        go_wp2_with fail
        refine HO.out.mono ?_
        rintro e w5 ⟨rfl, rfl⟩
        have XB : Blk wr X _ _ := R.out.h1
        have b2 : wr.cell? ⟨X, 0, none⟩ = some (.pointer (some ⟨p, 0, none⟩)) := XB.cell 0
        clear XB HO
        go_wp2_with fail
        refine (rnAt R.out).mono ?_
        rintro e w5 ⟨rfl, rfl⟩
        go_wp2_with fail
        refine (rnNum R.out).mono ?_
        rintro e w6 ⟨rfl, hS⟩
        have S7 := Lib.hid (hS.box #[.int .u64 (r'.numV : Int), .int .u64 0, .slice none 0 0] 155).fr2.fr2
        clear hS b0 b1 b2
        obtain ⟨h, hg⟩ : ∃ h, h = w6.heap.size := ⟨_, rfl⟩
        rw [← hg] at S7
        go_wp2_with fail
        rw [← hg]
        clear hg
        generalize (w6.alloc (.cells #[.int .u64 (r'.numV : Int), .int .u64 0, .slice none 0 0] 155)) = w7 at *
        have hdec : decide ((256 : Int) ≤ (r'.numV : Int)) = decide (256 ≤ r'.numV) := decide_eq_decide.2 (by omega)
        rw [hdec]
        clear hdec
        refine (inWant S7.out LN.out _ r'.off 29 _ _ rfl rfl).mono ?_
        rintro e w8 ⟨rfl, x8, hl, hS⟩
        rw [HCL.out] at hl
        have H8 := HRV _ hl
        have S8 := Lib.hid hS
        have XB : Blk w8 X _ _ := hS.h1
        have b2 : w8.cell? ⟨X, 0, none⟩ = some (.pointer (some ⟨p, 0, none⟩)) := XB.cell 0
        clear XB hS hl S7 LN HCL HRV
        go_wp2_with fail
        refine (rnNum S8.out).mono ?_
        rintro e w9 ⟨rfl, hS⟩
        have S9 := Lib.hid (hS.fr2.set 1 (.int .u64 (r'.numS.numV : Int))).fr1
        have XH : Blk w9 h _ _ := hS.h2
        have XB : Blk w9 X _ _ := hS.h1
        have h1 : w9.cell? ⟨h, 1, none⟩ = some (.int .u64 0) := XH.cell 1
        have f1 := XH.frozen 1
        have b3 : w9.cell? ⟨X, 0, none⟩ = some (.pointer (some ⟨p, 0, none⟩)) := XB.cell 0
        have hne : ¬ X = h := fun e => (List.pairwise_cons.1 hS.tail.sep).1 _ (.head _) X rfl e
        clear XH XB hS S8 b2
        go_wp2_with fail
        generalize (w9.setCell ⟨h, 1, none⟩ (.int .u64 (r'.numS.numV : Int))) = w10 at *
        clear hne
        refine (rnBlob S9.out 700 (by decide)).mono ?_
        rintro e w11 ⟨A5, n5, rfl, hS⟩
        have S12 := Lib.hid (hS.fr2.set 2 (.slice A5 n5 n5)).tail.fr3
        have XH : Blk w11 h _ _ := hS.h2
        have XB : Blk w11 g1 _ _ := hS.h6
        have h0 : w11.cell? ⟨h, 0, none⟩ = some (.int .u64 (r'.numV : Int)) := XH.cell 0
        have h1 : w11.cell? ⟨h, 1, none⟩ = some (.int .u64 (r'.numS.numV : Int)) := XH.cell 1
        have h2 : w11.cell? ⟨h, 2, none⟩ = some (.slice none 0 0) := XH.cell 2
        have f2 := XH.frozen 2
        have b1 : w11.cell? ⟨g1, 1, none⟩ = some (.slice A' k c') := XB.cell 1
        have fb1 := XB.frozen 1
        have hln : n5 = (r'.numS.numS.blobV 700).length := (Ob.rd hS.h0).len.symm
        have hne : ¬ g1 = h := fun e => (List.pairwise_cons.1 hS.tail.tail.sep).1 _ (.tail _ (.tail _ (.tail _ (.head _)))) h rfl e.symm
        have HLN := Lib.hid hln
        clear XH XB hS S9 hln
        go_wp2_with (at_builtin; refine sep_app1 elQ rfl (.tmp 50) (.tmp 52) rfl rfl S12.out #[.int .u64 (r'.numV : Int), .int .u64 (r'.numS.numV : Int), .slice A5 n5 n5] (congrArg (fun z => Value.slice (some ⟨z, 0, none⟩) 1 1) (show w11.heap.size = (w11.setCell ⟨h, 2, none⟩ (.slice A5 n5 n5)).heap.size by simp)) rfl (by simp [Value.oneCell']) (by omega) (by omega) ?_; intro A6 c6 w13 S13; have S14 := Lib.hid S13; have XC : Blk w13 g1 _ _ := S13.h5; have i6 : w13.cell? ⟨g1, 1, none⟩ = some (.slice A' k c') := XC.cell 1; have f6 := XC.frozen 1; clear XC S13)
        go_roundw
        case rel =>
          have S15 : Sep w0 (w13.setCell ⟨g1, 1, none⟩ (.slice A6 (k + 1) c6)) (cBlk g1 #[.int .u64 (v : Int), .slice A6 (k + 1) c6] 83 :: cOw 155 3 A6 (k + 1) c6 (qcells (qs' ++ [⟨r'.numV, r'.numS.numV, A5, n5, n5, r'.numS.numS.blobV 700⟩])) :: cOwn ⟨r'.numV, r'.numS.numV, A5, n5, n5, r'.numS.numS.blobV 700⟩ :: cRN (some ⟨p, 0, none⟩) A c (r'.numS.numS.blobS 700) :: cBlk X (inC p x8 mm) 181 :: cAll (qs'.map cOwn) :: cBlk g0 #[.int .u64 0, .slice none 0 0] 83 :: l) := by
            rw [qcells_snoc]
            exact S14.out.fr5.set 1 _
          refine ⟨k + 1, x8, r'.numS.numS.blobS 700, r'.rqS, A6, c6, qs' ++ [⟨r'.numV, r'.numS.numV, A5, n5, n5, r'.numS.numS.blobV 700⟩], by omega, by go_num, H8.out.1, ?_, ?_, ?_⟩
          · obtain ⟨ks', hk1, hk2⟩ := HU.out
            refine ⟨ks' ++ [r'.rqV], hk1, fun h => ?_⟩
            rw [List.map_append, hk2, ← H8.out.2 h]
            rfl
          · intro q hq
            rcases List.mem_append.1 hq with hq | hq
            · exact HF.out q hq
            · rw [List.mem_singleton.1 hq]
              exact ⟨⟨hv1, hv2, HLN.out.symm, by have := HLN.out; simp only; omega⟩, rfl⟩
          · have S16 : Sep w0 _ (cAll (qs'.map cOwn ++ [cOwn ⟨r'.numV, r'.numS.numV, A5, n5, n5, r'.numS.numS.blobV 700⟩]) :: _ :: _ :: _ :: _ :: _) := Sep.packCons S15.fr5.fr3
            show Sep w0 _ (_ :: _ :: _ :: cAll ((qs' ++ [(⟨r'.numV, r'.numS.numV, A5, n5, n5, r'.numS.numS.blobV 700⟩ : RQ)]).map cOwn) :: _)
            rw [List.map_append]
            exact S16.perm (by haveI : DecidableEq Ch := Classical.typeDecidableEq Ch; refine List.perm_iff_count.2 fun _ => ?_; simp only [List.count_cons]; ac_rfl)
        case measure => simp [intOf]; omega
      · have HE : Hid (RdS.reqs (n - k) s' = (s', [])) := reqs_stuck hst _
        have HO := Lib.hid (inOver R.out HL.out)
        rw [hst] at HO
        have SF := ((R.out.fr5.set 0 (.int .u64 (v : Int))).set 1 (.slice A' k c'))
        have XR : Blk _ g0 _ _ := SF.h0
        have e0 := XR.cell 0
        have e1 := XR.cell 1
        have SG := Lib.hid SF.tail.fr4.tail
        have XR : Blk wr g0 _ _ := R.out.h5
        have r0 : wr.cell? ⟨g0, 0, none⟩ = some (.int .u64 0) := XR.cell 0
        have r1 : wr.cell? ⟨g0, 1, none⟩ = some (.slice none 0 0) := XR.cell 1
        have f0 := XR.frozen 0
        have f1 := XR.frozen 1
        clear XR SF
        go_wp2_with (go_at_call 123; refine HO.out.mono ?_; rintro e w5 ⟨rfl, rfl⟩)
        refine bodyPost_ret (v := .agg #[.int .u64 (v : Int), .slice A' k c']) (by simp [results, Tryd.results163, go_sem, e0, e1]) rfl ?_
        obtain ⟨ks', hk1, hk2⟩ := HK.out
        rw [HE.out, List.append_nil] at hk1
        rw [← HN.out, hk1]
        refine ⟨v, x', r', A', k, c', qs', rfl, hv, HL.out, fun h => ⟨HV.out ?_, hk2 h⟩, HF.out, SG.out⟩
        exact HLV.out (by rw [← HN.out, hk1]; exact h)
    · obtain rfl : k = n := by omega
      have HE : Hid (RdS.reqs (k - k) s' = (s', [])) := by show _ = _; rw [Nat.sub_self]; rfl
      have SF := ((R.out.fr5.set 0 (.int .u64 (v : Int))).set 1 (.slice A' k c'))
      have XR : Blk _ g0 _ _ := SF.h0
      have e0 := XR.cell 0
      have e1 := XR.cell 1
      have SG := Lib.hid SF.tail.fr4.tail
      have XR : Blk wr g0 _ _ := R.out.h5
      have r0 : wr.cell? ⟨g0, 0, none⟩ = some (.int .u64 0) := XR.cell 0
      have r1 : wr.cell? ⟨g0, 1, none⟩ = some (.slice none 0 0) := XR.cell 1
      have f0 := XR.frozen 0
      have f1 := XR.frozen 1
      clear XR SF
      go_wp2
      refine bodyPost_ret (v := .agg #[.int .u64 (v : Int), .slice A' k c']) (by simp [results, Tryd.results163, go_sem, e0, e1]) rfl ?_
      obtain ⟨ks', hk1, hk2⟩ := HK.out
      rw [HE.out, List.append_nil] at hk1
      rw [← HN.out, hk1]
      refine ⟨v, x', r', A', k, c', qs', rfl, hv, HL.out, fun h => ⟨HV.out ?_, hk2 h⟩, HF.out, SG.out⟩
      exact HLV.out (by rw [← HN.out, hk1]; exact h)
end
end Go.Proofs.YtbhmnkpbaeemeaaDoor

/-! # L17 -/
set_option maxRecDepth 100000
namespace Go.Proofs.YtbhmnkpbaeemeaaDoor
open Go.RowKit

/-! ## where the first fault lies -/
def RdS.At (s : RdS) : Prop := s.made = true ∧ (s.bad = true → s.at_ = (s.off : Int))
theorem At.no {s : RdS} (h : s.At) (code a : Nat) : (s.no code a).At := ⟨h.1, fun _ => rfl⟩
theorem At.step {s : RdS} (h0 : s.At) (hs : s.stuck = false) (n : Nat) : (s.step n).At := ⟨h0.1, fun h => by
  simp only [RdS.step] at h
  simp [RdS.stuck, h] at hs⟩
theorem At.numS {s : RdS} (h : s.At) : s.numS.At := by
  unfold RdS.numS
  cases hs : s.stuck
  · simp only [Bool.false_eq_true, if_false]
    split
    · exact At.no h _ _
    · exact At.step h hs _
  · exact h
theorem At.countS {s : RdS} (h : s.At) (m : Int) : (s.countS m).At := by
  unfold RdS.countS
  cases hs : s.stuck
  · simp only [Bool.false_eq_true, if_false]
    split
    · exact At.no h _ _
    · split
      · exact At.no h _ _
      · exact At.step h hs _
  · exact h
theorem At.blobS {s : RdS} (h : s.At) (m : Int) : (s.blobS m).At := by
  unfold RdS.blobS
  cases hs : s.stuck
  · simp only [Bool.false_eq_true, if_false]
    split
    · exact At.no h _ _
    · split
      · exact At.no h _ _
      · split
        · exact At.no h _ _
        · exact At.step h hs _
  · exact h
theorem At.upS {s : RdS} (h : s.At) (m : Nat) : (s.upS m).At := by
  unfold RdS.upS
  split
  · exact At.numS h
  · split
    · exact At.no (At.numS h) _ _
    · exact At.numS h
theorem At.clS {s : RdS} (h : s.At) : s.clS.At := by
  unfold RdS.clS
  split
  · exact At.numS h
  · split
    · exact At.no (At.numS h) _ _
    · exact At.numS h
theorem At.rqS {s : RdS} (h : s.At) : s.rqS.At := At.blobS (At.numS (At.clS h)) 700
theorem At.btS {s : RdS} (h : s.At) : s.btS.At := by
  have H : ∀ n (s : RdS), s.At → (RdS.reqs n s).1.At := by
    intro n
    induction n with
    | zero => intro s h; exact h
    | succ n ih =>
      intro s h
      unfold RdS.reqs
      split
      · exact h
      · exact ih _ (At.rqS h)
  exact H _ _ (At.countS (At.upS h _) 8)

section
variable {w0 w w' : World} {p X c : Nat} {A : Option Addr} {x : In} {r s : RdS} {mm : List Value} {l : List Ch}
set_option maxHeartbeats 1000000 in
theorem inEnd (S : Sep w0 w (cRN (some ⟨p, 0, none⟩) A c r :: cBlk X (inC p x mm) 181 :: l)) (L : Like x r s) (ok : s.Ok) (hat : s.At) (base : Nat) (hb : base ≤ 1000) :
    Calls Tryd.prog 124 #[.pointer (some ⟨X, 0, none⟩), .int .i64 (base : Int)] w fun e w' => ∃ err, e = .returned err ∧ ErrIs w' err s.endC (if s.endC = 0 then 0 else (base : Int) + s.endA) ∧ Below w.heap.size w w' := by
  have hle := ok.le
  have hsm := ok.small
  have HS := Lib.hid S
  have XB : Blk w X _ _ := S.h1
  have b0 : w.cell? ⟨X, 0, none⟩ = some (.pointer (some ⟨p, 0, none⟩)) := XB.cell 0
  have b1 : w.cell? ⟨X, 1, none⟩ = some (.bool x.bad) := XB.cell 1
  have b2 : w.cell? ⟨X, 2, none⟩ = some (.int .i64 x.code) := XB.cell 2
  have b3 : w.cell? ⟨X, 3, none⟩ = some (.int .i64 x.at_) := XB.cell 3
  clear XB
  rcases L with ⟨hx, rfl⟩ | ⟨hx, h1, h2, h3, h4⟩
  · obtain ⟨_, ⟨h1, _⟩ | ⟨q, h1, h⟩⟩ := S.rnCases
    · cases h1
    obtain rfl : p = q := by simpa using h1
    rw [hx] at b1
    have HW : Hid (IntKind.i64.wrap ((base : Int) + (r.off : Int)) = (base : Int) + (r.off : Int)) := by show _ = _; simp [IntKind.wrap, IntKind.signed, IntKind.bits]; omega
    have HST := Lib.hid (h.stuckC rfl)
    have c2 : w.cell? ⟨p, 2, none⟩ = some (.int .i64 r.code) := h.blk.cell 2
    have c3 : w.cell? ⟨p, 3, none⟩ = some (.int .i64 r.at_) := h.blk.cell 3
    cases hs : r.stuck
    · rw [hs] at HST
      by_cases hl : r.off < r.buf.length
      · have e1 : r.endC = 28 := by simp [RdS.endC, hs, hl]
        have e2 : r.endA = (r.off : Int) := by simp [RdS.endA, hs, hl]
        rw [e1, e2, if_neg (by decide)]
        clear S ok hat h h1 hx e1 e2 hs c2 c3
        generalize hLN : r.buf.length - r.off = ln at *
        have hpos : 0 < ln := by omega
        have HLN := Lib.hid hLN
        clear hLN
        go_enter Tryd.func124, Tryd.ntmps124
        go_wp2_with fail
        refine HST.out.mono ?_
        rintro e w2 ⟨rfl, rfl⟩
        go_wp2_with fail
        refine (rnLeft HS.out).mono ?_
        rw [HLN.out]
        rintro e w2 ⟨rfl, q2, rfl⟩
        have S2 := HS.out.drewN q2
        have XB : Blk (w.drewN q2) X _ _ := S2.h1
        have b0' : (w.drewN q2).cell? ⟨X, 0, none⟩ = some (.pointer (some ⟨p, 0, none⟩)) := XB.cell 0
        clear XB
        have HS2 := Lib.hid S2
        clear S2
        go_wp2_with fail
        refine (rnAt HS2.out).mono ?_
        rintro e w3 ⟨rfl, rfl⟩
        go_wp2_with fail
        refine (fault_e _ _ _ (by decide)).mono ?_
        rintro e w4 ⟨err, rfl, he, hbw⟩
        go_wp2
        go_ret
        exact ⟨err, rfl, he, (((Sep.start w).drewN q2).kept hbw).bel⟩
      · have e1 : r.endC = 0 := by simp [RdS.endC, hs, hl]
        rw [e1, if_pos rfl]
        clear S ok hat h h1 hx e1 hs c2 c3 HW
        generalize hLN : r.buf.length - r.off = ln at *
        have hz : ln = 0 := by omega
        subst hz
        have HLN := Lib.hid hLN
        clear hLN
        go_enter Tryd.func124, Tryd.ntmps124
        go_wp2_with fail
        refine HST.out.mono ?_
        rintro e w2 ⟨rfl, rfl⟩
        go_wp2_with fail
        refine (rnLeft HS.out).mono ?_
        rw [HLN.out]
        rintro e w2 ⟨rfl, q2, rfl⟩
        go_wp2
        go_ret
        exact ⟨_, rfl, .inl ⟨rfl, rfl, rfl⟩, ((Sep.start w).drewN q2).bel⟩
    · rw [hs] at HST
      have hbad : r.bad = true := by have := hat.1; simpa [RdS.stuck, this] using hs
      have e1 : r.endC = r.code := by simp [RdS.endC, hs, RdS.errC, hat.1, hbad]
      have e2 : r.endA = (r.off : Int) := by simp [RdS.endA, hs, RdS.errA, hat.1, hbad, hat.2 hbad]
      have hne : r.code ≠ 0 := by
        have := ok.code
        rw [hbad] at this
        simpa using this.symm
      rw [hat.2 hbad] at c3
      rw [e1, e2, if_neg hne]
      have HNE := Lib.hid hne
      clear e1 e2 hne S ok hat hx h h1 hbad hs
      generalize r.code = code at *
      go_enter Tryd.func124, Tryd.ntmps124
      go_wp2_with fail
      refine HST.out.mono ?_
      rintro e w2 ⟨rfl, rfl⟩
      go_wp2
      go_region_with (go_at_call 61; refine (fault_e _ _ _ HNE.out).mono ?_; rintro e w2 ⟨err, rfl, he, hbw⟩)
      all_goals
        go_wp2
        refine bodyPost_ret (v := err) (by simp [results, Tryd.results124, go_sem, Act.put]) rfl ?_
        refine ⟨err, rfl, ?_, ((Sep.start w).drew.kept hbw).bel⟩
        rw [← HW.out]; exact he
  · have hst : s.stuck = true := by simp [RdS.stuck, h2]
    have e1 : s.endC = x.code := by simp [RdS.endC, hst, RdS.errC, h1, h2, h3]
    have e2 : s.endA = (s.off : Int) := by simp [RdS.endA, hst, RdS.errA, h1, h2, hat.2 h2]
    have hne : x.code ≠ 0 := by
      have := ok.code
      rw [h2, h3] at this
      simpa using this.symm
    rw [hat.2 h2] at h4
    rw [e1, e2, if_neg hne]
    rw [hx] at b1
    rw [← h4] at b3
    have HNE := Lib.hid hne
    clear e1 e2 hne h4 h3 h2 h1 hst S ok hat hx
    generalize x.code = code at *
    generalize s.off = off at *
    have HW : Hid (IntKind.i64.wrap ((base : Int) + (off : Int)) = (base : Int) + (off : Int)) := by show _ = _; simp [IntKind.wrap, IntKind.signed, IntKind.bits]; omega
    go_enter Tryd.func124, Tryd.ntmps124
    go_wp2
    go_region_with (go_at_call 61; refine (fault_e _ _ _ HNE.out).mono ?_; rintro e w2 ⟨err, rfl, he, hbw⟩)
    all_goals
      go_wp2
      refine bodyPost_ret (v := err) (by simp [results, Tryd.results124, go_sem, Act.put]) rfl ?_
      refine ⟨err, rfl, ?_, ((Sep.start w).drew.kept hbw).bel⟩
      rw [← HW.out]; exact he
end
end Go.Proofs.YtbhmnkpbaeemeaaDoor

/-! # L18 -/
set_option maxRecDepth 100000
namespace Go.Proofs.YtbhmnkpbaeemeaaDoor
open Go.RowKit

section
variable {w0 w w' : World} {p X c n : Nat} {A : Option Addr} {x : In} {r s : RdS} {mm : List Value} {l : List Ch}
def mZero : List Value := [.int .i64 0, .int .u64 0, .int .i64 0, .int .u64 0, .int .u64 0, .slice none 0 0, .int .u64 0, .slice none 0 0, .int .u64 0, .int .u64 0, .int .i64 0, .slice none 0 0, .slice none 0 0, .bool false, .int .u64 0, .int .u64 0] ++ List.replicate 32 (.int .u8 0) ++ [.slice none 0 0]
theorem inC_at (p : Nat) (x : In) (mm : List Value) (i : Nat) : (inC p x mm)[i + 4]? = mm[i]? := by unfold inC; simp
theorem inC_put (p : Nat) (x : In) (mm : List Value) (i : Nat) (v : Value) : (inC p x mm).setIfInBounds (i + 4) v = inC p x (mm.set i v) := by unfold inC; simp

set_option maxHeartbeats 1000000 in
theorem inBatch (S : Sep w0 w (cRN (some ⟨p, 0, none⟩) A c r :: cBlk X (inC p x mm) 181 :: l)) (L : Like x r s) {v6 v7 : Value} (h6 : mm[6]? = some v6) (h7 : mm[7]? = some v7) :
    Calls Tryd.prog 125 #[.pointer (some ⟨X, 0, none⟩)] w fun e w' => ∃ v x' r' A' n' c' qs', e = .returned (.tuple #[]) ∧ v < 18446744073709551616 ∧ Like x' r' s.btS ∧ (s.btS.stuck = false → v = s.upV 1099511627776 ∧ qs'.map RQ.key = s.btV) ∧ (∀ q ∈ qs', q.finer) ∧
      Sep w0 w' (cRN (some ⟨p, 0, none⟩) A c r' :: cBlk X (inC p x' ((mm.set 6 (.int .u64 ((v : Nat) : Int))).set 7 (.slice A' n' c'))) 181 :: cOw 155 3 A' n' c' (qcells qs') :: cAll (qs'.map cOwn) :: l) := by
  have HI := Lib.hid (inList S L)
  clear S L
  go_enter Tryd.func125, Tryd.ntmps125
  go_wp2_with fail
  refine HI.out.mono ?_
  rintro e w2 ⟨v, x', r', A', n', c', qs', rfl, hv, hl, hvv, hf, hS⟩
  have S2 := Lib.hid hS
  have HL := Lib.hid hl
  have HV := Lib.hid hvv
  have HF := Lib.hid hf
  have XB : Blk w2 X _ _ := hS.h1
  have b6 : w2.cell? ⟨X, 10, none⟩ = some v6 := (XB.cell 10).trans ((inC_at p x' mm 6).trans h6)
  have b7 : w2.cell? ⟨X, 11, none⟩ = some v7 := (XB.cell 11).trans ((inC_at p x' mm 7).trans h7)
  have f6 := XB.frozen 10
  have f7 := XB.frozen 11
  clear XB hS hl hvv hf HI
  go_wp2
  go_end0
  have SF := (S2.out.fr1.set 10 (.int .u64 (v : Int))).set 11 (.slice A' n' c')
  rw [inC_put p x' mm 6, inC_put p x' _ 7] at SF
  exact ⟨v, x', r', A', n', c', qs', rfl, hv, HL.out, HV.out, HF.out, SF.fr1⟩

/-- What DecodeBatch of the program's tells. -/
def DecW (w0 : World) (s : RdS) (l : List Ch) (e : Ending) (w' : World) : Prop :=
  ∃ A' n' c' qs' err, e = .returned (.tuple #[.agg #[.int .u64 (decSt s : Int), .slice A' n' c'], err]) ∧ ErrIs w' err s.btS.endC s.btS.endA ∧ qs'.map RQ.key = decKs s ∧ (∀ q ∈ qs', q.finer) ∧
    Sep w0 w' (cOw 155 3 A' n' c' (qcells qs') :: cAll (qs'.map cOwn) :: l)

set_option maxHeartbeats 2000000 in
theorem wDecodeBatch (S : Sep w0 w l) {xs : List UInt8} (hx : Rd w A n c xs) (hn : n ≤ 1000000000) : Calls Tryd.prog 55 #[.slice A n c] w (DecW w0 (rd0 xs) l) := by
  have HX := Lib.hid hx
  have S0 := Lib.hid (S.box #[.int .u64 0, .slice none 0 0] 83)
  have HX1 : Hid (Rd (w.alloc (.cells #[.int .u64 0, .slice none 0 0] 83)) A n c xs) := hx.below ((Sep.start w).box #[.int .u64 0, .slice none 0 0] 83).bel
  clear S hx
  obtain ⟨g, hg⟩ : ∃ g, g = w.heap.size := ⟨_, rfl⟩
  rw [← hg] at S0
  unfold DecW
  go_enter Tryd.func55, Tryd.ntmps55
  go_wp2_with fail
  rw [← hg]
  clear hg
  generalize (w.alloc (.cells #[.int .u64 0, .slice none 0 0] 83)) = w1 at *
  refine (rnNew S0.out HX1.out hn).mono ?_
  rintro e w2 ⟨p, Ap, cp, rfl, hS⟩
  have S2 := Lib.hid hS
  clear hS S0 HX1
  have S3 := Lib.hid ((S2.out.box (inC p ⟨false, 0, 0⟩ mZero) 181).fr1)
  obtain ⟨X, hX⟩ : ∃ X, X = w2.heap.size := ⟨_, rfl⟩
  rw [← hX] at S3
  go_wp2_with fail
  rw [← hX]
  clear hX
  have L0 : Like ⟨false, 0, 0⟩ (rd0 xs) (rd0 xs) := .inl ⟨rfl, rfl⟩
  refine (inBatch S3.out L0 (v6 := .int .u64 0) (v7 := .slice none 0 0) rfl rfl).mono ?_
  rintro e w3 ⟨v, x', r', A', n', c', qs', rfl, hv, hl, hvv, hf, hS⟩
  have S4 := Lib.hid hS
  have HL := Lib.hid hl
  have HV := Lib.hid hvv
  have HF := Lib.hid hf
  clear hS S3 S2 hl hvv hf L0
  have okb : (rd0 xs).btS.Ok := (rd0_ok (by rw [HX.out.len]; exact hn)).btS
  have hz := endC_zero okb
  have he : ∀ ec : Int, (rd0 xs).btS.endC = ec → (if ec = 0 then (0 : Int) else ((0 : Nat) : Int) + (rd0 xs).btS.endA) = (rd0 xs).btS.endA := fun ec h => by
    split
    · rename_i h0; rw [(hz (by rw [h, h0])).1]
    · simp
  have HE := inEnd S4.out HL.out okb (At.btS ⟨rfl, fun h => by cases h⟩) 0 (by omega)
  rw [he _ rfl] at HE
  have HE := Lib.hid HE
  clear he okb
  go_wp2_with fail
  refine HE.out.mono ?_
  rintro e w4 ⟨err, rfl, hee, hb⟩
  have K5 := S4.out.kept hb
  have XX : Blk w4 X _ _ := K5.h1
  have XG : Blk w4 g _ _ := K5.h4
  have x6 : w4.cell? ⟨X, 10, none⟩ = some (.int .u64 (v : Int)) := XX.cell 10
  have x7 : w4.cell? ⟨X, 11, none⟩ = some (.slice A' n' c') := XX.cell 11
  have g0 : w4.cell? ⟨g, 0, none⟩ = some (.int .u64 0) := XG.cell 0
  have g1 : w4.cell? ⟨g, 1, none⟩ = some (.slice none 0 0) := XG.cell 1
  have fg0 := XG.frozen 0
  have fg1 := XG.frozen 1
  have K6 := Lib.hid K5
  have HEE := Lib.hid hee
  have HZ := Lib.hid hz
  clear XX XG K5 HE hb hz
  rcases hee with ⟨rfl, h0, h1⟩ | ⟨q, rfl, h0, h1⟩
  · have hz := HZ.out h0
    have hvv := HV.out hz.2
    have e1 : decSt (rd0 xs) = v := by unfold decSt; rw [if_pos h0, hvv.1]
    have e2 : decKs (rd0 xs) = (rd0 xs).btV := by unfold decKs; rw [if_pos h0]
    have HK : Hid (qs'.map RQ.key = decKs (rd0 xs)) := by show _ = _; rw [e2]; exact hvv.2
    have HD := Lib.hid e1
    clear h0 h1 hz hvv e1 e2 HV HZ
    go_wp2
    have SF := (K6.out.fr4.set 0 (.int .u64 (v : Int))).set 1 (.slice A' n' c')
    have XG : Blk _ g _ _ := SF.h0
    have e0 := XG.cell 0
    have e1 := XG.cell 1
    refine bodyPost_ret (v := .tuple #[.agg #[.int .u64 (v : Int), .slice A' n' c'], .nilIface]) (by simp [results, Tryd.results55, go_sem, e0, e1]) rfl ?_
    refine ⟨A', n', c', qs', .nilIface, by rw [HD.out], ?_, HK.out, HF.out, SF.tail.tail.tail⟩
    rcases HEE.out with h | ⟨q, h, _⟩
    · exact .inl h
    · cases h
  · have HQ : Hid (q ≠ g) := fun e => by
      have XG : Blk w4 g _ _ := K6.out.h4
      subst e
      have := Blk.inj h0 XG
      simp at this
    have H0 := Lib.hid h0
    have H1 := Lib.hid h1
    have e1 : decSt (rd0 xs) = 0 := by unfold decSt; rw [if_neg h1]
    have e2 : decKs (rd0 xs) = [] := by unfold decKs; rw [if_neg h1]
    have HD := Lib.hid e1
    have HK := Lib.hid e2
    clear h0 h1 e1 e2 HV HZ
    go_wp2
    have SF := (K6.out.fr4.set 0 (.int .u64 0)).set 1 (.slice none 0 0)
    have XG : Blk _ g _ _ := SF.h0
    have e0 := XG.cell 0
    have e1 := XG.cell 1
    have SG := SF.tail.tail.tail.tail.tail
    refine bodyPost_ret (v := .tuple #[.agg #[.int .u64 0, .slice none 0 0], .iface 129 (.pointer (some ⟨q, 0, none⟩))]) (by simp [results, Tryd.results55, go_sem, e0, e1]) rfl ?_
    refine ⟨none, 0, 0, [], _, by rw [HD.out]; rfl, .inr ⟨q, rfl, Blk.set_ne (Blk.set_ne H0.out (a := ⟨g, 0, none⟩) HQ.out _) (a := ⟨g, 1, none⟩) HQ.out _, H1.out⟩, by rw [HK.out]; rfl, fun q h => by simp at h, (SG.packNil).push (Below.refl _ _) (cOw 155 3 none 0 0 []) (Ow.nil _ _ _) fun k hk => by obtain ⟨a, e, _⟩ := hk; cases e⟩
end
end Go.Proofs.YtbhmnkpbaeemeaaDoor

/-! # L19 -/
set_option maxRecDepth 100000
namespace Go.Proofs.YtbhmnkpbaeemeaaDoor
open Go.RowKit

def ccells (qs : List RQ) : List Value := qs.map fun q => .slice q.A q.n q.c
theorem elC : ElI 164 22 (.slice none 0 0) 1 24 := ⟨by kernel_rfl, by kernel_rfl, by rfl, by decide⟩

section
variable {w0 w w' : World} {l : List Ch}
set_option maxHeartbeats 1000000 in
theorem cmds_any (stamp : Nat) (A : Option Addr) (n c : Nat) (qs : List RQ) (hn : n ≤ 2000000) (hl : qs.length = n) (S : Sep w0 w (cOw 155 3 A n c (qcells qs) :: l)) :
    Calls Tryd.prog 110 #[.agg #[.int .u64 (stamp : Int), .slice A n c]] w fun e w' => ∃ A' c', e = .returned (.slice A' n c') ∧ Sep w0 w' (cOw 22 1 A' n c' (ccells qs) :: cOw 155 3 A n c (qcells qs) :: l) := by
  have S0 := Lib.hid (S.box #[.int .u64 (stamp : Int), .slice A n c] 83)
  have hf := Ow.form (show Ow w _ 3 A n c _ from S.h0)
  have hle := Ow.le (show Ow w _ 3 A n c _ from S.h0)
  clear S
  obtain ⟨g, hg⟩ : ∃ g, g = w.heap.size := ⟨_, rfl⟩
  rw [← hg] at S0
  go_enter Tryd.func110, Tryd.ntmps110
  go_wp2
  rw [← hg]
  clear hg
  generalize (w.alloc (.cells #[.int .u64 (stamp : Int), .slice A n c] 83)) = w1 at *
  go_loopw [3, 4] (fun b i wr => ∃ (k : Nat) (A' : Option Addr) (c' : Nat), k ≤ n ∧ i = .int .i64 (k : Int) ∧ b = .slice A' k c' ∧ Hid (Sep w0 wr (cOw 22 1 A' k c' (ccells (qs.take k)) :: cBlk g #[.int .u64 (stamp : Int), .slice A n c] 83 :: cOw 155 3 A n c (qcells qs) :: l))) (fun _ i _ => n - (intOf i).toNat)
  case atStart => exact ⟨0, none, 0, Nat.zero_le _, rfl, rfl, S0.out.push (Below.refl _ _) (cOw 22 1 none 0 0 []) (Ow.nil _ _ _) fun k hk => by obtain ⟨a, e, _⟩ := hk; cases e⟩
  case round =>
    obtain ⟨k, A', c', hk, rfl, rfl, R⟩ := hrel
    have XB : Blk wr g _ _ := R.out.h1
    have b1 : wr.cell? ⟨g, 1, none⟩ = some (.slice A n c) := XB.cell 1
    clear XB
    by_cases hlt : k < n
    · rcases hf with ⟨_, h0, _⟩ | ⟨a, rfl⟩
      · omega
      have XO : Ow wr 155 3 (some ⟨a, 0, none⟩) n c (qcells qs) := R.out.h2
      have hlq := qcells_len qs
      have hq2 : wr.cell? ⟨a, k * 3 + 2, none⟩ = some (.slice (qs[k]'(by omega)).A (qs[k]'(by omega)).n (qs[k]'(by omega)).c) := by
        rw [XO.cell (k * 3 + 2) (by omega)]
        have := qcells_get qs k 2 (by omega) (by omega)
        rw [List.getElem?_eq_getElem (by omega)] at this
        exact this
      have HT : Hid (ccells (qs.take (k + 1)) = ccells (qs.take k) ++ [.slice (qs[k]'(by omega)).A (qs[k]'(by omega)).n (qs[k]'(by omega)).c]) := by
        show _ = _
        unfold ccells
        rw [List.take_succ_eq_append_getElem (by omega), List.map_append]; rfl
      clear XO hlq
      generalize (qs[k]'(by omega)) = x at *
      go_wp2_with (at_builtin; refine sep_app1 elC rfl (.tmp 12) (.tmp 19) rfl rfl R.out #[.slice x.A x.n x.c] rfl rfl (by simp [Value.oneCell']) (by omega) (by omega) ?_; intro A6 c6 w6 S7; have S8 := Lib.hid S7; clear S7)
      go_roundw
      case rel => exact ⟨k + 1, A6, c6, by omega, by go_num, rfl, by rw [HT.out]; exact S8.out⟩
      case measure => simp [intOf]; omega
    · obtain rfl : k = n := by omega
      go_wp2
      go_ret
      refine ⟨A', c', rfl, ?_⟩
      have := R.out.fr1.tail
      rw [List.take_of_length_le (by omega)] at this
      exact this
end
end Go.Proofs.YtbhmnkpbaeemeaaDoor
