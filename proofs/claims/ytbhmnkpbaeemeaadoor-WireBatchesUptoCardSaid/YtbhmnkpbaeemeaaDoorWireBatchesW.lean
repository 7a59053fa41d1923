import Derived.Test.YtbhmnkpbaeemeaaDoorM3
set_option linter.unusedVariables false
set_option linter.unusedSimpArgs false
set_option maxRecDepth 100000
namespace Go.Proofs.YtbhmnkpbaeemeaaDoor
open Go.RowKit

/-- What reads as these bytes, made by the call. -/
def cGot (A : Option Addr) (n c : Nat) (xs : List UInt8) : Ch where
  F := inA A
  P w := Rd w A n c xs ∧ ∀ k, inA A k → k < w.heap.size
  lt w h k hk := h.2 k hk
  loc w w' G h hc hF := ⟨h.1.chg hc fun _ => hF, fun k hk => Nat.lt_of_lt_of_le (h.2 k hk) hc.size⟩

def rqBadK (k : Nat × Nat × List UInt8) : Nat := if k.1 < 256 then 29 else if 700 < k.2.2.length then 21 else 0
def reqsNoK : List (Nat × Nat × List UInt8) → Nat → Nat × Nat
  | [], _ => (0, 0)
  | q :: l, i => if rqBadK q ≠ 0 then (rqBadK q, 2 + i) else reqsNoK l (i + 1)
theorem reqsNo_key (qs : List RQ) : ∀ i, reqsNo qs i = reqsNoK (qs.map RQ.key) i := by
  induction qs with
  | nil => intro i; rfl
  | cons q l ih => intro i; unfold reqsNo; rw [ih]; rfl
theorem batchNo_key {st : Nat} {qs rs : List RQ} (h : qs.map RQ.key = rs.map RQ.key) : batchNo st qs = batchNo st rs := by
  have hl := congrArg List.length h
  rw [List.length_map, List.length_map] at hl
  unfold batchNo
  rw [reqsNo_key, reqsNo_key, h, hl]
theorem encBOut_key {st : Nat} {qs rs : List RQ} (h : qs.map RQ.key = rs.map RQ.key) : encBOut st qs = encBOut st rs := by
  have hl := congrArg List.length h
  rw [List.length_map, List.length_map] at hl
  have e : ∀ l : List RQ, l.map encRq = (l.map RQ.key).map fun k => numB k.1 ++ (numB k.2.1 ++ (numB k.2.2.length ++ k.2.2)) := fun l => by rw [List.map_map]; rfl
  unfold encBOut encBt
  rw [batchNo_key h, e, e, h, hl]
theorem encBOut_le {st : Nat} {qs : List RQ} (ho : ∀ q ∈ qs, q.client < 18446744073709551616 ∧ q.seq < 18446744073709551616) : (encBOut st qs).length ≤ 5870 := by
  unfold encBOut
  split
  · rename_i h
    exact encBt_le h ho
  · simp
theorem lentOk {w : World} {qs' qs : List RQ} (h : (cAll (qs'.map cLent)).P w) (hk : qs'.map RQ.key = qs.map RQ.key) (hn : ∀ q ∈ qs', q.n = q.b.length) (ok : ∀ q ∈ qs, q.client < 18446744073709551616 ∧ q.seq < 18446744073709551616 ∧ q.b.length ≤ 2000000) : ∀ q ∈ qs', RqOk w q := fun q hq => by
  have h1 := lentAll h q hq
  have h2 : q.key ∈ qs.map RQ.key := hk ▸ List.mem_map_of_mem hq
  obtain ⟨r, hr, hrk⟩ := List.mem_map.1 h2
  obtain ⟨o1, o2, o3⟩ := ok r hr
  simp only [RQ.key, Prod.mk.injEq] at hrk
  obtain ⟨k1, k2, k3⟩ := hrk
  exact ⟨k1 ▸ o1, k2 ▸ o2, Rd.front h1.rd (hn q hq).symm, by rw [hn q hq, ← k3]; exact o3⟩

set_option maxHeartbeats 4000000 in
theorem wireBatches_walk (w : World) (stamp : Nat) (hst : stamp < 18446744073709551616) (A : Option Addr) (n c : Nat) (qs : List RQ) (hq : RdQ w A n c qs) (hn : n ≤ 2000000) (Ab : Option Addr) (nb cb : Nat) (b : List UInt8) (hb : Rd w Ab nb cb b) (hnb : nb ≤ 2000000) :
    Calls Tryd.prog 9 #[.agg #[.int .u64 (stamp : Int), .slice A n c], .slice Ab nb cb] w fun e w' => e = .returned (.bool true) ∧ Below w.heap.size w w' := by
  have HQ := Lib.hid hq
  have HB := Lib.hid hb
  have HO : Hid (∀ q ∈ qs, q.client < 18446744073709551616 ∧ q.seq < 18446744073709551616 ∧ q.b.length ≤ 2000000) := fun q h => ⟨(hq.ok q h).client, (hq.ok q h).seq, by rw [(hq.ok q h).rd.len]; exact (hq.ok q h).n⟩
  have hql := hq.len
  have S0 := Lib.hid ((Sep.start w).box #[.int .u64 (stamp : Int), .slice A n c] 83)
  clear hq hb
  go_enter Tryd.func9, Tryd.ntmps9
  obtain ⟨g, hg⟩ : ∃ g, g = w.heap.size := ⟨_, rfl⟩
  go_wp2_with fail
  rw [← hg] at S0 ⊢
  clear hg
  generalize (w.alloc (.cells #[.int .u64 (stamp : Int), .slice A n c] 83)) = w1 at *
  refine (rEncodeBatch w1 stamp hst A n c qs (HQ.out.below S0.out.bel)).mono ?_
  unfold EncR
  rintro e w2 ⟨A1, m1, c1, rfl, hr, hf, hbl⟩
  have hr1 := hr.len
  have S1 := Lib.hid (S0.out.push hbl (cGot A1 m1 c1 (encBOut stamp qs)) ⟨hr, fun k hk => (hf k hk).2⟩ fun k hk => (hf k hk).1)
  clear S0 hr hf hbl
  have HNO : Hid (∀ qs' : List RQ, qs'.map RQ.key = qs.map RQ.key → batchNo stamp qs' = batchNo stamp qs) := fun qs' h => batchNo_key h
  have hle := encBOut_le (st := stamp) fun q h => ⟨(HO.out q h).1, (HO.out q h).2.1⟩
  generalize ho : encBOut stamp qs = out at *
  have HOUT := Lib.hid ho
  generalize hno : batchNo stamp qs = no at *
  clear ho hno
  obtain ⟨g6, hg6⟩ : ∃ g, g = w2.heap.size := ⟨_, rfl⟩
  have S2 := Lib.hid (S1.out.box #[.int .i64 (no.1 : Int), .int .i64 (no.2 : Int)] 29)
  rw [← hg6] at S2
  have XG : Blk w2 g _ _ := S1.out.h1
  have k0 : w2.cell? ⟨g, 0, none⟩ = some (.int .u64 (stamp : Int)) := XG.cell 0
  have k1 : w2.cell? ⟨g, 1, none⟩ = some (.slice A n c) := XG.cell 1
  have hgl : g < w2.heap.size := XG.lt
  have hgn : ¬ g = w2.heap.size := by omega
  clear XG S1
  go_wp2_with fail
  rw [← hg6]
  clear k0 k1 hgl hgn hg6
  generalize (w2.alloc (.cells #[.int .i64 (no.1 : Int), .int .i64 (no.2 : Int)] 29)) = w3 at *
  refine (copyBatch_any w3 _ S2.out stamp hst A n c qs HQ.out hn).mono ?_
  rintro e w4 ⟨A4, c4, qs', rfl, hk4, hn4, hS⟩
  have hl4 : qs'.length = n := by have := congrArg List.length hk4; rw [List.length_map, List.length_map] at this; omega
  have HK4 := Lib.hid hk4
  have HN4 := Lib.hid hn4
  have S4 := Lib.hid (hS.box #[.int .u64 (stamp : Int), .slice A4 n c4] 83)
  clear hS hk4 hn4 S2
  obtain ⟨h, hh⟩ : ∃ g, g = w4.heap.size := ⟨_, rfl⟩
  rw [← hh] at S4
  go_wp2_with fail
  rw [← hh]
  clear hh
  generalize (w4.alloc (.cells #[.int .u64 (stamp : Int), .slice A4 n c4] 83)) = w5 at *
  have RQ5 := fun (W : World) (h1 : Ow W 155 3 A4 n c4 (qcells qs')) (h2 : (cAll (qs'.map cLent)).P W) => Lib.hid (rdq_of h1 hl4 (lentOk h2 HK4.out HN4.out HO.out))
  have HE := wEncodeBatch w5 stamp hst A4 n c4 qs' (RQ5 w5 S4.out.h1 S4.out.h2).out
  rw [encBOut_key HK4.out, HNO.out _ HK4.out, HOUT.out] at HE
  unfold FrmW at HE
  refine HE.mono ?_
  rintro e w6 ⟨A6, m6, c6, err, rfl, ho, hE, hbl⟩
  have S6 := Lib.hid (S4.out.pushO hbl ho)
  have HER := Lib.hid hE
  clear HE ho hE hbl S4
  go_wp2_with fail
  refine (told_any w6 err _ _ HER.out).mono ?_
  rintro e w7 ⟨rfl, q7, rfl⟩
  have S7 := Lib.hid (S6.out.drewN q7)
  clear S6 HER
  generalize w6.drewN q7 = w7 at *
  go_wp2_with fail
  have XR : Rd w7 A1 m1 c1 out := S7.out.tail.h4.1
  refine (sameBytes_any w7 _ _ _ _ _ _ _ _ (Ob.rd S7.out.h0) XR).mono ?_
  rintro e w8 ⟨rfl, q8, rfl⟩
  have S8 := Lib.hid (S7.out.drewN q8)
  clear S7 XR
  generalize w7.drewN q8 = w8 at *
  have XN : Blk w8 g6 _ _ := S8.out.h4
  have XG : Blk w8 g _ _ := S8.out.h6
  have XH : Blk w8 h _ _ := S8.out.h1
  have n0 : w8.cell? ⟨g6, 0, none⟩ = some (.int .i64 (no.1 : Int)) := XN.cell 0
  have n1 : w8.cell? ⟨g6, 1, none⟩ = some (.int .i64 (no.2 : Int)) := XN.cell 1
  have k0 : w8.cell? ⟨g, 0, none⟩ = some (.int .u64 (stamp : Int)) := XG.cell 0
  have k1 : w8.cell? ⟨g, 1, none⟩ = some (.slice A n c) := XG.cell 1
  have h0 : w8.cell? ⟨h, 0, none⟩ = some (.int .u64 (stamp : Int)) := XH.cell 0
  have h1 : w8.cell? ⟨h, 1, none⟩ = some (.slice A4 n c4) := XH.cell 1
  clear XN XG XH
  go_wp2_with fail
  refine (keptBatch_true w8 stamp A4 n c4 qs' A c qs (RQ5 w8 S8.out.h2 S8.out.h3).out (HQ.out.below S8.out.bel) HK4.out hn fun q hq => Ob.rd (lentAll S8.out.h3 q hq)).mono ?_
  rintro e w9 ⟨rfl, hbl⟩
  have S9 := Lib.hid (S8.out.kept hbl)
  clear S8 hbl n0 n1 k0 k1 h0 h1
  go_wp2_with fail
  have XR : Rd w9 A1 m1 c1 out := S9.out.h5.1
  refine (batchRead_any w9 A1 m1 c1 out XR (by omega)).mono ?_
  rintro e w10 ⟨rfl, hbl⟩
  have S10 := Lib.hid (S9.out.kept hbl)
  clear S9 hbl XR
  go_wp2_with fail
  refine (batchRead_any w10 Ab nb cb b (S10.out.rd HB.out) (by omega)).mono ?_
  rintro e w11 ⟨rfl, hbl⟩
  have S11 := Lib.hid (S10.out.kept hbl)
  clear S10 hbl
  go_wp2
  go_ret
  exact ⟨rfl, S11.out.bel⟩
end Go.Proofs.YtbhmnkpbaeemeaaDoor
