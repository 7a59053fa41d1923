import Derived.Test.YtbhmnkpbaeemeaaDoorW34
set_option linter.unusedVariables false
set_option linter.unusedSimpArgs false
namespace Go.Proofs.YtbhmnkpbaeemeaaDoor
open Go.RowKit

theorem lay_op {w0 w : World} {P A : Option Addr} {c q : Nat} {A2 : Option Addr} {c2 : Nat} {s : WrS} (h : PW w0 w P A c q A2 c2 s) (o : OpV) (ok : OpOk w0 o) (hT : U8T w0) :
    Calls Tryd.prog 26 #[.pointer P, .pointer (some ⟨q, 0, none⟩), o.val] w fun e w' => LayPost w0 w' e P q := by
  by_cases h1 : o.kind = 1
  · exact lay1 h o ok hT h1
  by_cases h2 : o.kind = 2
  · exact lay2 h o ok hT h2
  by_cases h3 : o.kind = 3
  · exact lay3 h o ok hT h3
  by_cases h4 : o.kind = 4
  · exact lay4 h o ok hT h4
  by_cases h5 : o.kind = 5
  · exact lay5 h o ok hT h5
  by_cases h6 : o.kind = 6
  · exact lay6 h o ok hT h6
  by_cases h7 : o.kind = 7
  · exact lay7 h o ok hT h7
  by_cases h8 : o.kind = 8
  · exact lay8 h o ok hT h8
  by_cases h9 : o.kind = 9
  · exact lay9 h o ok hT h9
  by_cases h10 : o.kind = 10
  · exact lay10 h o ok hT h10
  by_cases h11 : o.kind = 11
  · exact lay11 h o ok hT h11
  · exact lay0 h o fun i hi hj => by
      have : i = 1 ∨ i = 2 ∨ i = 3 ∨ i = 4 ∨ i = 5 ∨ i = 6 ∨ i = 7 ∨ i = 8 ∨ i = 9 ∨ i = 10 ∨ i = 11 := by omega
      rcases this with rfl | rfl | rfl | rfl | rfl | rfl | rfl | rfl | rfl | rfl | rfl <;> assumption

def MadePost (w w' : World) (e : Ending) : Prop :=
  ∃ P q A c A2 c2 s, e = .returned (.tuple #[.pointer P, .pointer (some ⟨q, 0, none⟩)]) ∧ PW w w' P A c q A2 c2 s
theorem not_inA_none {k : Nat} (h : inA none k) : False := by
  obtain ⟨a, e, _⟩ := h
  cases e
theorem madeWriter_any (w : World) (how most : Int) :
    Calls Tryd.prog 25 #[.int .i64 how, .int .i64 most] w fun e w' => MadePost w w' e := by
  by_cases h0 : how = 0
  · subst h0
    go_enter Tryd.func25, Tryd.ntmps25
    go_wp2_with first | (go_at_call 36; refine (newWriter_any most w).mono ?_; rintro e w1 ⟨rfl, h1, b1⟩; have H1 := Lib.hid h1; have B1 := Lib.hid b1; clear h1 b1) | (go_at_call 72; refine (rNewWriter_any most _).mono ?_; rintro e w2 ⟨rfl, h2, b2⟩; have H2 := Lib.hid h2; have B2 := Lib.hid b2; clear h2 b2)
    go_ret2
    refine ⟨some ⟨w.heap.size, 0, none⟩, w1.heap.size, none, 0, none, 0, _, rfl, ⟨.inr ⟨_, rfl, H1.out.below B2.out⟩, H2.out, ?_, ?_, ?_, below_then B1.out B2.out⟩⟩
    · rintro k (hk | hk)
      · rw [inA_some] at hk
        omega
      · exact (not_inA_none hk).elim
    · rintro k (hk | hk)
      · have := B1.out.size
        omega
      · exact (not_inA_none hk).elim
    · rintro k (hk | hk) (hk2 | hk2)
      · rw [inA_some] at hk
        have := H1.out.blk.lt
        omega
      · exact (not_inA_none hk2).elim
      · exact (not_inA_none hk).elim
      · exact (not_inA_none hk).elim
  · have hb0 : (how == 0) = false := by simpa using h0
    by_cases h1 : how = 1
    · subst h1
      go_enter Tryd.func25, Tryd.ntmps25
      go_wp2
      go_ret2
      refine ⟨none, w.heap.size, none, 0, none, 0, ⟨false, false, 0, 0, 0, []⟩, rfl, ⟨.inl ⟨rfl, rfl, rfl, rfl⟩, ⟨Blk.new _ _ _, Rd.nilRd _, fun k hk => (not_inA_none hk).elim, fun k hk => (not_inA_none hk).elim, rfl, by simp, by simp, by simp⟩, ?_, ?_, ?_, below1 w _⟩⟩
      · rintro k (hk | hk) <;> exact (not_inA_none hk).elim
      · rintro k (hk | hk)
        · omega
        · exact (not_inA_none hk).elim
      · rintro k (hk | hk) <;> exact (not_inA_none hk).elim
    · have hb1 : (how == 1) = false := by simpa using h1
      go_enter Tryd.func25, Tryd.ntmps25
      go_wp2
      go_ret2
      refine ⟨some ⟨w.heap.size, 0, none⟩, w.heap.size + 1, none, 0, none, 0, ⟨false, false, 0, 0, 0, []⟩, by simp, ⟨.inr ⟨_, rfl, ⟨?_, Ob.nil _ _, fun hk => (not_inA_none hk).elim, by simp, by simp, by simp⟩⟩, ⟨?_, Rd.nilRd _, fun k hk => (not_inA_none hk).elim, fun k hk => (not_inA_none hk).elim, rfl, by simp, by simp, by simp⟩, ?_, ?_, ?_, by go_grown⟩⟩
      · exact (Blk.new w _ _).alloc _
      · have := Blk.new (w.alloc (.cells #[.bool false, .bool false, .int .i64 0, .int .i64 0, .int .i64 0, .slice none 0 0] 128)) #[.bool false, .int .i64 0, .slice none 0 0, .int .i64 0, .int .i64 0] 56
        simpa using this
      · rintro k (hk | hk)
        · rw [inA_some] at hk
          omega
        · exact (not_inA_none hk).elim
      · rintro k (hk | hk)
        · omega
        · exact (not_inA_none hk).elim
      · rintro k (hk | hk) (hk2 | hk2)
        · rw [inA_some] at hk
          omega
        · exact (not_inA_none hk2).elim
        · exact (not_inA_none hk).elim
        · exact (not_inA_none hk).elim

/-- What reads as these operations. -/
structure RdO (w : World) (A : Option Addr) (n c : Nat) (os : List OpV) : Prop where
  len : os.length = n
  le : n ≤ c
  max : c ≤ 9223372036854775807
  at_ : ∀ i (h : i < os.length), ∃ b o, A = some ⟨b, o, none⟩ ∧ w.cell? ⟨b, o + i * 6, none⟩ = some (.int .i64 (os[i]'h).kind) ∧ w.cell? ⟨b, o + i * 6 + 1, none⟩ = some (.int .u64 ((os[i]'h).num : Int)) ∧ w.cell? ⟨b, o + i * 6 + 2, none⟩ = some (.int .i64 (os[i]'h).int) ∧ w.cell? ⟨b, o + i * 6 + 3, none⟩ = some (.slice (os[i]'h).A (os[i]'h).n (os[i]'h).c) ∧ w.cell? ⟨b, o + i * 6 + 4, none⟩ = some (.string (os[i]'h).s) ∧ w.cell? ⟨b, o + i * 6 + 5, none⟩ = some (.int .i64 (os[i]'h).most)
  ok : ∀ o ∈ os, OpOk w o

set_option maxHeartbeats 800000 in
theorem wireWrites_walk (w : World) (how most : Int) (AO : Option Addr) (n c : Nat) (os : List OpV) (hx : RdO w AO n c os) (hT : U8T w) :
    Calls Tryd.prog 6 #[.int .i64 how, .int .i64 most, .slice AO n c] w fun e w' => e = .returned (.bool true) ∧ Below w.heap.size w w' := by
  have hl := hx.len
  subst hl
  have hle := hx.le
  have hmx := hx.max
  have HX := Lib.hid hx
  have HT := Lib.hid hT
  clear hx hT
  go_enter Tryd.func6, Tryd.ntmps6
  go_wp2_with (go_at_call 25; refine (madeWriter_any w how most).mono ?_; rintro e w1 ⟨P, q, A1, c1, A2, c2, s, rfl, hp⟩; have HP := Lib.hid hp; clear hp)
  go_loopw [9] (fun i wr => ∃ (k : Nat) (A1 : Option Addr) (c1 : Nat) (A2 : Option Addr) (c2 : Nat) (s : WrS), k ≤ os.length ∧ i = .int .i64 k ∧ Hid (PW w wr P A1 c1 q A2 c2 s)) (fun i _ => os.length - (intOf i).toNat)
  case atStart => exact ⟨0, A1, c1, A2, c2, s, Nat.zero_le _, rfl, HP⟩
  case round =>
    obtain ⟨k, A1, c1, A2, c2, s, hk, rfl, HP⟩ := hrel
    by_cases hlt : k < os.length
    · obtain ⟨b, o, rfl, hc⟩ := HX.out.at_ k hlt
      obtain ⟨d0, d1, d2, d3, d4, d5⟩ := hc
      have hb0 : b < w.heap.size := World.block_lt_of_cell? w _ d0
      have e0 := (HP.out.bel.cell hb0).trans d0
      have e1 := (HP.out.bel.cell hb0).trans d1
      have e2 := (HP.out.bel.cell hb0).trans d2
      have e3 := (HP.out.bel.cell hb0).trans d3
      have e4 := (HP.out.bel.cell hb0).trans d4
      have e5 := (HP.out.bel.cell hb0).trans d5
      clear d0 d1 d2 d3 d4 d5
      have OK := Lib.hid (HX.out.ok _ (List.getElem_mem hlt))
      generalize (os[k]'hlt) = op at *
      have hL := Lib.hid (lay_op HP.out op OK.out HT.out)
      unfold OpV.val at hL
      go_wp2_with (go_at_call 26; refine hL.out.mono ?_; rintro e w5 ⟨rfl, A1', c1', A2', c2', s', hp⟩)
      go_roundw
      case rel => exact ⟨k + 1, A1', c1', A2', c2', s', by omega, by go_num, hp⟩
      case measure => simp [intOf]; omega
    · go_wp2
      have cq : wr.cell? ⟨q, 2, none⟩ = some (.slice A2 s.buf.length c2) := HP.out.rw_.blk.cell 2
      have HL : ∀ k, Hid (Calls Tryd.prog 27 #[.pointer P] (wr.drewN k) fun e w' => e = .returned (.int .i64 (s.buf.length : Int)) ∧ wr.drewN k = w') := fun k => Len_wn (HP.out.wn.chg ((Chg.refl _ (fun _ => False)).drewN k) fun _ _ => id)
      have HW : ∀ k, Hid (Calls Tryd.prog 28 #[.pointer P, .pointer (some ⟨q, 0, none⟩)] (wr.drewN k) fun e w' => e = .returned (.bool true) ∧ Below w.heap.size w w') := fun k => by
        have hp := HP.out.below (below_drewN (Below.refl _ wr) k)
        exact (written_any hp.wn hp.rw_).mono fun e w' ⟨h1, h2⟩ => ⟨h1, below_then hp.bel h2⟩
      go_region_with first | (go_at_call 27; (first | refine (HL 1).out.mono ?_ | refine (HL 0).out.mono ?_); rintro e w' ⟨rfl, rfl⟩) | (go_at_call 28; (first | refine (HW 1).out.mono ?_ | refine (HW 0).out.mono ?_); rintro e w5 ⟨rfl, hb⟩)
      all_goals
        go_wp2
        refine bodyPost_ret (v := .bool true) (by simp [results, Tryd.results6, go_sem, Act.put]) rfl ?_
        exact ⟨rfl, hb⟩
end Go.Proofs.YtbhmnkpbaeemeaaDoor
