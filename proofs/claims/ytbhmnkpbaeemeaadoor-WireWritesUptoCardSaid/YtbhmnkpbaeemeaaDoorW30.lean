import Derived.Test.YtbhmnkpbaeemeaaDoorW29
set_option linter.unusedVariables false
set_option linter.unusedSimpArgs false
namespace Go.Proofs.YtbhmnkpbaeemeaaDoor
open Go.RowKit

theorem rBytes_any {w : World} {q : Nat} {A : Option Addr} {c : Nat} {s : WrS} (h : Rw w q A c s) :
    Calls Tryd.prog 85 #[.pointer (some ⟨q, 0, none⟩)] w fun e w' => FrmR w w' e s.out s.no s.pl := by
  have c0 : w.cell? ⟨q, 0, none⟩ = some (.bool s.made) := h.blk.cell 0
  have c2 : w.cell? ⟨q, 2, none⟩ = some (.slice A s.buf.length c) := h.blk.cell 2
  have c3 : w.cell? ⟨q, 3, none⟩ = some (.int .i64 s.code) := h.blk.cell 3
  have c4 : w.cell? ⟨q, 4, none⟩ = some (.int .i64 s.at_) := h.blk.cell 4
  have hq := h.blk.lt
  have hne : ¬ q = w.heap.size := by omega
  have hsm := h.small
  cases hm : s.made
  · have e1 : s.out = [] ∧ s.no = 3 ∧ s.pl = 0 := by simp [WrS.out, WrS.no, WrS.pl, hm]
    rw [e1.1, e1.2.1, e1.2.2]
    rw [hm] at c0
    clear e1 h
    go_enter Tryd.func85, Tryd.ntmps85
    go_wp2
    refine bodyPost_ret (v := .tuple #[.slice none 0 0, .agg #[.int .i64 3, .int .i64 0]]) (by simp [results, Tryd.results85, go_sem]) rfl ?_
    exact ⟨none, 0, 0, rfl, Ob.nil _ _, by go_grown⟩
  · rw [hm] at c0
    cases hbd : s.bad
    · have e1 : s.out = s.buf ∧ s.no = 0 ∧ s.pl = 0 := by simp [WrS.out, WrS.no, WrS.pl, hm, hbd]
      rw [e1.1, e1.2.1, e1.2.2]
      have hc := h.code
      rw [hbd] at hc
      have hcode : s.code = 0 := by simpa using hc.symm
      rw [hcode] at c3
      have H := Lib.hid h
      clear e1 h hc
      go_enter Tryd.func85, Tryd.ntmps85
      have hbN := Blk.new w #[.int .i64 0, .int .i64 0] 29
      have HBN := Lib.hid hbN; clear hbN
      go_wp2_with (go_at_call 86; refine (Copy_any _ _ _ _ s.buf (H.out.row.alloc _) (by omega)).mono ?_; rintro e w5 ⟨A5, c5, rfl, ho, hb⟩; have HO := Lib.hid ho; have HB := Lib.hid hb; have bN := HBN.out.kept hb; have n0 : w5.cell? ⟨w.heap.size, 0, none⟩ = some (.int .i64 0) := bN.cell 0; have n1 : w5.cell? ⟨w.heap.size, 1, none⟩ = some (.int .i64 0) := bN.cell 1; have f0 := bN.frozen 0; have f1 := bN.frozen 1; clear ho hb bN)
      refine bodyPost_ret (v := .tuple #[.slice A5 s.buf.length c5, .agg #[.int .i64 0, .int .i64 0]]) (by simp [results, Tryd.results85, go_sem, n0, n1]) rfl ?_
      refine ⟨A5, _, c5, rfl, ?_, ?_⟩
      · have := HO.out.set2 w.heap.size (by simp) (.int .i64 0) (.int .i64 0)
        exact this.mono (by simp)
      · exact below_set2 (below_then (below1 w _) HB.out) _ (Nat.le_refl _) _ _
    · have e1 : s.out = [] ∧ s.no = s.code ∧ s.pl = s.at_ := by simp [WrS.out, WrS.no, WrS.pl, hm, hbd]
      rw [e1.1, e1.2.1, e1.2.2]
      have hc := h.code
      rw [hbd] at hc
      have hcode : (s.code != 0) = true := by simpa using hc.symm
      clear e1 h hc
      go_enter Tryd.func85, Tryd.ntmps85
      go_wp2
      go_region
      all_goals
        go_wp2
        refine bodyPost_ret (v := .tuple #[.slice none 0 0, .agg #[.int .i64 s.code, .int .i64 s.at_]]) (by simp [results, Tryd.results85, go_sem]) rfl ?_
        exact ⟨none, 0, 0, rfl, Ob.nil _ _, by go_grown⟩

set_option maxHeartbeats 800000 in
theorem written_any {w : World} {P A : Option Addr} {c : Nat} {s : WrS} {q : Nat} {A2 : Option Addr} {c2 : Nat} (h : WN w P A c s) (h2 : Rw w q A2 c2 s) :
    Calls Tryd.prog 28 #[.pointer P, .pointer (some ⟨q, 0, none⟩)] w fun e w' => e = .returned (.bool true) ∧ Below w.heap.size w w' := by
  have hR := Lib.hid (rBytes_any h2)
  have HC := Lib.hid h2.code
  have H := Lib.hid h
  have hout : s.out.length ≤ 65507 := by 
    unfold WrS.out
    split
    · simp
    · exact h2.small
  generalize hno : s.no = no at *
  generalize hpl : s.pl = pl at *
  clear h h2
  go_enter Tryd.func28, Tryd.ntmps28
  go_wp2_with (go_at_call 85; refine hR.out.mono ?_; rintro e w1 ⟨A5, m5, c5, rfl, ho, hb⟩; have HO := Lib.hid ho; have HB := Lib.hid hb; clear ho hb)
  go_loopw [7] (fun i wr => ∃ k : Nat, k ≤ 2 ∧ i = .int .i64 k ∧ Hid (Below w.heap.size w wr) ∧ Hid (Blk wr w1.heap.size #[.int .i64 no, .int .i64 pl] 29) ∧ Hid (Ob wr w.heap.size A5 m5 c5 s.out) ∧ Hid (∀ k, inA A5 k → k < w1.heap.size)) (fun i _ => 2 - (intOf i).toNat)
  case atStart => exact ⟨0, Nat.zero_le _, rfl, below_then HB.out (below1 _ _), Blk.new _ _ _, HO.out.alloc _, fun k hk => (HO.out.lt hk).2⟩
  case round =>
    obtain ⟨k, hk, rfl, B, X, O, L⟩ := hrel
    by_cases hlt : k < 2
    · have hk01 : k = 0 ∨ k = 1 := by omega
      rcases hk01 with rfl | rfl
      all_goals
        have hW := Lib.hid (Bytes_wn (H.out.chg (Chg.ofBelow B.out fun _ => False) fun _ _ => id) HC.out)
        rw [hno, hpl] at hW
        go_wp2_with (go_at_call 38; refine hW.out.mono ?_; rintro e w2 ⟨A8, m8, c8, err, rfl, ho, he, hb⟩; have HO8 := Lib.hid ho; have HE := Lib.hid he; have B2 := Lib.hid hb; have X2 := X.out.kept hb; have n0 : w2.cell? ⟨w1.heap.size, 0, none⟩ = some (.int .i64 no) := X2.cell 0; have n1 : w2.cell? ⟨w1.heap.size, 1, none⟩ = some (.int .i64 pl) := X2.cell 1; clear ho he hb X2)
        refine (told_any w2 err no pl HE.out).mono ?_
        rintro e w3 ⟨rfl, q1, rfl⟩
        go_wp2_with fail
        refine (sameBytes_any _ _ _ _ _ _ _ _ _ (HO8.out.rd.drewN _) ((O.out.below B2.out).rd.drewN _)).mono ?_
        rintro e w3 ⟨rfl, q2, rfl⟩
        go_wp2_with fail
        refine (spoil_any _ wr.heap.size A8 m8 c8 s.out (HO8.out.drewN _) (by have := HO8.out.rd.len; omega) (by exact B2.out.size) _ (by decide)).mono ?_
        rintro e w3 ⟨rfl, hc⟩
        have N8 : Hid (∀ k, inA A8 k → wr.heap.size ≤ k) := fun k hk => (HO8.out.lt hk).1
        have hsz : w.heap.size ≤ wr.heap.size := B.out.size
        have hxl := X.out.lt
        have HC3 := Lib.hid hc
        clear hc
        go_wp2
        go_roundw
        case rel =>
          have hB3 : Below wr.heap.size wr w3 := (below_drewN B2.out _).trans (HC3.out.below B2.out.size fun i hi hk => by
            have := N8.out i hk
            omega)
          exact ⟨_, by decide, rfl, below_then B.out hB3, X.out.kept hB3, O.out.below hB3, L⟩
        case measure => simp [intOf]
    · go_wp2
      go_ret
      exact ⟨rfl, B.out⟩
end Go.Proofs.YtbhmnkpbaeemeaaDoor
