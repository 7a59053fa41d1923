import Derived.Test.YtbhmnkpbaeemeaaDoorW3
set_option linter.unusedVariables false
set_option linter.unusedSimpArgs false
namespace Go.Proofs.YtbhmnkpbaeemeaaDoor
open Go.RowKit

theorem Parts.at_ {w : World} {F : Nat → Prop} {P : Option Addr} {ps : List Part} (h : Parts w F P ps) (k : Nat) (hk : k < ps.length) :
    ∃ q, P = some ⟨q, 0, none⟩ ∧ w.cell? ⟨q, k, none⟩ = some (.slice (ps[k]'hk).A (ps[k]'hk).n (ps[k]'hk).c) := by
  rcases h.blk with h0 | ⟨q, e, _, hb⟩
  · have := h.nil h0
    subst this
    simp at hk
  · refine ⟨q, e, ?_⟩
    rw [hb.cell k]
    simp [List.getElem?_eq_getElem hk]

theorem Parts.len {w : World} {F : Nat → Prop} {P : Option Addr} {ps : List Part} (h : Parts w F P ps) (k : Nat) (hk : k < ps.length) : (ps[k]'hk).xs.length = (ps[k]'hk).n :=
  (h.rd _ (List.getElem_mem hk)).1.len

theorem Wr.drew {w : World} {p : Nat} {A : Option Addr} {c : Nat} {s : WrS} (h : Wr w p A c s) : Wr w.drew p A c s := ⟨h.blk, h.row, h.ne, h.small, h.most0, h.most1⟩
theorem Wr.drewN {w : World} {p : Nat} {A : Option Addr} {c : Nat} {s : WrS} (h : Wr w p A c s) (n : Nat) : Wr (w.drewN n) p A c s := ⟨h.blk, h.row, h.ne, h.small, h.most0, h.most1⟩

theorem Wr.appended {w w2 : World} {p : Nat} {A A2 : Option Addr} {c c2 n m : Nat} {s : WrS} {xs : List UInt8} (h : Wr w p A c s) (hown : Ob w2 0 A2 m c2 (s.buf ++ xs)) (hchg : Chg w w2 (inA A))
    (hin : ∀ k, inA A2 k → inA A k ∨ k = w.heap.size) (hn : xs.length = n) (hm : m = s.buf.length + n) (hfit : (s.buf ++ xs).length ≤ 65507) :
    Wr (w2.setCell ⟨p, 5, none⟩ (.slice A2 m c2)) p A2 c2 { s with buf := s.buf ++ xs } ∧ Chg w (w2.setCell ⟨p, 5, none⟩ (.slice A2 m c2)) (wrF p A) := by
  have hne : ¬ inA A2 p := fun hk => by
    rcases hin p hk with hk | hk
    · exact h.ne hk
    · have := h.blk.lt; omega
  have hm' : m = (s.buf ++ xs).length := by rw [List.length_append]; omega
  subst hm'
  have hb2 := h.blk.chg hchg h.ne
  refine ⟨⟨hb2.set 5 _, ?_, hne, hfit, h.most0, h.most1⟩, ?_⟩
  · refine hown.chg (F := (· = p)) ?_ fun k hk e => hne (by subst e; exact hk)
    refine Chg.set (Chg.refl _ _) ?_ _
    exact fun _ => rfl
  · refine Chg.set (hchg.mono fun _ _ => .inr) ?_ _
    exact fun _ => .inl rfl

set_option maxRecDepth 100000 in
set_option maxHeartbeats 1000000 in
theorem lay_live (w : World) (p : Nat) (A : Option Addr) (c : Nat) (s : WrS) (h : Wr w p A c s) (own : Int) (P : Option Addr) (ps : List Part) (hp : Parts w (wrF p A) P ps)
    (hl : (flat ps).length ≤ 1000000000) (hs : (!s.made || s.bad) = false) :
    Calls Tryd.prog 65 #[.pointer (some ⟨p, 0, none⟩), .int .i64 own, .slice P ps.length ps.length] w fun e w' => e = .returned (.tuple #[]) ∧ WrPost w w' p A (s.lay own (flat ps)) := by
  have c0 := h.blk.cell 0
  have c1 := h.blk.cell 1
  have S := stuck_any w p s.made s.bad (c0.trans rfl) (c1.trans rfl)
  rw [hs] at S
  have HS := Lib.hid S; clear S c0 c1
  have Hs := Lib.hid hs; clear hs
  have hsm := hp.small
  go_enter Tryd.func65, Tryd.ntmps65
  go_wp2_with (go_at_call 132; refine HS.out.mono ?_; rintro e w' ⟨rfl, rfl⟩)
  go_loop [6, 8, 21] (fun n _ i => ∃ k : Nat, k ≤ ps.length ∧ i = .int .i64 k ∧ n = .int .i64 ((flat (ps.take k)).length : Nat)) (fun _ _ i => ps.length - (intOf i).toNat)
  case atStart => exact ⟨0, Nat.zero_le _, rfl, rfl⟩
  case round =>
    obtain ⟨k, hk, rfl, rfl⟩ := hrel
    have hfl := flat_take_le ps k
    by_cases hlt : k < ps.length
    · obtain ⟨q, rfl, hc⟩ := hp.at_ k hlt
      have hpl := hp.len k hlt
      have hsu : (flat (ps.take (k + 1))).length = (flat (ps.take k)).length + (ps[k]'hlt).n := by rw [flat_take_succ ps k hlt, List.length_append, hpl]
      have hfl' := flat_take_le ps (k + 1)
      have HSU := Lib.hid hsu; clear hsu
      have HPL := Lib.hid hpl; clear hpl
      have hb1 : (flat (ps.take k)).length + (ps[k]'hlt).n ≤ 1000000000 := by have := HSU.out; omega
      go_wp2
      go_round
      case rel => exact ⟨k + 1, by omega, by go_num, by rw [HSU.out]; go_num⟩
      case measure => simp [intOf]; omega
    · have hkk : ps.take k = ps := List.take_of_length_le (by omega)
      have ek : (flat (ps.take k)).length = (flat ps).length := by rw [hkk]
      have EK := Lib.hid ek; clear ek hkk
      have ck1 : w.cell? ⟨p, 1, none⟩ = some (.bool s.bad) := h.blk.cell 1
      have ck4 : w.cell? ⟨p, 4, none⟩ = some (.int .i64 s.most) := h.blk.cell 4
      have ck5 : w.cell? ⟨p, 5, none⟩ = some (.slice A s.buf.length c) := h.blk.cell 5
      have hmost0 := h.most0
      have hmost1 := h.most1
      have hbl := h.small
      have hbad : s.bad = false := by have := Hs.out; simp at this; exact this.2

      by_cases ho : own = 0
      · subst ho
        have HS0 := Lib.hid HS; clear HS
        go_wp2
        go_quiet (fail)
        by_cases hfit : s.most - s.buf.length < (flat ps).length
        · have fin : s.lay 0 (flat ps) = { s with bad := true, code := 21, at_ := s.buf.length } := by
            unfold WrS.lay
            rw [if_neg (by rw [Hs.out]; simp), if_neg (by simp), if_pos hfit]
          have Fin := Lib.hid fin; clear fin
          have hfb : s.most - s.buf.length < ((flat (ps.take k)).length : Int) := by rw [EK.out]; exact hfit
          clear hfit
          have FF := Lib.hid (fail_good (w.drewN nq).drew p 21 s.buf.length _ _ (h.blk.drewN nq).drew (by show some (Value.bool s.bad) = _; rw [hbad]) (by show 3 < 6; omega)); clear hbad
          go_wp2
          go_region_with (go_at_call 133; refine FF.out.mono ?_; rintro e w' ⟨rfl, rfl⟩)
          all_goals
            go_wp2
            go_returns
            rw [Fin.out]
            exact ⟨rfl, A, c, (h.drewN (nq + 1)).failed 21 _, (Chg.refl _ _).drewN (nq + 1) |>.trans' (chg_failed (w.drewN (nq + 1)) p 21 _ A), fun k hk => .inl hk⟩
        · have fin : s.lay 0 (flat ps) = { s with buf := s.buf ++ flat ps } := by
            unfold WrS.lay
            rw [if_neg (by rw [Hs.out]; simp), if_neg (by simp), if_neg hfit]
          have Fin := Lib.hid fin; clear fin
          have hfb : ¬ s.most - s.buf.length < ((flat (ps.take k)).length : Int) := by rw [EK.out]; exact hfit
          have hmx : s.buf.length + (flat ps).length ≤ 65507 := by omega
          clear hfit ck1 ck4 ck5
          go_wp2
          clear hfb
          go_loopw [32] (fun i wr => ∃ (k : Nat) (A' : Option Addr) (c' : Nat) (bf : List UInt8), k ≤ ps.length ∧ i = .int .i64 k ∧ Hid (bf = s.buf ++ flat (ps.take k)) ∧ Hid (Wr wr p A' c' { s with buf := bf }) ∧ Hid (Chg w wr (wrF p A)) ∧ Hid (∀ j, inA A' j → inA A j ∨ w.heap.size ≤ j)) (fun i _ => ps.length - (intOf i).toNat)
          case atStart => exact ⟨0, A, c, s.buf, Nat.zero_le _, rfl, (by show _ = _; simp [flat]), h.drewN nq, (Chg.refl _ _).drewN nq, fun j hj => .inl hj⟩
          case round =>
            obtain ⟨k, A', c', bf, hk, rfl, HBF, HW, HC, HI⟩ := hrel
            by_cases hlt : k < ps.length
            · obtain ⟨q, rfl, _⟩ := hp.at_ k hlt
              have hpw := hp.chg HC.out (fun _ _ x => x)
              obtain ⟨q', e', hcp⟩ := hpw.at_ k hlt
              cases e'
              have HP := Lib.hid (hpw.rd _ (List.getElem_mem hlt)); clear hpw
              have ck5 : wr.cell? ⟨p, 5, none⟩ = some (.slice A' bf.length c') := HW.out.blk.cell 5
              have hfl' := flat_take_le ps (k + 1)
              have hfl0 := flat_take_le ps k
              have hsu : (flat (ps.take (k + 1))).length = (flat (ps.take k)).length + (ps[k]'hlt).n := by rw [flat_take_succ ps k hlt, List.length_append, hp.len k hlt]
              have hb1 : (flat (ps.take k)).length + (ps[k]'hlt).n ≤ (flat ps).length := by omega
              have hbl' : bf.length + (ps[k]'hlt).n ≤ 65507 := by rw [HBF.out, List.length_append]; omega
              have HSU := Lib.hid hsu; clear hsu hfl'
              have HR : Hid (Ob wr 0 A' bf.length c' bf) := HW.out.row
              have hq : (bf ++ (ps[k]'hlt).xs).length ≤ 65507 := by rw [List.length_append]; have := HP.out.1.len; omega
              have HQ := Lib.hid hq; clear hq
              go_wp2_with (at_builtin; refine wpl_append_b rfl (.tmp 40) (.tmp 41) rfl rfl HR.out rfl HP.out.1 ?_ (Nat.zero_le _) ?_; omega; intro A2 c2 w2 hown2 hchg2 hin2; have HA := Lib.hid (HW.out.appended hown2 hchg2 hin2 HP.out.1.len rfl HQ.out); have hb2 := Lib.hid (HW.out.blk.chg hchg2 HW.out.ne); have d5 : w2.cell? ⟨p, 5, none⟩ = some (.slice A' bf.length c') := hb2.out.cell 5; have f5 := hb2.out.frozen 5; clear hown2 hchg2; have HIN := Lib.hid hin2; clear hin2)
              go_roundw
              case rel =>
                refine ⟨k + 1, A2, c2, _, by omega, by go_num, ?_, HA.out.1, HC.out.trans HA.out.2 ?_, ?_⟩
                · show _ = _
                  rw [HBF.out, flat_take_succ ps k hlt, List.append_assoc]
                · intro i hi hf
                  rcases hf with rfl | hf
                  · exact .inl rfl
                  · rcases HI.out i hf with h1 | h1
                    · exact .inr h1
                    · omega
                · intro j hj
                  rcases HIN.out j hj with h1 | rfl
                  · exact HI.out j h1
                  · exact .inr HC.out.size
              case measure => simp [intOf]; omega
            · go_wp2
              go_returns
              rw [Fin.out]
              have e1 : bf = s.buf ++ flat ps := by rw [HBF.out, List.take_of_length_le (by omega)]
              subst e1
              exact ⟨rfl, A', c', HW.out, HC.out, HI.out⟩
      · have hob : (own != 0) = true := by simpa using ho
        have fin : s.lay own (flat ps) = { s with bad := true, code := own, at_ := s.buf.length } := by
          unfold WrS.lay
          rw [if_neg (by rw [Hs.out]; simp), if_pos ho]
        have Fin := Lib.hid fin; clear fin
        have FF := Lib.hid (fail_good w.drew p own s.buf.length _ _ h.blk.drew (by show some (Value.bool s.bad) = _; rw [hbad]) (by show 3 < 6; omega)); clear hbad ho
        go_wp2
        go_region_with (go_at_call 133; refine FF.out.mono ?_; rintro e w' ⟨rfl, rfl⟩)
        all_goals
          go_wp2
          go_returns
          rw [Fin.out]
          exact ⟨rfl, A, c, (h.failed own _).drew, (chg_failed w p own _ A).drew, fun k hk => .inl hk⟩
end Go.Proofs.YtbhmnkpbaeemeaaDoor
