import Derived.Test.YtbhmnkpbaeemeaaDoorW25
import Derived.Test.YtbhmnkpbaeemeaaDoorW27
import Derived.Laws.IdiomStrings
set_option linter.unusedVariables false
set_option linter.unusedSimpArgs false
namespace Go.Proofs.YtbhmnkpbaeemeaaDoor
open Go.RowKit

/-- Text with its length ahead, or refused. -/
def WrS.text (s : WrS) (b : List UInt8) (most : Int) : WrS := if most < b.length then s.lay 21 [] else if Lib.validD b = false then s.lay 27 [] else s.lay 0 (numB b.length ++ b)

theorem strConv (w : World) (t : ByteArray) (ht : t.size ≤ 1000000000) : ∃ cap W', (convert 9 22 (.string t)).run Tryd.prog w = .ok (.slice (some ⟨w.heap.size, 0, none⟩) t.size cap) W' ∧ Rd W' (some ⟨w.heap.size, 0, none⟩) t.size cap t.data.toList ∧ Below w.heap.size w W' := by
  refine ⟨_, _, run_bytes_of_string w 9 22 5 t Tryd.underlying9 Tryd.underlying22 Tryd.underlying5, ?_, ?_⟩
  · have h1 := grownCap_ge w t.size 0 5
    have h2 := grownCap_le_maxLen w t.size 0 5 (by unfold maxLen; omega)
    generalize grownCap w t.size 0 5 = cap at h1 h2 ⊢
    unfold maxLen at h2
    refine ⟨by simp, h1, by omega, (fun e => by cases e), fun i hi => ⟨w.heap.size, 0, rfl, ?_⟩⟩
    have hi' : i < t.data.size := by simpa using hi
    simp only [World.cell?, Option.isSome_none, Bool.false_eq_true, if_false]
    rw [show (w.drew.alloc (.cells (bytesRow t cap) 5 ((bytesRow t cap).size, (bytesRow t cap).size + 1))).heap[w.heap.size]? = some (.cells (bytesRow t cap) 5 ((bytesRow t cap).size, (bytesRow t cap).size + 1)) by show (w.heap.push _)[w.heap.size]? = _; simp]
    simp only [Nat.zero_add, bytesRow]
    rw [Array.getElem?_append_left (by simpa using hi'), Array.getElem?_map, Array.getElem?_eq_getElem hi']
    rfl
  · exact (below_drewN (Below.refl _ w) 1).alloc (Nat.le_refl _) _

section
variable {w : World} {p : Nat} {A : Option Addr} {c : Nat} {s : WrS}
theorem RwPost.after {w1 w' : World} {s' : WrS} (hb : Below w.heap.size w w1) (h : RwPost w1 w' p A s') : RwPost w w' p A s' := by
  obtain ⟨A', c', h1, h2, h3⟩ := h
  refine ⟨A', c', h1, (Chg.ofBelow hb _).trans h2 fun i _ hi => hi, fun k hk => ?_⟩
  rcases h3 k hk with h | h
  · exact .inl h
  · exact .inr (Nat.le_trans hb.size h)

set_option maxRecDepth 100000 in
theorem Text_any (h : Wr w p A c s) (t : ByteArray) (most : Int) (hT : U8T w) (hn : t.size ≤ 800000000) :
    Calls Tryd.prog 83 #[.pointer (some ⟨p, 0, none⟩), .string t, .int .i64 most] w fun e w' => e = .returned (.tuple #[]) ∧ WrPost w w' p A (s.text t.data.toList most) := by
  have hR := Lib.hid (runes_any t w (by omega) hT)
  have hlen : t.data.toList.length = t.size := by simp
  by_cases hm : most < t.size
  · have hL := Lib.hid (lay_none h 21)
    have fin : s.text t.data.toList most = s.lay 21 [] := by unfold WrS.text; rw [if_pos (by omega)]
    have Fin := Lib.hid fin; clear fin h
    go_enter Tryd.func83, Tryd.ntmps83
    go_wp2_with (go_at_call 65; refine hL.out.mono ?_; rintro e w' ⟨rfl, hq⟩)
    go_returns
    exact ⟨rfl, by rw [Fin.out]; exact hq⟩
  · cases hv : Lib.validD t.data.toList
    · rw [hv] at hR
      have fin : s.text t.data.toList most = s.lay 27 [] := by unfold WrS.text; rw [if_neg (by omega), if_pos hv]
      have Fin := Lib.hid fin; clear fin
      have H := Lib.hid h; clear h
      go_enter Tryd.func83, Tryd.ntmps83
      go_wp2_with (go_at_call 138; refine hR.out.mono ?_; rintro e w1 ⟨rfl, hb⟩)
      refine (lay_none (H.out.below hb) 27).mono ?_
      rintro e w' ⟨rfl, hq⟩
      go_wp2
      go_returns
      exact ⟨rfl, by rw [Fin.out]; exact hq.after hb⟩
    · rw [hv] at hR
      have fin : s.text t.data.toList most = s.lay 0 (numB t.size ++ t.data.toList) := by unfold WrS.text; rw [if_neg (by omega), if_neg (by rw [hv]; decide), hlen]
      have Fin := Lib.hid fin; clear fin
      have hN := fun w => Lib.hid (number_any t.size w (by omega))
      have hl := numB_len64 t.size (by omega)
      have H := Lib.hid h; clear h
      go_enter Tryd.func83, Tryd.ntmps83
      go_wp2_with first | (go_at_call 138; refine hR.out.mono ?_; rintro e w1 ⟨rfl, hb⟩; have HB1 := Lib.hid hb; clear hb) | (go_at_call 136; refine (hN _).out.mono ?_; rintro e w2 ⟨A2, c2, rfl, ho, hb⟩; have HO := Lib.hid ho; have HB := Lib.hid hb; clear ho hb; obtain ⟨cap, w3, hcv, hrd, hbl⟩ := strConv w2 t (by omega); have HRD := Lib.hid hrd; have HBL := Lib.hid hbl; clear hrd hbl)
      refine (lay_two H.out (below_then (below_then HB1.out HB.out) HBL.out) (HO.out.rd.below HBL.out) (fun _ => H.out.fresh fun k hk => Nat.le_trans HB1.out.size (HO.out.lt hk).1) HRD.out (fun _ => H.out.fresh fun k hk => by rw [inA_some] at hk; subst hk; exact Nat.le_trans HB1.out.size HB.out.size) (by rw [hlen]; omega)).mono ?_
      rintro e w' ⟨rfl, hq⟩
      go_wp2
      go_returns
      exact ⟨rfl, by rw [Fin.out]; exact hq⟩

set_option maxRecDepth 100000 in
theorem rText_any {q : Nat} (h : Rw w q A c s) (t : ByteArray) (most : Int) (hn : t.size ≤ 800000000) :
    Calls Tryd.prog 84 #[.pointer (some ⟨q, 0, none⟩), .string t, .int .i64 most] w fun e w' => e = .returned (.tuple #[]) ∧ RwPost w w' q A (s.text t.data.toList most) := by
  have hR := Lib.hid (UTF8_any t w (by omega))
  have hlen : t.data.toList.length = t.size := by simp
  by_cases hm : most < t.size
  · have hL := Lib.hid (put_any h none 0 0 [] (Rd.nilRd w) 21 (by omega))
    have fin : s.text t.data.toList most = s.lay 21 [] := by unfold WrS.text; rw [if_pos (by omega)]
    have Fin := Lib.hid fin; clear fin h
    go_enter Tryd.func84, Tryd.ntmps84
    go_wp2_with (go_at_call 135; refine hL.out.mono ?_; rintro e w' ⟨rfl, hq⟩)
    go_returns
    exact ⟨rfl, by rw [Fin.out]; exact hq⟩
  · cases hv : Lib.validD t.data.toList
    · rw [hv] at hR
      have hL := Lib.hid (put_any h none 0 0 [] (Rd.nilRd w) 27 (by omega))
      have fin : s.text t.data.toList most = s.lay 27 [] := by unfold WrS.text; rw [if_neg (by omega), if_pos hv]
      have Fin := Lib.hid fin; clear fin h
      go_enter Tryd.func84, Tryd.ntmps84
      go_wp2_with first | (go_at_call 139; refine hR.out.mono ?_; rintro e w1 ⟨rfl, rfl⟩) | (go_at_call 135; refine hL.out.mono ?_; rintro e w' ⟨rfl, hq⟩)
      go_returns
      exact ⟨rfl, by rw [Fin.out]; exact hq⟩
    · rw [hv] at hR
      have fin : s.text t.data.toList most = s.lay 0 (numB t.size ++ t.data.toList) := by unfold WrS.text; rw [if_neg (by omega), if_neg (by rw [hv]; decide), hlen]
      have Fin := Lib.hid fin; clear fin
      have hN := Lib.hid (refNum_any t.size w (by omega))
      have hl := numB_len64 t.size (by omega)
      have H := Lib.hid h; clear h
      obtain ⟨l, hll⟩ : ∃ l, l = (numB t.size).length + t.size := ⟨_, rfl⟩
      have HLL := Lib.hid hll; clear hll
      go_enter Tryd.func84, Tryd.ntmps84
      go_wp2_with first | (go_at_call 139; refine hR.out.mono ?_; rintro e w1 ⟨rfl, rfl⟩) | (go_at_call 137; refine hN.out.mono ?_; rintro e w2 ⟨A2, c2, rfl, ho, hb⟩; have HO := Lib.hid ho; have HB := Lib.hid hb; clear ho hb; obtain ⟨cap, w3, hcv, hrd, hbl⟩ := strConv w2 t (by omega); have HRD := Lib.hid hrd; have HBL := Lib.hid hbl; clear hrd hbl) | (go_at_call 59; refine (Join_l w3 _ _ _ _ (HO.out.rd.below HBL.out) _ _ _ _ HRD.out l HLL.out.symm (by have := HLL.out; omega)).mono ?_; rintro e w4 ⟨A4, c4, rfl, ho, hb⟩) | (go_at_call 135; refine (put_after H.out (below_then (below_then HB.out HBL.out) hb) _ _ _ _ ho.rd 0 (by have := HLL.out; omega)).mono ?_; rintro e w' ⟨rfl, hq⟩)
      go_returns
      exact ⟨rfl, by rw [Fin.out]; exact hq⟩
end

theorem rNewWriter_any (m : Int) (w : World) :
    Calls Tryd.prog 72 #[.int .i64 m] w fun e w' => e = .returned (.pointer (some ⟨w.heap.size, 0, none⟩)) ∧ Rw w' w.heap.size none 0 ⟨true, false, 0, 0, max 0 (min m 65507), []⟩ ∧ Below w.heap.size w w' := by
  have fin : ∀ m' : Int, m' = max 0 (min m 65507) → Rw (w.alloc (.cells #[.bool true, .int .i64 m', .slice none 0 0, .int .i64 0, .int .i64 0] 56)) w.heap.size none 0 ⟨true, false, 0, 0, max 0 (min m 65507), []⟩ := by
    rintro m' rfl
    exact ⟨Blk.new _ _ _, Rd.nilRd _, (by rintro k ⟨a, e, _⟩; cases e), (by rintro k ⟨a, e, _⟩; cases e), by simp, by simp, by simp only []; omega, by simp only []; omega⟩
  have Fin := Lib.hid fin; clear fin
  go_enter Tryd.func72, Tryd.ntmps72
  go_wp2
  all_goals
    go_ret
    refine ⟨rfl, Fin.out _ (by omega), by go_grown⟩
end Go.Proofs.YtbhmnkpbaeemeaaDoor
