import Derived.Test.YtbhmnkpbaeemeaaDoorOpen
import Derived.Test.YtbhmnkpbaeemeaaDoorWireOddW
set_option linter.unusedVariables false
set_option linter.unusedSimpArgs false
namespace Go.Proofs.YtbhmnkpbaeemeaaDoor
open Go.ChangeShapes Go.WideShapes Go.ChangeAt Go.RowKit
open Go.ChangeMaps (open_string shut_string)

theorem cells_i64 : Tryd.prog.cellsOf 3 = 1 := by kernel_rfl
set_option maxRecDepth 100000 in
/-- What a []int argument reads as. -/
theorem ri_open {H : Type} {enc : TypeId × Value → H} {W : World} {base : Nat} {spare : Nat → Bool} {held : Bool} {v : Value} {d : DataW H} {p : List MemPlace} {base' : Nat}
    (hv : Value.okWide Tryd.prog W .any base' 40 v) (hd : ∃ fuel, DataW.trod enc Tryd.prog W base spare held fuel 40 v.cells.toList = some (d, p)) :
    ∃ A n c zs, v = .slice A n c ∧ RdI W A n c zs ∧ n + 1 ≤ Rows.uptoBulk d := by
  obtain ⟨a0, len0, cap0, rfl⟩ := okWide_slice Tryd.underlying40 hv
  obtain ⟨fuel, hf⟩ := hd
  rcases open_ints Tryd.underlying40 Tryd.underlying3 cells_i64 hf with ⟨hcs, hx⟩ | ⟨x, l, c, zs, hcs, _, hl, hm, hz, hx, hcell, hwz⟩
  · simp [Value.cells] at hcs
    obtain ⟨rfl, rfl, rfl⟩ := hcs
    simp only [Prod.mk.injEq] at hx
    exact ⟨none, 0, 0, [], rfl, ⟨rfl, Nat.le_refl _, by omega, (fun i hi => by simp at hi), fun i hi => by simp at hi⟩, by rw [hx.1]; simp [Rows.uptoBulk]⟩
  · simp [Value.cells] at hcs
    obtain ⟨rfl, rfl, rfl⟩ := hcs
    simp only [Prod.mk.injEq] at hx
    have hlz : len0 ≤ zs.length := by rw [hz]; split <;> omega
    refine ⟨some x, len0, cap0, zs.take len0, rfl, ⟨by simp; omega, hl, by unfold maxLen at hm; omega, fun i hi => ?_, fun i hi => ?_⟩, ?_⟩
    · have hi' : i < len0 := by simp at hi; omega
      have hc0 := hcell i (by omega)
      have hsp : x.spot = none := by
        have h0 := hcell 0 (by omega)
        rw [show x.add 0 = x by simp [Addr.add]] at h0
        cases hs : x.spot with
        | none => rfl
        | some s =>
          exfalso
          simp only [World.cell?, hs, Option.isSome_some, if_true] at h0
          split at h0 <;> simp at h0
      obtain ⟨b, o, sp⟩ := x
      simp only at hsp
      subst hsp
      refine ⟨b, o, rfl, ?_⟩
      have ea : (⟨b, o, none⟩ : Addr).add i = ⟨b, o + i, none⟩ := by unfold Addr.add; split <;> simp_all
      rw [ea] at hc0
      rw [hc0, List.getElem_take, List.getD_eq_getElem?_getD, List.getElem?_eq_getElem (by omega)]
      rfl
    · rw [List.getElem_take]
      exact bounds_i64 (hwz _ (List.getElem_mem _))
    · rw [hx.1]
      have := bulks.slice_le (H := H) (lits .i64 (zs.take len0)) (lits .i64 (zs.drop len0))
      have e : (lits (H := H) .i64 (zs.take len0)).length = len0 := by simp [lits]; omega
      omega
end Go.Proofs.YtbhmnkpbaeemeaaDoor
