import Derived.Test.YtbhmnkpbaeemeaaDoorRows
import Derived.Test.YtbhmnkpbaeemeaaDoorK1
import Derived.ProofKit
import Derived.OpenShut
import Derived.ShutString
import Derived.ChangeOld
import Derived.Deep.DeepHandedRow
import Derived.Lib.LaidTab
set_option linter.unusedVariables false
set_option linter.unusedSimpArgs false
namespace Go.Proofs.YtbhmnkpbaeemeaaDoor
open Go.ChangeShapes Go.WideShapes Go.ChangeAt Go.RowKit
open Go.ChangeMaps (open_string shut_string)

theorem own : ownKnob Tryd.prog.godebug = none := by kernel_rfl
theorem laidOut : laidOutB Tryd.prog = true := by kernel_rfl
theorem cells_u8 : Tryd.prog.cellsOf 5 = 1 := by kernel_rfl

namespace bulks
theorem one_le {H : Type} (d : DataW H) : 1 ≤ Rows.uptoBulk d := by
  cases d with
  | lit l => cases l <;> simp [Rows.uptoBulk]
  | nil => simp [Rows.uptoBulk]
  | ptr d => simp [Rows.uptoBulk]
  | slice elems spare => simp [Rows.uptoBulk]
  | agg parts => simp [Rows.uptoBulk]
  | iface t d => simp [Rows.uptoBulk]
  | map entries => simp [Rows.uptoBulk]
  | held h => simp [Rows.uptoBulk]
theorem part_le {H : Type} {d : DataW H} {l : List (DataW H)} (h : d ∈ l) : Rows.uptoBulk d ≤ Rows.uptoBulkAll l := by
  induction l with
  | nil => cases h
  | cons x r ih =>
    simp only [Rows.uptoBulkAll]
    cases List.mem_cons.1 h with
    | inl e => subst e; omega
    | inr e => have := ih e; omega
theorem append {H : Type} (l r : List (DataW H)) : Rows.uptoBulkAll (l ++ r) = Rows.uptoBulkAll l + Rows.uptoBulkAll r := by
  induction l with
  | nil => simp [Rows.uptoBulkAll]
  | cons x l ih => simp only [List.cons_append, Rows.uptoBulkAll, ih]; omega
theorem length_le {H : Type} (l : List (DataW H)) : l.length ≤ Rows.uptoBulkAll l := by
  induction l with
  | nil => simp [Rows.uptoBulkAll]
  | cons x r ih => have := one_le x; simp only [Rows.uptoBulkAll, List.length_cons]; omega
theorem slice_le {H : Type} (elems spare : List (DataW H)) : elems.length + spare.length + 1 ≤ Rows.uptoBulk (.slice elems spare) := by
  have h1 := length_le elems
  have h2 := length_le spare
  simp only [Rows.uptoBulk]
  omega
theorem bound {H : Type} {l : List (DataW H)} (hk : Rows.uptoSmall H l = true) : Rows.uptoBulkAll l ≤ 1048576 := by
  have h := of_decide_eq_true hk
  exact h
end bulks

set_option maxRecDepth 100000 in
/-- What a []byte argument reads as. -/
theorem rd_open {H : Type} {enc : TypeId × Value → H} {W : World} {base : Nat} {spare : Nat → Bool} {held : Bool} {v : Value} {d : DataW H} {p : List MemPlace} {base' : Nat}
    (hv : Value.okWide Tryd.prog W .any base' 22 v) (hd : ∃ fuel, DataW.trod enc Tryd.prog W base spare held fuel 22 v.cells.toList = some (d, p)) :
    ∃ A n c xs, v = .slice A n c ∧ Rd W A n c xs ∧ n + 1 ≤ Rows.uptoBulk d := by
  obtain ⟨a0, len0, cap0, rfl⟩ := okWide_slice Tryd.underlying22 hv
  obtain ⟨fuel, hf⟩ := hd
  rcases open_ints Tryd.underlying22 Tryd.underlying5 cells_u8 hf with ⟨hcs, hx⟩ | ⟨x, l, c, zs, hcs, _, hl, hm, hz, hx, hcell, hwz⟩
  · simp [Value.cells] at hcs
    obtain ⟨rfl, rfl, rfl⟩ := hcs
    simp only [Prod.mk.injEq] at hx
    exact ⟨none, 0, 0, [], rfl, Rd.nilRd W, by rw [hx.1]; simp [Rows.uptoBulk]⟩
  · simp [Value.cells] at hcs
    obtain ⟨rfl, rfl, rfl⟩ := hcs
    simp only [Prod.mk.injEq] at hx
    have hlz : len0 ≤ zs.length := by rw [hz]; split <;> omega
    refine ⟨some x, len0, cap0, (zs.take len0).map u8of, rfl, ⟨by simp; omega, hl, by unfold maxLen at hm; omega, (fun e => by cases e), fun i hi => ?_⟩, ?_⟩
    · have hi' : i < len0 := by simp at hi; omega
      have hc0 := hcell i (by omega)
      have hsp : x.spot = none := by
        have h0 := hcell 0 (by omega)
        rw [show x.add 0 = x by simp [Addr.add]] at h0
        cases hs : x.spot with
        | none => rfl
        | some s =>
          exfalso
          simp only [World.cell?, hs, Option.isSome_some, if_true] at h0
          split at h0 <;> simp at h0
      obtain ⟨b, o, sp⟩ := x
      simp only at hsp
      subst hsp
      refine ⟨b, o, rfl, ?_⟩
      have ea : (⟨b, o, none⟩ : Addr).add i = ⟨b, o + i, none⟩ := by unfold Addr.add; split <;> simp_all
      rw [ea] at hc0
      rw [hc0]
      have hw := hwz (zs.getD i 0) (by rw [List.getD_eq_getElem?_getD, List.getElem?_eq_getElem (by omega)]; exact List.getElem_mem _)
      have hb := bounds_u8 hw
      simp only [List.getElem_map, List.getElem_take]
      rw [u8of_toNat (by rw [List.getD_eq_getElem?_getD, List.getElem?_eq_getElem (by omega)] at hb; exact hb.1) (by rw [List.getD_eq_getElem?_getD, List.getElem?_eq_getElem (by omega)] at hb; simp at hb; omega)]
      rw [List.getD_eq_getElem?_getD, List.getElem?_eq_getElem (by omega)]
      rfl
    · rw [hx.1]
      have := bulks.slice_le (H := H) (lits .u8 (zs.take len0)) (lits .u8 (zs.drop len0))
      have e : (lits (H := H) .u8 (zs.take len0)).length = len0 := by simp [lits]; omega
      omega
theorem gTab : Tryd.prog.globalNamed "quorum/wire.nibbles" = some 0 := by kernel_rfl
theorem gTabType : (Tryd.prog.globals[0]?).map (·.type) = some 117 := by kernel_rfl
theorem cells_tab : Tryd.prog.cellsOf 117 = 16 := by kernel_rfl
theorem cells_u32 : Tryd.prog.cellsOf 24 = 1 := by kernel_rfl
theorem tab_of {W : World} (h : laidMetH Tryd.prog [("quorum/wire.nibbles", Rows.laid_quorum_wire_nibbles)] W) : Tab W := by
  have hT : Lib.TabIs Tryd.prog W "quorum/wire.nibbles" .u32 [0, 274646895, 549293790, 820201905, 1098587580, 1361435347, 1640403810, 1905808397, 2197175160, 2460548119, 2722870694, 2987750089, 3280807620, 3553878443, 3811616794, 4084100981] :=
    Lib.tabIs_of_head (rest := []) gTab gTabType Tryd.underlying117 Tryd.underlying24 cells_u32 cells_tab h
  intro j hj
  rw [hT.cell gTab j hj]
  have : ∀ j, j < 16 → ([0, 274646895, 549293790, 820201905, 1098587580, 1361435347, 1640403810, 1905808397, 2197175160, 2460548119, 2722870694, 2987750089, 3280807620, 3553878443, 3811616794, 4084100981] : List Int).getD j 0 = (Crc.tabN j : Int) := by decide
  rw [this j hj]
end Go.Proofs.YtbhmnkpbaeemeaaDoor
