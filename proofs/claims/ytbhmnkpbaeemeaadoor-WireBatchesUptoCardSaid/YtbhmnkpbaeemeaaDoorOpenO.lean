import Derived.Test.YtbhmnkpbaeemeaaDoorOpen
import Derived.Test.YtbhmnkpbaeemeaaDoorOps
import Derived.Deep.Slices
set_option linter.unusedVariables false
set_option linter.unusedSimpArgs false
namespace Go.Proofs.YtbhmnkpbaeemeaaDoor
open Go.ChangeShapes Go.WideShapes Go.ChangeAt Go.RowKit
open Go.ChangeMaps (open_string shut_string)

set_option maxRecDepth 100000 in
/-- What a []byte cell reads as, by its reading alone. -/
theorem rd_cell {H : Type} {enc : TypeId × Value → H} {W : World} {base : Nat} {spare : Nat → Bool} {held : Bool} {cs : List Value} {d : DataW H × List MemPlace} {fuel : Nat}
    (hf : DataW.trod enc Tryd.prog W base spare held fuel 22 cs = some d) :
    ∃ A n c xs, cs = [.slice A n c] ∧ Rd W A n c xs ∧ n + 1 ≤ Rows.uptoBulk d.1 := by
  rcases open_ints Tryd.underlying22 Tryd.underlying5 cells_u8 hf with ⟨hcs, hx⟩ | ⟨x, len0, cap0, zs, hcs, _, hl, hm, hz, hx, hcell, hwz⟩
  · subst hcs hx
    exact ⟨none, 0, 0, [], rfl, Rd.nilRd W, by simp [Rows.uptoBulk]⟩
  · subst hcs hx
    have hlz : len0 ≤ zs.length := by rw [hz]; split <;> omega
    refine ⟨some x, len0, cap0, (zs.take len0).map u8of, rfl, ⟨by simp; omega, hl, by unfold maxLen at hm; omega, (fun e => by cases e), fun i hi => ?_⟩, ?_⟩
    · have hi' : i < len0 := by simp at hi; omega
      have hc0 := hcell i (by omega)
      have hsp : x.spot = none := by
        have h0 := hcell 0 (by omega)
        rw [show x.add 0 = x by simp [Addr.add]] at h0
        cases hs : x.spot with
        | none => rfl
        | some s =>
          exfalso
          simp only [World.cell?, hs, Option.isSome_some, if_true] at h0
          split at h0 <;> simp at h0
      obtain ⟨b, o, sp⟩ := x
      simp only at hsp
      subst hsp
      refine ⟨b, o, rfl, ?_⟩
      have ea : (⟨b, o, none⟩ : Addr).add i = ⟨b, o + i, none⟩ := by unfold Addr.add; split <;> simp_all
      rw [ea] at hc0
      rw [hc0]
      have hw := hwz (zs.getD i 0) (by rw [List.getD_eq_getElem?_getD, List.getElem?_eq_getElem (by omega)]; exact List.getElem_mem _)
      have hb := bounds_u8 hw
      simp only [List.getElem_map, List.getElem_take]
      rw [u8of_toNat (by rw [List.getD_eq_getElem?_getD, List.getElem?_eq_getElem (by omega)] at hb; exact hb.1) (by rw [List.getD_eq_getElem?_getD, List.getElem?_eq_getElem (by omega)] at hb; simp at hb; omega)]
      rw [List.getD_eq_getElem?_getD, List.getElem?_eq_getElem (by omega)]
      rfl
    · have := bulks.slice_le (H := H) (lits .u8 (zs.take len0)) (lits .u8 (zs.drop len0))
      have e : (lits (H := H) .u8 (zs.take len0)).length = len0 := by simp [lits]; omega
      show len0 + 1 ≤ Rows.uptoBulk (DataW.slice (lits .u8 (zs.take len0)) (lits .u8 (zs.drop len0)))
      omega

theorem cells_op : Tryd.prog.cellsOf 53 = 6 := by kernel_rfl
set_option maxRecDepth 100000 in
theorem op_open {H : Type} {enc : TypeId × Value → H} {W : World} {base : Nat} {spare : Nat → Bool} {held : Bool} {cs : List Value} {d : DataW H × List MemPlace} {fuel : Nat}
    (hf : DataW.trod enc Tryd.prog W base spare held fuel 53 cs = some d) (hb : Rows.uptoBulk d.1 ≤ 1048576) :
    ∃ o : OpV, cs = o.cells.toList ∧ OpOk W o := by
  obtain ⟨xs, n, _, hx, hl, hlen, hfs⟩ := DataW.trod_struct Tryd.underlying53 hf
  rw [cells_op] at hl
  match xs, hlen, cs, hl with
  | [y0, y1, y2, y3, y4, y5], _, [v0, v1, v2, v3, v4, v5], _ =>
    have g0 : DataW.trod enc Tryd.prog W base spare held n 3 [v0] = some y0 := by
      have g := hfs 0 _ rfl
      change DataW.trod enc Tryd.prog W base spare held n 3 (List.take (Tryd.prog.cellsOf 3) [v0, v1, v2, v3, v4, v5]) = some y0 at g
      rw [show Tryd.prog.cellsOf 3 = 1 by kernel_rfl] at g
      exact g
    have g1 : DataW.trod enc Tryd.prog W base spare held n 51 [v1] = some y1 := by
      have g := hfs 1 _ rfl
      change DataW.trod enc Tryd.prog W base spare held n 51 (List.take (Tryd.prog.cellsOf 51) [v1, v2, v3, v4, v5]) = some y1 at g
      rw [show Tryd.prog.cellsOf 51 = 1 by kernel_rfl] at g
      exact g
    have g2 : DataW.trod enc Tryd.prog W base spare held n 3 [v2] = some y2 := by
      have g := hfs 2 _ rfl
      change DataW.trod enc Tryd.prog W base spare held n 3 (List.take (Tryd.prog.cellsOf 3) [v2, v3, v4, v5]) = some y2 at g
      rw [show Tryd.prog.cellsOf 3 = 1 by kernel_rfl] at g
      exact g
    have g3 : DataW.trod enc Tryd.prog W base spare held n 22 [v3] = some y3 := by
      have g := hfs 3 _ rfl
      change DataW.trod enc Tryd.prog W base spare held n 22 (List.take (Tryd.prog.cellsOf 22) [v3, v4, v5]) = some y3 at g
      rw [show Tryd.prog.cellsOf 22 = 1 by kernel_rfl] at g
      exact g
    have g4 : DataW.trod enc Tryd.prog W base spare held n 9 [v4] = some y4 := by
      have g := hfs 4 _ rfl
      change DataW.trod enc Tryd.prog W base spare held n 9 (List.take (Tryd.prog.cellsOf 9) [v4, v5]) = some y4 at g
      rw [show Tryd.prog.cellsOf 9 = 1 by kernel_rfl] at g
      exact g
    have g5 : DataW.trod enc Tryd.prog W base spare held n 3 [v5] = some y5 := by
      have g := hfs 5 _ rfl
      change DataW.trod enc Tryd.prog W base spare held n 3 (List.take (Tryd.prog.cellsOf 3) [v5]) = some y5 at g
      rw [show Tryd.prog.cellsOf 3 = 1 by kernel_rfl] at g
      exact g
    obtain ⟨z0, e0, rfl, w0⟩ := DataW.trod_int Tryd.underlying3 g0
    obtain ⟨z1, e1, rfl, w1⟩ := DataW.trod_int Tryd.underlying51 g1
    obtain ⟨z2, e2, rfl, w2⟩ := DataW.trod_int Tryd.underlying3 g2
    obtain ⟨A, m, c, b, e3, hr, hbk⟩ := rd_cell g3
    obtain ⟨t, e4, rfl, w4⟩ := DataW.trod_string Tryd.underlying9 g4
    obtain ⟨z5, e5, rfl, w5⟩ := DataW.trod_int Tryd.underlying3 g5
    simp only [List.cons.injEq, and_true] at e0 e1 e2 e3 e4 e5
    subst e0 e1 e2 e3 e4 e5
    have b1 := bounds_u64 w1
    have b2 := bounds_i64 w2
    have b5 := bounds_i64 w5
    subst hx
    simp only [List.map_cons, List.map_nil, Rows.uptoBulk, Rows.uptoBulkAll] at hb
    have ht : t.data.toList.length = t.size := by simp
    refine ⟨⟨z0, z1.toNat, z2, A, m, c, b, t, z5⟩, ?_, ⟨by simp only []; omega, b2.1, b2.2, hr, by simp only []; omega, by simp only []; omega, b5.1, b5.2⟩⟩
    simp only [OpV.cells]
    rw [show ((z1.toNat : Nat) : Int) = z1 by omega]

theorem choose_list {α : Type} (n : Nat) (p : Nat → α → Prop) (h : ∀ i, i < n → ∃ x, p i x) : ∃ l : List α, l.length = n ∧ ∀ i (hi : i < l.length), p i (l[i]'hi) := by
  induction n with
  | zero => exact ⟨[], rfl, fun i hi => by simp at hi⟩
  | succ n ih =>
    obtain ⟨l, hl, hp⟩ := ih fun i hi => h i (by omega)
    obtain ⟨x, hx⟩ := h n (by omega)
    refine ⟨l ++ [x], by simp [hl], fun i hi => ?_⟩
    by_cases hlt : i < l.length
    · rw [List.getElem_append_left hlt]
      exact hp i hlt
    · have : i = n := by simp at hi; omega
      subst this
      rw [List.getElem_append_right (by omega)]
      simpa [hl] using hx

set_option maxRecDepth 100000 in
/-- What a []WireOp argument reads as. -/
theorem ops_open {H : Type} {enc : TypeId × Value → H} {W : World} {base : Nat} {spare : Nat → Bool} {held : Bool} {v : Value} {d : DataW H} {p : List MemPlace} {base' : Nat}
    (hv : Value.okWide Tryd.prog W .any base' 45 v) (hd : ∃ fuel, DataW.trod enc Tryd.prog W base spare held fuel 45 v.cells.toList = some (d, p)) (hb : Rows.uptoBulk d ≤ 1048576) :
    ∃ A n c os, v = .slice A n c ∧ RdO W A n c os ∧ n + 1 ≤ Rows.uptoBulk d := by
  obtain ⟨a0, len0, cap0, rfl⟩ := okWide_slice Tryd.underlying45 hv
  obtain ⟨fuel, hf⟩ := hd
  rcases Go.Deep.open_slice Tryd.underlying45 hf with ⟨hcs, hx⟩ | ⟨a, len, cap, m, n, D, Pl, hcs, _, hl, hm, hmm, hx, hel⟩
  · simp [Value.cells] at hcs
    obtain ⟨rfl, rfl, rfl⟩ := hcs
    simp only [Prod.mk.injEq] at hx
    exact ⟨none, 0, 0, [], rfl, ⟨rfl, Nat.le_refl _, by omega, (fun i hi => by simp at hi), fun o ho => by simp at ho⟩, by rw [hx.1]; simp [Rows.uptoBulk]⟩
  · simp [Value.cells] at hcs
    obtain ⟨rfl, rfl, rfl⟩ := hcs
    simp only [Prod.mk.injEq] at hx
    have hlm : len0 ≤ m := by rw [hmm]; split <;> omega
    rw [cells_op] at hel
    obtain ⟨rfl, _⟩ := hx
    have hDb : ∀ i, i < len0 → Rows.uptoBulk (D i) ≤ 1048576 := fun i hi => by
      have h1 := bulks.part_le (d := D i) (l := (List.range len0).map D) (List.mem_map.2 ⟨i, List.mem_range.2 hi, rfl⟩)
      simp only [Rows.uptoBulk] at hb
      omega
    obtain ⟨os, hol, hos⟩ := choose_list len0 (fun i (o : OpV) => (∃ b o', a = ⟨b, o', none⟩ ∧ W.cell? ⟨b, o' + i * 6, none⟩ = some (.int .i64 o.kind) ∧ W.cell? ⟨b, o' + i * 6 + 1, none⟩ = some (.int .u64 (o.num : Int)) ∧ W.cell? ⟨b, o' + i * 6 + 2, none⟩ = some (.int .i64 o.int) ∧ W.cell? ⟨b, o' + i * 6 + 3, none⟩ = some (.slice o.A o.n o.c) ∧ W.cell? ⟨b, o' + i * 6 + 4, none⟩ = some (.string o.s) ∧ W.cell? ⟨b, o' + i * 6 + 5, none⟩ = some (.int .i64 o.most)) ∧ OpOk W o) (fun i hi => by
      obtain ⟨cs', h1, h2⟩ := hel i (by omega)
      obtain ⟨o, rfl, hok⟩ := op_open h2 (hDb i hi)
      obtain ⟨_, _, hcell⟩ := World.cells?_some h1
      refine ⟨o, ?_, hok⟩
      have hsp : a.spot = none := by
        obtain ⟨cs0, j1, j2⟩ := hel 0 (by omega)
        obtain ⟨oo, rfl, _⟩ := op_open j2 (hDb 0 (by omega))
        obtain ⟨_, _, jc⟩ := World.cells?_some j1
        have h0 := jc 0 (by omega)
        rw [show (a.add (0 * 6)).add 0 = a by simp [Addr.add]] at h0
        have h0' : W.cell? a = some (.int .i64 oo.kind) := h0
        cases hs : a.spot with
        | none => rfl
        | some s =>
          exfalso
          simp only [World.cell?, hs, Option.isSome_some, if_true] at h0'
          split at h0' <;> simp at h0'
      obtain ⟨b, o', sp⟩ := a
      simp only at hsp
      subst hsp
      refine ⟨b, o', rfl, ?_⟩
      have ea : ∀ k, (⟨b, o', none⟩ : Addr).add k = ⟨b, o' + k, none⟩ := fun k => by unfold Addr.add; split <;> simp_all
      have eb : ∀ k, (⟨b, o' + i * 6, none⟩ : Addr).add k = ⟨b, o' + i * 6 + k, none⟩ := fun k => by unfold Addr.add; split <;> simp_all
      simp only [ea, eb] at hcell
      have c0 := hcell 0 (by omega)
      have c1 := hcell 1 (by omega)
      have c2 := hcell 2 (by omega)
      have c3 := hcell 3 (by omega)
      have c4 := hcell 4 (by omega)
      have c5 := hcell 5 (by omega)
      exact ⟨c0, c1, c2, c3, c4, c5⟩)
    refine ⟨some a, len0, cap0, os, rfl, ⟨hol, hl, by unfold maxLen at hm; omega, fun i hi => ?_, fun o ho => ?_⟩, ?_⟩
    · obtain ⟨⟨b, o', rfl, hc⟩, _⟩ := hos i hi
      exact ⟨b, o', rfl, hc⟩
    · obtain ⟨i, hi, rfl⟩ := List.getElem_of_mem ho
      exact (hos i hi).2
    · have := bulks.slice_le (H := H) ((List.range len0).map D) ((List.range (m - len0)).map fun j => D (len0 + j))
      have e : ((List.range len0).map D).length = len0 := by simp
      omega
end Go.Proofs.YtbhmnkpbaeemeaaDoor
