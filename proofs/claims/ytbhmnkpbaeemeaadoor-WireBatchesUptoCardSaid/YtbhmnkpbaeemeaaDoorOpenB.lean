import Derived.Test.YtbhmnkpbaeemeaaDoorOpenO
import Derived.Test.YtbhmnkpbaeemeaaDoorM1
set_option linter.unusedVariables false
set_option linter.unusedSimpArgs false
namespace Go.Proofs.YtbhmnkpbaeemeaaDoor
open Go.ChangeShapes Go.WideShapes Go.ChangeAt Go.RowKit

theorem cells_rq : Tryd.prog.cellsOf 155 = 3 := by kernel_rfl
theorem cells_bt : Tryd.prog.cellsOf 83 = 2 := by kernel_rfl

section
variable {H : Type} {enc : TypeId × Value → H} {W : World} {base : Nat} {spare : Nat → Bool} {held : Bool}
set_option maxRecDepth 100000 in
theorem rq_open {cs : List Value} {d : DataW H × List MemPlace} {fuel : Nat}
    (hf : DataW.trod enc Tryd.prog W base spare held fuel 155 cs = some d) (hb : Rows.uptoBulk d.1 ≤ 1048576) :
    ∃ q : RQ, cs = q.cells ∧ RqOk W q := by
  obtain ⟨xs, n, _, hx, hl, hlen, hfs⟩ := DataW.trod_struct Tryd.underlying155 hf
  rw [cells_rq] at hl
  match xs, hlen, cs, hl with
  | [y0, y1, y2], _, [v0, v1, v2], _ =>
    have g0 : DataW.trod enc Tryd.prog W base spare held n 51 [v0] = some y0 := by
      have g := hfs 0 _ rfl
      change DataW.trod enc Tryd.prog W base spare held n 51 (List.take (Tryd.prog.cellsOf 51) [v0, v1, v2]) = some y0 at g
      rw [show Tryd.prog.cellsOf 51 = 1 by kernel_rfl] at g
      exact g
    have g1 : DataW.trod enc Tryd.prog W base spare held n 51 [v1] = some y1 := by
      have g := hfs 1 _ rfl
      change DataW.trod enc Tryd.prog W base spare held n 51 (List.take (Tryd.prog.cellsOf 51) [v1, v2]) = some y1 at g
      rw [show Tryd.prog.cellsOf 51 = 1 by kernel_rfl] at g
      exact g
    have g2 : DataW.trod enc Tryd.prog W base spare held n 22 [v2] = some y2 := by
      have g := hfs 2 _ rfl
      change DataW.trod enc Tryd.prog W base spare held n 22 (List.take (Tryd.prog.cellsOf 22) [v2]) = some y2 at g
      rw [show Tryd.prog.cellsOf 22 = 1 by kernel_rfl] at g
      exact g
    obtain ⟨z0, e0, rfl, w0⟩ := DataW.trod_int Tryd.underlying51 g0
    obtain ⟨z1, e1, rfl, w1⟩ := DataW.trod_int Tryd.underlying51 g1
    obtain ⟨A, m, c, b, e2, hr, hbk⟩ := rd_cell g2
    simp only [List.cons.injEq, and_true] at e0 e1 e2
    subst e0 e1 e2
    have b0 := bounds_u64 w0
    have b1 := bounds_u64 w1
    subst hx
    simp only [List.map_cons, List.map_nil, Rows.uptoBulk, Rows.uptoBulkAll] at hb
    refine ⟨⟨z0.toNat, z1.toNat, A, m, c, b⟩, ?_, ⟨by simp only []; omega, by simp only []; omega, hr, by simp only []; omega⟩⟩
    simp only [RQ.cells]
    rw [show ((z0.toNat : Nat) : Int) = z0 by omega, show ((z1.toNat : Nat) : Int) = z1 by omega]

set_option maxRecDepth 100000 in
/-- What a []Request cell reads as. -/
theorem rqs_cell {cs : List Value} {d : DataW H × List MemPlace} {fuel : Nat}
    (hf : DataW.trod enc Tryd.prog W base spare held fuel 81 cs = some d) (hb : Rows.uptoBulk d.1 ≤ 1048576) :
    ∃ A n c qs, cs = [.slice A n c] ∧ RdQ W A n c qs ∧ n + 1 ≤ Rows.uptoBulk d.1 := by
  rcases Go.Deep.open_slice Tryd.underlying81 hf with ⟨hcs, hx⟩ | ⟨a, len0, cap0, m, n, D, Pl, hcs, _, hl, hm, hmm, hx, hel⟩
  · subst hcs hx
    exact ⟨none, 0, 0, [], rfl, ⟨rfl, Nat.le_refl _, by omega, (fun i hi => by simp at hi), fun o ho => by simp at ho⟩, by simp [Rows.uptoBulk]⟩
  · subst hcs
    have hlm : len0 ≤ m := by rw [hmm]; split <;> omega
    rw [cells_rq] at hel
    subst hx
    have hDb : ∀ i, i < len0 → Rows.uptoBulk (D i) ≤ 1048576 := fun i hi => by
      have h1 := bulks.part_le (d := D i) (l := (List.range len0).map D) (List.mem_map.2 ⟨i, List.mem_range.2 hi, rfl⟩)
      simp only [Rows.uptoBulk] at hb
      omega
    obtain ⟨qs, hol, hos⟩ := choose_list len0 (fun i (q : RQ) => (∃ b o', a = ⟨b, o', none⟩ ∧ W.cell? ⟨b, o' + i * 3, none⟩ = some (.int .u64 (q.client : Int)) ∧ W.cell? ⟨b, o' + i * 3 + 1, none⟩ = some (.int .u64 (q.seq : Int)) ∧ W.cell? ⟨b, o' + i * 3 + 2, none⟩ = some (.slice q.A q.n q.c)) ∧ RqOk W q) (fun i hi => by
      obtain ⟨cs', h1, h2⟩ := hel i (by omega)
      obtain ⟨q, rfl, hok⟩ := rq_open h2 (hDb i hi)
      obtain ⟨_, _, hcell⟩ := World.cells?_some h1
      refine ⟨q, ?_, hok⟩
      have hsp : a.spot = none := by
        obtain ⟨cs0, j1, j2⟩ := hel 0 (by omega)
        obtain ⟨oo, rfl, _⟩ := rq_open j2 (hDb 0 (by omega))
        obtain ⟨_, _, jc⟩ := World.cells?_some j1
        have h0 := jc 0 (by omega)
        rw [show (a.add (0 * 3)).add 0 = a by simp [Addr.add]] at h0
        have h0' : W.cell? a = some (.int .u64 (oo.client : Int)) := h0
        cases hs : a.spot with
        | none => rfl
        | some s =>
          exfalso
          simp only [World.cell?, hs, Option.isSome_some, if_true] at h0'
          split at h0' <;> simp at h0'
      obtain ⟨b, o', sp⟩ := a
      simp only at hsp
      subst hsp
      refine ⟨b, o', rfl, ?_⟩
      have ea : ∀ k, (⟨b, o', none⟩ : Addr).add k = ⟨b, o' + k, none⟩ := fun k => by unfold Addr.add; split <;> simp_all
      have eb : ∀ k, (⟨b, o' + i * 3, none⟩ : Addr).add k = ⟨b, o' + i * 3 + k, none⟩ := fun k => by unfold Addr.add; split <;> simp_all
      simp only [ea, eb] at hcell
      have c0 := hcell 0 (by omega)
      have c1 := hcell 1 (by omega)
      have c2 := hcell 2 (by omega)
      exact ⟨c0, c1, c2⟩)
    refine ⟨some a, len0, cap0, qs, rfl, ⟨hol, hl, by unfold maxLen at hm; omega, fun i hi => ?_, fun o ho => ?_⟩, ?_⟩
    · obtain ⟨⟨b, o', rfl, hc⟩, _⟩ := hos i hi
      exact ⟨b, o', rfl, hc⟩
    · obtain ⟨i, hi, rfl⟩ := List.getElem_of_mem ho
      exact (hos i hi).2
    · have := bulks.slice_le (H := H) ((List.range len0).map D) ((List.range (m - len0)).map fun j => D (len0 + j))
      have e : ((List.range len0).map D).length = len0 := by simp
      show len0 + 1 ≤ Rows.uptoBulk (DataW.slice ((List.range len0).map D) ((List.range (m - len0)).map fun j => D (len0 + j)))
      omega

set_option maxRecDepth 100000 in
/-- What a Batch's two cells read as. -/
theorem bt_cells {cs : List Value} {d : DataW H × List MemPlace} {fuel : Nat}
    (hf : DataW.trod enc Tryd.prog W base spare held fuel 83 cs = some d) (hb : Rows.uptoBulk d.1 ≤ 1048576) :
    ∃ st A n c qs, cs = [.int .u64 ((st : Nat) : Int), .slice A n c] ∧ st < 18446744073709551616 ∧ RdQ W A n c qs ∧ n + 1 ≤ Rows.uptoBulk d.1 := by
  obtain ⟨xs, n, _, hx, hl, hlen, hfs⟩ := DataW.trod_struct Tryd.underlying83 hf
  rw [cells_bt] at hl
  match xs, hlen, cs, hl with
  | [y0, y1], _, [v0, v1], _ =>
    have g0 : DataW.trod enc Tryd.prog W base spare held n 51 [v0] = some y0 := by
      have g := hfs 0 _ rfl
      change DataW.trod enc Tryd.prog W base spare held n 51 (List.take (Tryd.prog.cellsOf 51) [v0, v1]) = some y0 at g
      rw [show Tryd.prog.cellsOf 51 = 1 by kernel_rfl] at g
      exact g
    have g1 : DataW.trod enc Tryd.prog W base spare held n 81 [v1] = some y1 := by
      have g := hfs 1 _ rfl
      change DataW.trod enc Tryd.prog W base spare held n 81 (List.take (Tryd.prog.cellsOf 81) [v1]) = some y1 at g
      rw [show Tryd.prog.cellsOf 81 = 1 by kernel_rfl] at g
      exact g
    obtain ⟨z0, e0, rfl, w0⟩ := DataW.trod_int Tryd.underlying51 g0
    subst hx
    simp only [List.map_cons, List.map_nil, Rows.uptoBulk, Rows.uptoBulkAll] at hb ⊢
    obtain ⟨A, m, c, qs, e1, hr, hbk⟩ := rqs_cell g1 (by omega)
    simp only [List.cons.injEq, and_true] at e0 e1
    subst e0 e1
    have b0 := bounds_u64 w0
    refine ⟨z0.toNat, A, m, c, qs, ?_, by omega, hr, by omega⟩
    rw [show ((z0.toNat : Nat) : Int) = z0 by omega]

set_option maxRecDepth 100000 in
/-- What a Batch argument reads as. -/
theorem bt_open {v : Value} {d : DataW H} {p : List MemPlace} {base' : Nat}
    (hv : Value.okWide Tryd.prog W .any base' 83 v) (hd : ∃ fuel, DataW.trod enc Tryd.prog W base spare held fuel 83 v.cells.toList = some (d, p)) (hb : Rows.uptoBulk d ≤ 1048576) :
    ∃ st A n c qs, v = .agg #[.int .u64 ((st : Nat) : Int), .slice A n c] ∧ st < 18446744073709551616 ∧ RdQ W A n c qs ∧ n + 1 ≤ Rows.uptoBulk d := by
  obtain ⟨cs, rfl, hcs⟩ := okWide_struct Tryd.underlying83 hv
  obtain ⟨fuel, hf⟩ := hd
  obtain ⟨st, A, n, c, qs, e, h1, h2, h3⟩ := bt_cells hf hb
  refine ⟨st, A, n, c, qs, ?_, h1, h2, h3⟩
  have : (Value.agg cs).cells = cs := rfl
  rw [this] at e
  rw [← Array.toArray_toList (xs := cs), e]
end
end Go.Proofs.YtbhmnkpbaeemeaaDoor
