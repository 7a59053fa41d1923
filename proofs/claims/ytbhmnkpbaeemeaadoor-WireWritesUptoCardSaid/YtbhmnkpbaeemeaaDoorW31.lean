import Derived.Test.YtbhmnkpbaeemeaaDoorW30
set_option linter.unusedVariables false
set_option linter.unusedSimpArgs false
namespace Go.Proofs.YtbhmnkpbaeemeaaDoor
open Go.RowKit

/-- The two writers side by side, in the same state; all that is theirs lies above w0. -/
structure PW (w0 w : World) (P A : Option Addr) (c q : Nat) (A2 : Option Addr) (c2 : Nat) (s : WrS) : Prop where
  wn : WN w P A c s
  rw_ : Rw w q A2 c2 s
  new : ∀ k, wnF P A k → w0.heap.size ≤ k
  new2 : ∀ k, wrF q A2 k → w0.heap.size ≤ k
  sep : ∀ k, wnF P A k → ¬ wrF q A2 k
  bel : Below w0.heap.size w0 w

theorem Ob.front {w : World} {B : Nat} {A : Option Addr} {n m c : Nat} {xs ys : List UInt8} (h : Ob w B A m c (xs ++ ys)) (hn : xs.length = n) (hm : n ≤ m) : Ob w B A n c xs := by
  obtain ⟨hl, h2⟩ := h
  rw [bs_length, Nat.mul_one] at hl
  refine ⟨by rw [bs_length, Nat.mul_one]; exact hn, ?_⟩
  rcases h2 with ⟨e, h0⟩ | ⟨g, cap, cur, e, hB, hg, h1, h3, h4, h5⟩
  · cases e
    obtain rfl : n = 0 := by omega
    exact .inl ⟨rfl, rfl⟩
  · cases e
    refine .inr ⟨g, _, cur, rfl, hB, hg, by omega, h3, h4, ?_⟩
    rw [Nat.mul_one] at h5 ⊢
    have e2 : cur.toList.take n = (cur.toList.take m).take n := by rw [List.take_take, Nat.min_eq_left hm]
    rw [e2, h5, bs_append, List.take_left' (by rw [bs_length, hn])]

section
variable {w0 w w1 w2 w3 : World} {P A : Option Addr} {c q : Nat} {A2 : Option Addr} {c2 : Nat} {s s' : WrS}
theorem Rw.lt (h : Rw w q A2 c2 s) {k : Nat} (hk : wrF q A2 k) : k < w.heap.size := by
  rcases hk with rfl | hk
  · exact h.blk.lt
  · exact h.lt_ k hk

theorem PW.rd (h : PW w0 w P A c q A2 c2 s) {Ab : Option Addr} {n cb : Nat} {b : List UInt8} (hr : Rd w0 Ab n cb b) : Rd w Ab n cb b := hr.below h.bel
theorem PW.below (h : PW w0 w P A c q A2 c2 s) (hb : Below w.heap.size w w1) : PW w0 w1 P A c q A2 c2 s :=
  ⟨h.wn.chg (Chg.ofBelow hb fun _ => False) fun _ _ => id, h.rw_.below hb, h.new, h.new2, h.sep, below_then h.bel hb⟩
theorem PW.chg {F : Nat → Prop} (h : PW w0 w P A c q A2 c2 s) (hc : Chg w w1 F) (h1 : ∀ k, wnF P A k → ¬ F k) (h2 : ∀ k, wrF q A2 k → ¬ F k) (h3 : ∀ k, F k → w0.heap.size ≤ k) : PW w0 w1 P A c q A2 c2 s :=
  ⟨h.wn.chg hc h1, h.rw_.chg hc h2, h.new, h.new2, h.sep, h.bel.trans (hc.below h.bel.size fun i hi hf => by have := h3 i hf; omega)⟩
/-- The document's writer behind a call of the program's. -/
theorem PW.mid (h : PW w0 w P A c q A2 c2 s) (hq : WNPost w w1 P A s') : Rw w1 q A2 c2 s := by
  obtain ⟨A', c', h1, h2, h3⟩ := hq
  exact h.rw_.chg h2 fun k hk hw => h.sep k hw hk
theorem PW.step2 (h : PW w0 w P A c q A2 c2 s) (hq : WNPost w w1 P A s') (hr : RwPost w1 w2 q A2 s') : ∃ A' c' A2' c2', PW w0 w2 P A' c' q A2' c2' s' ∧ (∀ k, wnF P A' k → wnF P A k ∨ w.heap.size ≤ k) ∧ (∀ k, wrF q A2' k → wrF q A2 k ∨ w1.heap.size ≤ k) := by
  obtain ⟨A', c', h1, h2, h3⟩ := hq
  obtain ⟨A2', c2', r1, r2, r3⟩ := hr
  have hP : ∀ k, wnF P A' k → wnF P A k ∨ w.heap.size ≤ k := by
    intro k hk
    rcases hk with hk | hk
    · exact .inl (.inl hk)
    · rcases h3 k hk with hk | hk
      · exact .inl (.inr hk)
      · exact .inr hk
  have hQ : ∀ k, wrF q A2' k → wrF q A2 k ∨ w1.heap.size ≤ k := by
    intro k hk
    rcases hk with hk | hk
    · exact .inl (.inl hk)
    · rcases r3 k hk with hk | hk
      · exact .inl (.inr hk)
      · exact .inr hk
  have hq0 := h.rw_.lt (.inl rfl)
  have e1 : w0.heap.size ≤ w.heap.size := h.bel.size
  have e2 : w.heap.size ≤ w1.heap.size := h2.size
  refine ⟨A', c', A2', c2', ⟨h1.chg r2 ?_, r1, ?_, ?_, ?_, ?_⟩, hP, hQ⟩
  · intro k hk e
    rcases hP k hk with hk' | hk'
    · exact h.sep k hk' (.inl e)
    · omega
  · intro k hk
    rcases hP k hk with hk' | hk'
    · exact h.new k hk'
    · omega
  · intro k hk
    rcases hQ k hk with hk' | hk'
    · exact h.new2 k hk'
    · omega
  · intro k hk hk2
    have l1 := h1.lt hk
    rcases hQ k hk2 with hk2' | hk2'
    · rcases hP k hk with hk' | hk'
      · exact h.sep k hk' hk2'
      · have := h.rw_.lt hk2'
        omega
    · omega
  · refine (h.bel.trans (h2.below e1 fun i hi hf => ?_)).trans (r2.below (Nat.le_trans e1 e2) fun i hi hf => ?_)
    · have := h.new i hf
      omega
    · have := h.new2 i (.inl hf)
      omega
theorem PW.step (h : PW w0 w P A c q A2 c2 s) (hq : WNPost w w1 P A s') (hr : RwPost w1 w2 q A2 s') : ∃ A' c' A2' c2', PW w0 w2 P A' c' q A2' c2' s' := by
  obtain ⟨A', c', A2', c2', h, _⟩ := h.step2 hq hr
  exact ⟨A', c', A2', c2', h⟩
end
end Go.Proofs.YtbhmnkpbaeemeaaDoor
