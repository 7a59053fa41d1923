import Derived.Test.YtbhmnkpbaeemeaaDoorK1
import Derived.Test.YtbhmnkpbaeemeaaDoorK2
import Derived.Test.YtbhmnkpbaeemeaaDoorK3
set_option linter.unusedVariables false
set_option linter.unusedSimpArgs false
/-! # Sep -/
namespace Go.Proofs.YtbhmnkpbaeemeaaDoor
open Go.RowKit

/-! ## Pieces of memory that have nothing in common -/
/-- A piece of memory: the blocks that it takes, and what it says of a world. -/
structure Ch where
  F : Nat → Prop
  P : World → Prop
  lt : ∀ w, P w → ∀ k, F k → k < w.heap.size
  loc : ∀ w w' G, P w → Chg w w' G → (∀ k, F k → ¬ G k) → P w'

/-- All that is ours above w0: these pieces, with no block in common. -/
structure Sep (w0 w : World) (l : List Ch) : Prop where
  bel : Below w0.heap.size w0 w
  all : ∀ c ∈ l, c.P w
  sep : l.Pairwise fun c d => ∀ k, c.F k → ¬ d.F k
  new : ∀ c ∈ l, ∀ k, c.F k → w0.heap.size ≤ k

section
variable {w0 w w' : World} {l : List Ch} {a b c d e f g : Ch}
theorem Sep.start (w : World) : Sep w w [] := ⟨Below.refl _ _, fun _ h => by simp at h, .nil, fun _ h => by simp at h⟩
theorem Sep.h0 (h : Sep w0 w (a :: l)) : a.P w := h.all _ (.head _)
theorem Sep.tail (h : Sep w0 w (a :: l)) : Sep w0 w l := ⟨h.bel, fun c hc => h.all c (.tail _ hc), (List.pairwise_cons.1 h.sep).2, fun c hc => h.new c (.tail _ hc)⟩
theorem Sep.h1 (h : Sep w0 w (a :: b :: l)) : b.P w := h.tail.h0
theorem Sep.h2 (h : Sep w0 w (a :: b :: c :: l)) : c.P w := h.tail.h1
theorem Sep.h3 (h : Sep w0 w (a :: b :: c :: d :: l)) : d.P w := h.tail.h2
theorem Sep.h4 (h : Sep w0 w (a :: b :: c :: d :: e :: l)) : e.P w := h.tail.h3
theorem Sep.h5 (h : Sep w0 w (a :: b :: c :: d :: e :: f :: l)) : f.P w := h.tail.h4
theorem Sep.h6 (h : Sep w0 w (a :: b :: c :: d :: e :: f :: g :: l)) : g.P w := h.tail.h5

theorem sep_symm {c d : Ch} (h : ∀ k, c.F k → ¬ d.F k) : ∀ k, d.F k → ¬ c.F k := fun k hd hc => h k hc hd

theorem Sep.sw (h : Sep w0 w (a :: b :: l)) : Sep w0 w (b :: a :: l) := by
  have h1 := List.pairwise_cons.1 h.sep
  have h2 := List.pairwise_cons.1 h1.2
  refine ⟨h.bel, ?_, ?_, ?_⟩
  · intro c hc
    simp only [List.mem_cons] at hc
    exact h.all c (by simp only [List.mem_cons]; rcases hc with h | h | h <;> simp [h])
  · refine List.pairwise_cons.2 ⟨fun c hc => ?_, List.pairwise_cons.2 ⟨fun c hc => h1.1 c (.tail _ hc), h2.2⟩⟩
    rcases List.mem_cons.1 hc with rfl | hc
    · exact sep_symm (h1.1 b (.head _))
    · exact h2.1 c hc
  · intro c hc
    simp only [List.mem_cons] at hc
    exact h.new c (by simp only [List.mem_cons]; rcases hc with h | h | h <;> simp [h])
/-- Under the first piece another order. -/
theorem Sep.under {l l' : List Ch} (h : Sep w0 w (a :: l)) (k : Sep w0 w l → Sep w0 w l') (hm : ∀ c, c ∈ l' → c ∈ l) : Sep w0 w (a :: l') := by
  have h1 := List.pairwise_cons.1 h.sep
  have h2 := k h.tail
  refine ⟨h.bel, ?_, List.pairwise_cons.2 ⟨fun c hc => h1.1 c (hm c hc), h2.sep⟩, ?_⟩
  · intro c hc
    rcases List.mem_cons.1 hc with rfl | hc
    · exact h.h0
    · exact h2.all c hc
  · intro c hc
    rcases List.mem_cons.1 hc with rfl | hc
    · exact h.new _ (.head _)
    · exact h2.new c hc
theorem Sep.perm {l l' : List Ch} (h : Sep w0 w l) (p : l.Perm l') : Sep w0 w l' :=
  ⟨h.bel, fun c hc => h.all c (p.mem_iff.2 hc), (p.pairwise_iff fun {c d} h => sep_symm h).1 h.sep, fun c hc => h.new c (p.mem_iff.2 hc)⟩
theorem Sep.fr1 (h : Sep w0 w (a :: b :: l)) : Sep w0 w (b :: a :: l) := h.sw
theorem Sep.fr2 (h : Sep w0 w (a :: b :: c :: l)) : Sep w0 w (c :: a :: b :: l) := h.perm ((List.Perm.cons a (.swap c b l)).trans (.swap c a _))
theorem Sep.fr3 (h : Sep w0 w (a :: b :: c :: d :: l)) : Sep w0 w (d :: a :: b :: c :: l) := h.perm ((List.Perm.cons a ((List.Perm.cons b (.swap d c l)).trans (.swap d b _))).trans (.swap d a _))
theorem Sep.fr4 (h : Sep w0 w (a :: b :: c :: d :: e :: l)) : Sep w0 w (e :: a :: b :: c :: d :: l) := h.perm ((List.Perm.cons a ((List.Perm.cons b ((List.Perm.cons c (.swap e d l)).trans (.swap e c _))).trans (.swap e b _))).trans (.swap e a _))
theorem Sep.fr5 (h : Sep w0 w (a :: b :: c :: d :: e :: f :: l)) : Sep w0 w (f :: a :: b :: c :: d :: e :: l) := h.perm ((List.Perm.cons a ((List.Perm.cons b ((List.Perm.cons c ((List.Perm.cons d (.swap f e l)).trans (.swap f d _))).trans (.swap f c _))).trans (.swap f b _))).trans (.swap f a _))

/-- A call that touches the first piece alone, and what it left of it. -/
theorem Sep.mod (h : Sep w0 w (a :: l)) (hc : Chg w w' a.F) (b : Ch) (hb : b.P w') (hn : ∀ k, b.F k → a.F k ∨ w.heap.size ≤ k) : Sep w0 w' (b :: l) := by
  have h1 := List.pairwise_cons.1 h.sep
  refine ⟨?_, ?_, List.pairwise_cons.2 ⟨fun c hc' k hk hk' => ?_, h1.2⟩, ?_⟩
  · exact h.bel.trans (hc.below h.bel.size fun i hi hf => by have := h.new a (.head _) i hf; omega)
  · intro c hc'
    rcases List.mem_cons.1 hc' with rfl | hc'
    · exact hb
    · exact c.loc w w' _ (h.all c (.tail _ hc')) hc (fun k hk hk' => h1.1 c hc' k hk' hk)
  · rcases hn k hk with h2 | h2
    · exact h1.1 c hc' k h2 hk'
    · have := c.lt w (h.all c (.tail _ hc')) k hk'
      omega
  · intro c hc' k hk
    rcases List.mem_cons.1 hc' with rfl | hc'
    · rcases hn k hk with h2 | h2
      · exact h.new a (.head _) k h2
      · exact Nat.le_trans h.bel.size h2
    · exact h.new c (.tail _ hc') k hk
/-- A call that makes memory. -/
theorem Sep.kept (h : Sep w0 w l) (hb : Below w.heap.size w w') : Sep w0 w' l :=
  ⟨below_then h.bel hb, fun c hc => c.loc w w' (fun _ => False) (h.all c hc) (Chg.ofBelow hb _) (fun _ _ => id), h.sep, h.new⟩
theorem Sep.push (h : Sep w0 w l) (hb : Below w.heap.size w w') (b : Ch) (hP : b.P w') (hn : ∀ k, b.F k → w.heap.size ≤ k) : Sep w0 w' (b :: l) := by
  have hk := h.kept hb
  refine ⟨hk.bel, ?_, List.pairwise_cons.2 ⟨fun c hc k h1 h2 => ?_, hk.sep⟩, ?_⟩
  · intro c hc
    rcases List.mem_cons.1 hc with rfl | hc
    · exact hP
    · exact hk.all c hc
  · have := hn k h1
    have := c.lt w (h.all c hc) k h2
    omega
  · intro c hc k h1
    rcases List.mem_cons.1 hc with rfl | hc
    · exact Nat.le_trans h.bel.size (hn k h1)
    · exact hk.new c hc k h1
theorem Sep.drewN (h : Sep w0 w l) (n : Nat) : Sep w0 (w.drewN n) l := h.kept (below_drewN (Below.refl _ _) n)
theorem Sep.drew (h : Sep w0 w l) : Sep w0 w.drew l := h.drewN 1
theorem Sep.rd {A : Option Addr} {n c : Nat} {xs : List UInt8} (h : Sep w0 w l) (hr : Rd w0 A n c xs) : Rd w A n c xs := hr.below h.bel
/-- The first piece said otherwise. -/
theorem Sep.as (h : Sep w0 w (a :: l)) (b : Ch) (hb : b.P w) (hn : ∀ k, b.F k → a.F k) : Sep w0 w (b :: l) := h.mod (Chg.refl _ _) b hb fun k hk => .inl (hn k hk)
theorem Sep.d1 (h : Sep w0 w (a :: b :: l)) : Sep w0 w (a :: l) := h.sw.tail
end

/-! ### blocks and rows -/
def cBlk (g : Nat) (cs : Array Value) (e : TypeId) : Ch where
  F := (· = g)
  P w := Blk w g cs e
  lt w h k hk := by subst hk; exact h.lt
  loc w w' G h hc hF := h.chg hc (hF g rfl)
def cOb (A : Option Addr) (n c : Nat) (xs : List UInt8) : Ch where
  F := inA A
  P w := Ob w 0 A n c xs
  lt w h k hk := (h.lt hk).2
  loc w w' G h hc hF := h.chg hc hF

section
variable {w0 w w' : World} {l : List Ch}
theorem Sep.box (h : Sep w0 w l) (cs : Array Value) (e : TypeId) : Sep w0 (w.alloc (.cells cs e)) (cBlk w.heap.size cs e :: l) :=
  h.push ((Below.refl _ _).alloc (Nat.le_refl _) _) _ (Blk.new w cs e) fun k hk => Nat.le_of_eq hk.symm
theorem Sep.pushB {g : Nat} {cs : Array Value} {e : TypeId} (h : Sep w0 w l) (hb : Below w.heap.size w w') (hP : Blk w' g cs e) (hn : w.heap.size ≤ g) : Sep w0 w' (cBlk g cs e :: l) :=
  h.push hb _ hP fun k hk => by have : k = g := hk; omega
theorem Sep.pushO {A : Option Addr} {n c : Nat} {xs : List UInt8} (h : Sep w0 w l) (hb : Below w.heap.size w w') (hP : Ob w' w.heap.size A n c xs) : Sep w0 w' (cOb A n c xs :: l) :=
  h.push hb _ (hP.mono (Nat.zero_le _)) fun k hk => (hP.lt hk).1
theorem Sep.set {g : Nat} {cs : Array Value} {e : TypeId} (h : Sep w0 w (cBlk g cs e :: l)) (i : Nat) (v : Value) : Sep w0 (w.setCell ⟨g, i, none⟩ v) (cBlk g (cs.setIfInBounds i v) e :: l) := by
  refine h.mod ?_ _ (h.h0.set i v) fun k hk => .inl hk
  refine Chg.set (Chg.refl _ _) ?_ _
  exact fun _ => rfl
end
end Go.Proofs.YtbhmnkpbaeemeaaDoor

/-! # W35 -/
namespace Go.Proofs.YtbhmnkpbaeemeaaDoor
open Go.RowKit

/-! ## What a reader gives: plainly -/

/-- A look at a number: its value, how many bytes it has, and why it is none. -/
def peek : List UInt8 → Nat → Nat → Nat × Nat × Nat
  | [], _, _ => (0, 0, 20)
  | x :: l, i, v =>
    if i = 9 ∧ 1 < x.toNat then (0, 0, 26)
    else if x.toNat < 128 then (if x.toNat = 0 ∧ 0 < i then (0, 0, 26) else (v + x.toNat * 128 ^ i, i + 1, 0))
    else peek l (i + 1) (v + x.toNat % 128 * 128 ^ i)

theorem peek_small (l : List UInt8) : ∀ i v, i ≤ 9 → v < 128 ^ i → (peek l i v).1 < 18446744073709551616 ∧ ((peek l i v).2.2 = 0 → i + 1 ≤ (peek l i v).2.1 ∧ (peek l i v).2.1 ≤ i + l.length) ∧ ((peek l i v).2.2 ≠ 0 → (peek l i v).1 = 0) := by
  induction l with
  | nil => intro i v _ _; simp [peek]
  | cons x l ih =>
    intro i v hi hv
    have hx := x.toNat_lt
    unfold peek
    by_cases h1 : i = 9 ∧ 1 < x.toNat
    · rw [if_pos h1]; simp
    · rw [if_neg h1]
      by_cases h2 : x.toNat < 128
      · rw [if_pos h2]
        by_cases h3 : x.toNat = 0 ∧ 0 < i
        · rw [if_pos h3]; simp
        · rw [if_neg h3]
          refine ⟨?_, fun _ => ⟨Nat.le_refl _, by simp⟩, fun h => absurd rfl h⟩
          show v + x.toNat * 128 ^ i < _
          rcases Nat.lt_or_ge i 9 with h9 | h9
          · have e1 : 128 ^ i ≤ 128 ^ 8 := Nat.pow_le_pow_right (by omega) (by omega)
            have e2 : (128 : Nat) ^ 8 = 72057594037927936 := by decide
            have e3 : x.toNat * 128 ^ i ≤ 127 * 72057594037927936 := Nat.mul_le_mul (by omega) (by omega)
            omega
          · obtain rfl : i = 9 := by omega
            have e2 : (128 : Nat) ^ 9 = 9223372036854775808 := by decide
            rw [e2] at hv ⊢
            have : x.toNat ≤ 1 := by
              rcases Nat.lt_or_ge 1 x.toNat with h | h
              · exact absurd ⟨rfl, h⟩ h1
              · exact h
            omega
      · rw [if_neg h2]
        have h9 : i < 9 := by
          rcases Nat.lt_or_ge i 9 with h | h
          · exact h
          · exact absurd ⟨by omega, by omega⟩ h1
        have hm : x.toNat % 128 < 128 := Nat.mod_lt _ (by omega)
        have hlt : v + x.toNat % 128 * 128 ^ i < 128 ^ (i + 1) := by
          have : x.toNat % 128 * 128 ^ i ≤ 127 * 128 ^ i := Nat.mul_le_mul_right _ (by omega)
          rw [Nat.pow_succ]
          omega
        obtain ⟨r1, r2, r3⟩ := ih (i + 1) _ (by omega) hlt
        refine ⟨r1, fun h => ?_, r3⟩
        have := r2 h
        simp only [List.length_cons]
        omega

/-- A refusal at a place. -/
def RdS.no (s : RdS) (code : Nat) (a : Nat) : RdS := { s with bad := true, code := code, at_ := a, off := a }
def RdS.pk (s : RdS) : Nat × Nat × Nat := peek (s.buf.drop s.off) 0 0

def RdS.numV (s : RdS) : Nat := if s.stuck then 0 else s.pk.1
def RdS.numS (s : RdS) : RdS := if s.stuck then s else if s.pk.2.2 ≠ 0 then s.no s.pk.2.2 s.off else s.step s.pk.2.1

theorem pk_facts (s : RdS) (h : s.off ≤ s.buf.length) : s.pk.1 < 18446744073709551616 ∧ (s.pk.2.2 = 0 → 1 ≤ s.pk.2.1 ∧ s.off + s.pk.2.1 ≤ s.buf.length) ∧ (s.pk.2.2 ≠ 0 → s.pk.1 = 0) := by
  obtain ⟨h1, h2, h3⟩ := peek_small (s.buf.drop s.off) 0 0 (by omega) (by decide)
  refine ⟨h1, fun e => ?_, h3⟩
  have := h2 e
  simp only [List.length_drop] at this
  unfold RdS.pk
  omega

/-- A byte that may be 0 or 1. -/
def RdS.flagNo (s : RdS) : Bool := decide (s.off < s.buf.length ∧ 1 < (s.buf.getD s.off 0).toNat)
def RdS.flagV (s : RdS) : Bool := if s.stuck then false else if s.flagNo then false else s.sumV 1 == 1
def RdS.flagS (s : RdS) : RdS := if s.stuck then s else if s.flagNo then s.no 26 s.off else s.sumS 1

/-- The length of a list, at most so great. -/
def RdS.much (s : RdS) (most : Int) : Bool := decide (most < (s.pk.1 : Int))
def RdS.countV (s : RdS) (most : Int) : Nat := if s.stuck then 0 else if s.pk.2.2 ≠ 0 then 0 else if s.much most then 0 else s.pk.1
def RdS.countS (s : RdS) (most : Int) : RdS := if s.stuck then s else if s.pk.2.2 ≠ 0 then s.no s.pk.2.2 s.off else if s.much most then s.no 21 s.off else s.step s.pk.2.1

/-- Bytes with their number ahead. -/
def RdS.rest (s : RdS) : List UInt8 := s.buf.drop (s.off + s.pk.2.1)
def RdS.lacks (s : RdS) : Bool := decide (s.rest.length < s.pk.1)
def RdS.body (s : RdS) : List UInt8 := s.rest.take s.pk.1
def RdS.fits (s : RdS) (most : Int) : Bool := s.pk.2.2 == 0 && !s.much most && !s.lacks
def RdS.blobV (s : RdS) (most : Int) : List UInt8 := if s.stuck then [] else if s.fits most then s.body else []
def RdS.blobS (s : RdS) (most : Int) : RdS :=
  if s.stuck then s else if s.pk.2.2 ≠ 0 then s.no s.pk.2.2 s.off else if s.much most then s.no 21 s.off else if s.lacks then s.no 20 s.off else s.step (s.pk.2.1 + s.pk.1)
def RdS.textOk (s : RdS) (most : Int) : Bool := s.fits most && Lib.validD s.body
def RdS.textV (s : RdS) (most : Int) : List UInt8 := if s.stuck then [] else if s.textOk most then s.body else []
def RdS.textS (s : RdS) (most : Int) : RdS :=
  if s.stuck then s else if s.pk.2.2 ≠ 0 then s.no s.pk.2.2 s.off else if s.much most then s.no 21 s.off else if s.lacks then s.no 20 s.off else if Lib.validD s.body then s.step (s.pk.2.1 + s.pk.1) else s.no 27 s.off

/-- The first fault; the end. -/
def RdS.errC (s : RdS) : Int := if !s.made then 3 else if s.bad then s.code else 0
def RdS.errA (s : RdS) : Int := if !s.made then 0 else if s.bad then s.at_ else 0
def RdS.endC (s : RdS) : Int := if s.stuck then s.errC else if s.off < s.buf.length then 28 else 0
def RdS.endA (s : RdS) : Int := if s.stuck then s.errA else if s.off < s.buf.length then s.off else 0

/-- What holds of every state of a reader. -/
structure RdS.Ok (s : RdS) : Prop where
  le : s.off ≤ s.buf.length
  code : s.bad = decide (s.code ≠ 0)
  raw : s.made = false → s.buf = [] ∧ s.off = 0 ∧ s.bad = false
  small : s.buf.length ≤ 1000000000
  at0 : s.bad = false → s.at_ = 0

theorem RdS.Ok.no {s : RdS} (h : s.Ok) (hm : s.stuck = false) (code a : Nat) (hc : code ≠ 0) (ha : a ≤ s.buf.length) : (s.no code a).Ok :=
  ⟨ha, by simp [RdS.no]; omega, fun h' => by
    simp [RdS.no] at h'
    simp [RdS.stuck, h'] at hm, h.small, fun h' => by simp [RdS.no] at h'⟩
theorem RdS.Ok.step {s : RdS} (h : s.Ok) (hm : s.stuck = false) (n : Nat) (ha : s.off + n ≤ s.buf.length) : (s.step n).Ok :=
  ⟨ha, h.code, fun h' => by
    simp [RdS.step] at h'
    simp [RdS.stuck, h'] at hm, h.small, h.at0⟩
theorem RdS.Ok.sumS {s : RdS} (h : s.Ok) (n : Nat) : (s.sumS n).Ok := by
  unfold RdS.sumS
  cases hs : s.stuck
  · simp only [Bool.false_eq_true, if_false]
    split
    · exact h.no hs 20 s.off (by decide) h.le
    · exact h.step hs n (by omega)
  · exact h
theorem RdS.Ok.numS {s : RdS} (h : s.Ok) : s.numS.Ok := by
  unfold RdS.numS
  have hp := pk_facts s h.le
  cases hs : s.stuck
  · simp only [Bool.false_eq_true, if_false]
    split
    · rename_i h2; exact h.no hs _ s.off h2 h.le
    · rename_i h2; exact h.step hs _ (hp.2.1 (by omega)).2
  · exact h
theorem RdS.Ok.flagS {s : RdS} (h : s.Ok) : s.flagS.Ok := by
  unfold RdS.flagS
  cases hs : s.stuck
  · simp only [Bool.false_eq_true, if_false]
    split
    · exact h.no hs 26 s.off (by decide) h.le
    · exact h.sumS 1
  · exact h
theorem RdS.Ok.countS {s : RdS} (h : s.Ok) (most : Int) : (s.countS most).Ok := by
  unfold RdS.countS
  have hp := pk_facts s h.le
  cases hs : s.stuck
  · simp only [Bool.false_eq_true, if_false]
    split
    · rename_i h2; exact h.no hs _ s.off h2 h.le
    · rename_i h2
      split
      · exact h.no hs 21 s.off (by decide) h.le
      · exact h.step hs _ (hp.2.1 (by omega)).2
  · exact h
theorem RdS.lacks_false {s : RdS} (h : s.Ok) (h2 : s.pk.2.2 = 0) (h3 : s.lacks = false) : s.off + (s.pk.2.1 + s.pk.1) ≤ s.buf.length := by
  have hp := (pk_facts s h.le).2.1 h2
  simp [RdS.lacks, RdS.rest] at h3
  omega
theorem RdS.Ok.blobS {s : RdS} (h : s.Ok) (most : Int) : (s.blobS most).Ok := by
  unfold RdS.blobS
  cases hs : s.stuck
  · simp only [Bool.false_eq_true, if_false]
    split
    · rename_i h2; exact h.no hs _ s.off h2 h.le
    · rename_i h2
      split
      · exact h.no hs 21 s.off (by decide) h.le
      · split
        · exact h.no hs 20 s.off (by decide) h.le
        · rename_i h4; exact h.step hs _ (RdS.lacks_false h (by omega) (by simpa using h4))
  · exact h
theorem RdS.Ok.textS {s : RdS} (h : s.Ok) (most : Int) : (s.textS most).Ok := by
  unfold RdS.textS
  cases hs : s.stuck
  · simp only [Bool.false_eq_true, if_false]
    split
    · rename_i h2; exact h.no hs _ s.off h2 h.le
    · rename_i h2
      split
      · exact h.no hs 21 s.off (by decide) h.le
      · split
        · exact h.no hs 20 s.off (by decide) h.le
        · rename_i h4
          split
          · exact h.step hs _ (RdS.lacks_false h (by omega) (by simpa using h4))
          · exact h.no hs 27 s.off (by decide) h.le
  · exact h

/-! ### a reader of the program's that may be nil -/
def rnF (P A : Option Addr) (k : Nat) : Prop := inA P k ∨ inA A k
def RN (w : World) (P A : Option Addr) (c : Nat) (s : RdS) : Prop :=
  (P = none ∧ A = none ∧ s.made = false ∧ s.Ok) ∨ ∃ p, P = some ⟨p, 0, none⟩ ∧ Rdr w p A c s ∧ s.Ok
def cRN (P A : Option Addr) (c : Nat) (s : RdS) : Ch where
  F := rnF P A
  P w := RN w P A c s
  lt w h k hk := by
    rcases h with ⟨rfl, rfl, _⟩ | ⟨p, rfl, h, _⟩
    · rcases hk with ⟨a, e, _⟩ | ⟨a, e, _⟩ <;> cases e
    · rcases hk with hk | hk
      · rw [inA_some] at hk; subst hk; exact h.lt (.inl rfl)
      · exact h.lt (.inr hk)
  loc w w' G h hc hF := by
    rcases h with ⟨rfl, rfl, h1, h2⟩ | ⟨p, rfl, h, h2⟩
    · exact .inl ⟨rfl, rfl, h1, h2⟩
    · refine .inr ⟨p, rfl, h.chg hc fun k hk => hF k ?_, h2⟩
      rcases hk with rfl | hk
      · exact .inl (inA_some.2 rfl)
      · exact .inr hk
end Go.Proofs.YtbhmnkpbaeemeaaDoor

/-! # Plain1 -/
namespace Go.Proofs.YtbhmnkpbaeemeaaDoor
open Go.RowKit

/-! ## What was laid down is read back: plainly -/
theorem peek_num (rest : List UInt8) : ∀ (k v i acc : Nat), v ≤ k → v * 128 ^ i < 18446744073709551616 → (i = 0 ∨ v ≠ 0) → i ≤ 9 → peek (numB v ++ rest) i acc = (acc + v * 128 ^ i, i + (numB v).length, 0) := by
  intro k
  induction k with
  | zero =>
    intro v i acc hk hv hi h9
    obtain rfl : v = 0 := by omega
    have e1 : (lastB 0).toNat = 0 := lastB_toNat 0 (by omega)
    rw [numB_lt 0 (by omega)]
    obtain rfl : i = 0 := by omega
    simp [peek, e1]
  | succ k ih =>
    intro v i acc hk hv hi h9
    have hn9 : i = 9 → v < 2 := fun e => by
      subst e
      have e2 : (128 : Nat) ^ 9 = 9223372036854775808 := by decide
      rw [e2] at hv
      omega
    by_cases h : v < 128
    · have e1 : (lastB v).toNat = v := lastB_toNat v (by omega)
      rw [numB_lt v h]
      show peek (lastB v :: rest) i acc = _
      unfold peek
      rw [e1, if_neg (fun hh => by have := hn9 hh.1; omega), if_pos h, if_neg (fun hh => by omega)]
      rfl
    · have e1 : (contB v).toNat = v % 128 + 128 := contB_toNat v
      rw [numB_ge v (by omega)]
      show peek (contB v :: (numB (v / 128) ++ rest)) i acc = _
      unfold peek
      rw [e1, if_neg (fun hh => by have := hn9 hh.1; omega), if_neg (by omega)]
      have hi9 : i ≠ 9 := fun e => by have := hn9 e; omega
      have hp : v / 128 * 128 ^ (i + 1) ≤ v * 128 ^ i := by
        rw [Nat.pow_succ, Nat.mul_comm (128 ^ i), ← Nat.mul_assoc]
        exact Nat.mul_le_mul_right _ (Nat.div_mul_le_self v 128)
      rw [ih (v / 128) (i + 1) _ (by omega) (by omega) (.inr (by omega)) (by omega)]
      have e3 : acc + (v % 128 + 128) % 128 * 128 ^ i + v / 128 * 128 ^ (i + 1) = acc + v * 128 ^ i := by
        rw [show (v % 128 + 128) % 128 = v % 128 by omega, Nat.pow_succ, Nat.mul_comm (128 ^ i), ← Nat.mul_assoc, Nat.add_assoc, ← Nat.add_mul]
        rw [show v % 128 + v / 128 * 128 = v by omega]
      rw [e3]
      simp only [List.length_cons]
      rw [show i + 1 + (numB (v / 128)).length = i + ((numB (v / 128)).length + 1) by omega]

theorem peek_at (b : List UInt8) (o i v : Nat) (h : o + i < b.length) : peek (b.drop (o + i)) i v =
    if i = 9 ∧ 1 < ((b[o + i]'h).toNat) then (0, 0, 26)
    else if (b[o + i]'h).toNat < 128 then (if (b[o + i]'h).toNat = 0 ∧ 0 < i then (0, 0, 26) else (v + (b[o + i]'h).toNat * 128 ^ i, i + 1, 0))
    else peek (b.drop (o + (i + 1))) (i + 1) (v + (b[o + i]'h).toNat % 128 * 128 ^ i) := by
  rw [List.drop_eq_getElem_cons h]
  rfl
theorem peek_end (b : List UInt8) (o i v : Nat) (h : b.length ≤ o + i) : peek (b.drop (o + i)) i v = (0, 0, 20) := by
  rw [List.drop_eq_nil_of_le h]
  rfl
end Go.Proofs.YtbhmnkpbaeemeaaDoor

/-! # W36 -/
namespace Go.Proofs.YtbhmnkpbaeemeaaDoor
open Go.RowKit

theorem Ob.form' {w : World} {B : Nat} {A : Option Addr} {n c : Nat} {xs : List UInt8} (h : Ob w B A n c xs) : (A = none ∧ n = 0 ∧ c = 0) ∨ ∃ g, A = some ⟨g, 0, none⟩ ∧ B ≤ g := by
  obtain ⟨h1, h2⟩ := h
  rcases h2 with ⟨e, h2⟩ | ⟨g, cap, cur, e, hg, r⟩
  · cases e
    exact .inl ⟨rfl, h2, rfl⟩
  · cases e
    exact .inr ⟨g, rfl, hg⟩

theorem and127 (X : Nat) (h : X < 256) : bits .and .u8 (X : Int) 127 = ((X % 128 : Nat) : Int) := by
  rw [u8_and _ _ (by omega) (by omega) (by omega) (by omega)]
  show (((X : Int).toNat &&& (127 : Int).toNat : Nat) : Int) = _
  rw [Int.toNat_natCast]
  exact congrArg _ (Nat.and_two_pow_sub_one_eq_mod X 7)

theorem orGroup (V X k : Nat) (hV : V < 128 ^ k) (h9 : k ≤ 9) (hx : k = 9 → X % 128 ≤ 1) :
    bits .or .u64 (V : Int) (IntKind.u64.wrap ((X : Int) % 128 * 2 ^ (7 * k))) = ((V + X % 128 * 128 ^ k : Nat) : Int) := by
  have hp : (128 : Nat) ^ k = 2 ^ (7 * k) := by rw [Nat.pow_mul]
  have hm : X % 128 < 128 := Nat.mod_lt _ (by omega)
  have hle : (128 : Nat) ^ k ≤ 128 ^ 9 := Nat.pow_le_pow_right (by omega) h9
  have h9v : (128 : Nat) ^ 9 = 9223372036854775808 := by decide
  have hlt : X % 128 * 128 ^ k < 18446744073709551616 := by
    rcases Nat.lt_or_ge k 9 with h | h
    · have e1 : 128 ^ k ≤ 128 ^ 8 := Nat.pow_le_pow_right (by omega) (by omega)
      have e2 : (128 : Nat) ^ 8 = 72057594037927936 := by decide
      have e3 : X % 128 * 128 ^ k ≤ 127 * 72057594037927936 := Nat.mul_le_mul (by omega) (by omega)
      omega
    · obtain rfl : k = 9 := by omega
      have := hx rfl
      rw [h9v]
      omega
  have e1 : (X : Int) % 128 * 2 ^ (7 * k) = ((X % 128 * 128 ^ k : Nat) : Int) := by
    rw [hp, Int.natCast_mul, Int.natCast_pow]
    rfl
  have e2 : IntKind.u64.wrap ((X % 128 * 128 ^ k : Nat) : Int) = ((X % 128 * 128 ^ k : Nat) : Int) := by
    simp only [IntKind.wrap, IntKind.signed, IntKind.bits, Bool.false_eq_true, if_false]
    exact Int.emod_eq_of_lt (by omega) (by omega)
  rw [e1, e2, u64_or _ _ (by omega) (by omega) (by omega) (by omega), Int.toNat_natCast, Int.toNat_natCast, Nat.or_comm, nat_join (7 * k) _ V (by rw [hp]; exact Nat.mul_mod_left _ _) (by rw [← hp]; exact hV), Nat.add_comm]

def PkPost (s : RdS) (w : World) (e : Ending) (w' : World) : Prop :=
  e = .returned (.tuple #[.int .u64 (s.pk.1 : Int), .int .i64 (s.pk.2.1 : Int), .int .i64 (s.pk.2.2 : Int)]) ∧ ∃ n, w' = w.drewN n
theorem pkPost (s : RdS) (w : World) {a : Int} {b c : Int} (v n code : Nat) (h : s.pk = (v, n, code)) (ha : a = v) (hb : b = n) (hc : c = code) (q : Nat) :
    PkPost s w (.returned (.tuple #[.int .u64 a, .int .i64 b, .int .i64 c])) (w.drewN q) := by
  subst ha hb hc
  unfold PkPost
  rw [h]
  exact ⟨rfl, q, rfl⟩

set_option maxRecDepth 100000 in
theorem peek_any (w : World) (p : Nat) (A : Option Addr) (c : Nat) (s : RdS) (h : Rdr w p A c s) :
    Calls Tryd.prog 141 #[.pointer (some ⟨p, 0, none⟩)] w (PkPost s w) := by
  have c4 : w.cell? ⟨p, 4, none⟩ = some (.slice A s.buf.length c) := h.blk.cell 4
  have c5 : w.cell? ⟨p, 5, none⟩ = some (.int .i64 (s.off : Int)) := h.blk.cell 5
  have hle := h.le
  have hsm := h.small
  have hcap := h.row.rd.le
  have hmx := h.row.rd.max
  have HB := Lib.hid h.row.rd.at_
  rcases Nat.lt_or_ge s.off s.buf.length with hlt | hge
  · obtain ⟨g, rfl, _⟩ := h.row.form (by omega)
    clear h
    have hc : s.off < c := by omega
    go_enter Tryd.func141, Tryd.ntmps141
    go_wp2
    go_quiet (fail)
    go_wp2
    go_loop [5, 18] (fun v i => ∃ k V : Nat, k ≤ s.buf.length - s.off ∧ i = .int .i64 k ∧ v = .int .u64 (V : Int) ∧ Hid (s.pk = peek (s.buf.drop (s.off + k)) k V) ∧ V < 128 ^ k ∧ k ≤ 9) (fun _ i => s.buf.length - s.off - (intOf i).toNat)
    case atStart => exact ⟨0, 0, Nat.zero_le _, rfl, rfl, rfl, by decide, by decide⟩
    case round =>
      obtain ⟨k, V, hk, rfl, rfl, HPK, hV, h9⟩ := hrel
      by_cases hlt : k < s.buf.length - s.off
      · obtain ⟨b, o, e, hcell⟩ := HB.out (s.off + k) (by omega)
        cases e
        rw [Nat.zero_add] at hcell
        have hX := (s.buf[s.off + k]'(by omega)).toNat_lt
        have HPE := Lib.hid (peek_at s.buf s.off k V (by omega))
        generalize (s.buf[s.off + k]'(by omega)).toNat = X at *
        have ha := and127 X hX
        by_cases h1 : k = 9 ∧ 1 < X
        · have HP := Lib.hid (HPK.out.trans (HPE.out.trans (if_pos h1)))
          obtain ⟨rfl, h1⟩ := h1
          clear HPE HPK
          go_wp2
          go_ret3
          exact pkPost s w _ _ _ HP.out rfl rfl rfl _
        · have HV := Lib.hid (orGroup V X k hV h9 (fun e => by
            have : X ≤ 1 := by
              rcases Nat.lt_or_ge 1 X with h | h
              · exact absurd ⟨e, h⟩ h1
              · exact h
            omega))
          rw [if_neg h1] at HPE
          have hor := HV.out
          by_cases h2 : X < 128
          · by_cases h3 : X = 0 ∧ 0 < k
            · have HP := Lib.hid (HPK.out.trans (HPE.out.trans ((if_pos h2).trans (if_pos h3))))
              obtain ⟨rfl, h3⟩ := h3
              clear HPE HPK h1 HV
              go_wp2
              all_goals
                go_ret3
                exact pkPost s w _ _ _ HP.out rfl rfl rfl _
            · have HP := Lib.hid (HPK.out.trans (HPE.out.trans ((if_pos h2).trans (if_neg h3))))
              have hxm : X % 128 = X := Nat.mod_eq_of_lt h2
              rw [hxm] at hor HV; clear hxm
              rcases Nat.lt_or_ge k 9 with hk9 | hk9
              · rcases Nat.eq_zero_or_pos X with rfl | hX0
                · obtain rfl : k = 0 := by
                    rcases Nat.eq_zero_or_pos k with h | h
                    · exact h
                    · exact absurd ⟨rfl, h⟩ h3
                  obtain rfl : V = 0 := by simp at hV; exact hV
                  rw [Nat.add_zero] at hcell
                  have ha' : bits .and .u8 0 127 = 0 := by have := and127 0 (by omega); simpa using this
                  have hor' : bits .or .u64 0 0 = 0 := by rw [u64_or _ _ (by decide) (by decide) (by decide) (by decide)]; rfl
                  clear HPE HPK h1 h3 HV hor ha
                  go_wp2
                  all_goals
                    go_ret3
                    exact pkPost s w _ _ _ HP.out rfl rfl rfl _
                · have g1 : ((X : Int) == 0) = false := by simp; omega
                  have g2 : ((k : Int) == 9) = false := by simp; omega
                  clear HPE HPK h1 h3 HV
                  go_wp2
                  all_goals
                    go_ret3
                    refine pkPost s w (V + X * 128 ^ k) (k + 1) 0 HP.out ?_ ?_ rfl _
                    · simp
                    · simp
              · obtain rfl : k = 9 := by omega
                obtain rfl : X = 1 := by
                  have : X ≤ 1 := by
                    rcases Nat.lt_or_ge 1 X with h | h
                    · exact absurd ⟨rfl, h⟩ h1
                    · exact h
                  omega
                have h9v : (128 : Nat) ^ 9 = 9223372036854775808 := by decide
                rw [h9v] at HV hV HP
                have hor' : bits .or .u64 (V : Int) 9223372036854775808 = (V : Int) + 9223372036854775808 := by
                  have := HV.out
                  have e2 : IntKind.u64.wrap (((1 : Nat) : Int) % 128 * 2 ^ (7 * 9)) = 9223372036854775808 := by decide
                  rw [e2] at this
                  rw [this]
                  omega
                have ha' : bits .and .u8 1 127 = 1 := by have := and127 1 (by omega); simpa using this
                clear HPE HPK h1 h3 HV hor h9v ha
                go_wp2
                all_goals
                  go_ret3
                  refine pkPost s w _ _ 0 HP.out ?_ ?_ rfl _
                  · simp
                  · simp
          · have hk9 : k ≠ 9 := fun e => h1 ⟨e, by omega⟩
            have g2 : (((k : Int) == 9) && decide ((1 : Int) < (X : Int))) = false := by simp; omega
            rw [if_neg h2] at HPE
            have HP := Lib.hid (HPK.out.trans HPE.out)
            have HV1 : Hid (V + X % 128 * 128 ^ k < 128 ^ (k + 1)) := by
              have : X % 128 * 128 ^ k ≤ 127 * 128 ^ k := Nat.mul_le_mul_right _ (by omega)
              show _ < _
              rw [Nat.pow_succ]
              omega
            clear HPE HPK h1
            go_wp2
            go_round
            case rel => exact ⟨k + 1, _, by omega, by go_num, by simp, HP.out, HV1.out, by omega⟩
            case measure => simp [intOf]; omega
      · have HP : Hid (s.pk = (0, 0, 20)) := HPK.out.trans (peek_end _ _ _ _ (by omega))
        clear HPK
        go_wp2
        go_ret3
        exact pkPost s w _ _ _ HP.out rfl rfl rfl _
  · have HP : Hid (s.pk = (0, 0, 20)) := peek_end s.buf s.off 0 0 (by omega)
    obtain heq : s.off = s.buf.length := by omega
    rw [heq] at c5
    clear hle hge
    rcases h.row.form' with ⟨rfl, hn, rfl⟩ | ⟨g, rfl, _⟩
    · rw [hn] at c4 c5
      clear hn h hcap hsm heq HB
      go_enter Tryd.func141, Tryd.ntmps141
      go_wp2
      go_quiet (fail)
      go_wp2
      refine wp_loop_rounds 1 ?_
      rw [rounds_succ]
      go_wp2
      go_ret3
      exact pkPost s w _ _ _ HP.out rfl rfl rfl _
    · clear h heq HB
      generalize s.buf.length = n at *
      by_cases hc : c = n
      · subst hc
        go_enter Tryd.func141, Tryd.ntmps141
        go_wp2
        go_quiet (fail)
        go_wp2
        refine wp_loop_rounds 1 ?_
        rw [rounds_succ]
        go_wp2
        go_ret3
        exact pkPost s w _ _ _ HP.out rfl rfl rfl _
      · have hlt : n < c := by omega
        clear hc
        go_enter Tryd.func141, Tryd.ntmps141
        go_wp2
        go_quiet (fail)
        go_wp2
        refine wp_loop_rounds 1 ?_
        rw [rounds_succ]
        go_wp2
        go_ret3
        exact pkPost s w _ _ _ HP.out rfl rfl rfl _
end Go.Proofs.YtbhmnkpbaeemeaaDoor

/-! # W37 -/
namespace Go.Proofs.YtbhmnkpbaeemeaaDoor
open Go.RowKit

def FailAt (w : World) (p : Nat) (code a : Int) : Prop :=
  Calls Tryd.prog 133 #[.pointer (some ⟨p, 0, none⟩), .int .i64 code, .int .i64 a] w fun e w' => e = .returned (.tuple #[]) ∧
    w' = ((w.setCell ⟨p, 1, none⟩ (.bool true)).setCell ⟨p, 2, none⟩ (.int .i64 code)).setCell ⟨p, 3, none⟩ (.int .i64 a)

section
variable {w : World} {p : Nat} {A : Option Addr} {c : Nat} {s : RdS}
theorem Rdr.stuckC (h : Rdr w p A c s) {b : Bool} (hs : s.stuck = b) : Calls Tryd.prog 132 #[.pointer (some ⟨p, 0, none⟩)] w fun e w' => e = .returned (.bool b) ∧ w = w' := by
  have S := stuck_any w p s.made s.bad ((h.blk.cell 0).trans rfl) ((h.blk.cell 1).trans rfl)
  rw [show (!s.made || s.bad) = b from hs] at S
  exact S
theorem Rdr.failC (h : Rdr w p A c s) (hs : s.stuck = false) (code a : Int) : FailAt w p code a :=
  fail_good w p code a _ _ h.blk (by show some (Value.bool s.bad) = _; rw [show s.bad = false by unfold RdS.stuck at hs; simp at hs; exact hs.2]) (by show 3 < 6; omega)

theorem Num_stuck (h : Rdr w p A c s) (hs : s.stuck = true) :
    Calls Tryd.prog 88 #[.pointer (some ⟨p, 0, none⟩)] w fun e w' => e = .returned (.int .u64 0) ∧ w = w' := by
  have HS := Lib.hid (h.stuckC hs)
  clear h hs
  go_enter Tryd.func88, Tryd.ntmps88
  go_wp2_with (go_at_call 132; refine HS.out.mono ?_; rintro e w' ⟨rfl, rfl⟩)
  go_ret
  exact ⟨rfl, rfl⟩

theorem Num_no (h : Rdr w p A c s) (hs : s.stuck = false) (hc : s.pk.2.2 ≠ 0) :
    Calls Tryd.prog 88 #[.pointer (some ⟨p, 0, none⟩)] w fun e w' => e = .returned (.int .u64 0) ∧ Rdr w' p A c (s.no s.pk.2.2 s.off) ∧ Chg w w' (· = p) := by
  have HS := Lib.hid (h.stuckC hs)
  have HK := Lib.hid (peek_any w p A c s h)
  have c5 : w.cell? ⟨p, 5, none⟩ = some (.int .i64 (s.off : Int)) := h.blk.cell 5
  have FF : ∀ k, Hid (FailAt (w.drewN k) p s.pk.2.2 s.off) := fun k => (h.drewN k).failC hs _ _
  have hcb : ((s.pk.2.2 : Int) != 0) = true := by simp; omega
  have H := Lib.hid h
  clear h hs hc
  unfold PkPost at HK
  unfold FailAt at FF
  have fin : ∀ q, Rdr ((((w.drewN q).setCell ⟨p, 1, none⟩ (.bool true)).setCell ⟨p, 2, none⟩ (.int .i64 s.pk.2.2)).setCell ⟨p, 3, none⟩ (.int .i64 (s.off : Int))) p A c (s.no s.pk.2.2 s.off) := fun q => (H.out.drewN q).failed _ _
  have Fin := Lib.hid fin; clear fin
  generalize s.pk = pk at *
  obtain ⟨v, n, code⟩ := pk
  simp only at *
  go_enter Tryd.func88, Tryd.ntmps88
  go_wp2_with first | (go_at_call 132; refine HS.out.mono ?_; rintro e w' ⟨rfl, rfl⟩) | (go_at_call 141; refine HK.out.mono ?_; rintro e w' ⟨rfl, q, rfl⟩)
  go_region_with (go_at_call 133; refine (FF (q + 1)).out.mono ?_; rintro e w' ⟨rfl, rfl⟩)
  all_goals
    go_wp2
    go_ret
    exact ⟨rfl, Fin.out (q + 1), ((Chg.refl _ _).drewN (q + 1)).trans' (chg_failed1 _ p _ _)⟩

theorem Num_yes (h : Rdr w p A c s) (hs : s.stuck = false) (hc : s.pk.2.2 = 0) :
    Calls Tryd.prog 88 #[.pointer (some ⟨p, 0, none⟩)] w fun e w' => e = .returned (.int .u64 (s.pk.1 : Int)) ∧ Rdr w' p A c (s.step s.pk.2.1) ∧ Chg w w' (· = p) := by
  have HS := Lib.hid (h.stuckC hs)
  have HK := Lib.hid (peek_any w p A c s h)
  have c5 : w.cell? ⟨p, 5, none⟩ = some (.int .i64 (s.off : Int)) := h.blk.cell 5
  have f5 := h.blk.frozen 5
  have hpk := ((pk_facts s h.le).2.1 hc).2
  have hsm := h.small
  have fin : ∀ q, Rdr ((w.drewN q).setCell ⟨p, 5, none⟩ (.int .i64 ((s.off : Int) + (s.pk.2.1 : Int)))) p A c (s.step s.pk.2.1) := fun q => by
    have := (h.drewN q).moved (s.off + s.pk.2.1) hpk
    rw [Int.natCast_add] at this
    exact this
  have Fin := Lib.hid fin; clear fin
  clear h hs
  unfold PkPost at HK
  generalize s.pk = pk at *
  obtain ⟨v, n, code⟩ := pk
  simp only at *
  subst hc
  go_enter Tryd.func88, Tryd.ntmps88
  go_wp2_with first | (go_at_call 132; refine HS.out.mono ?_; rintro e w' ⟨rfl, rfl⟩) | (go_at_call 141; refine HK.out.mono ?_; rintro e w' ⟨rfl, q, rfl⟩)
  go_ret
  refine ⟨rfl, Fin.out q, ?_⟩
  refine Chg.set ((Chg.refl _ _).drewN q) ?_ _
  exact fun _ => rfl

theorem rdNum_any (h : Rdr w p A c s) :
    Calls Tryd.prog 88 #[.pointer (some ⟨p, 0, none⟩)] w fun e w' => e = .returned (.int .u64 (s.numV : Int)) ∧ Rdr w' p A c s.numS ∧ Chg w w' (· = p) := by
  unfold RdS.numV RdS.numS
  by_cases hs : s.stuck = true
  · rw [if_pos hs, if_pos hs]
    refine (Num_stuck h hs).mono ?_
    rintro e w' ⟨rfl, rfl⟩
    exact ⟨rfl, h, Chg.refl _ _⟩
  · rw [if_neg hs, if_neg hs]
    have hs' : s.stuck = false := by simpa using hs
    by_cases hc : s.pk.2.2 = 0
    · rw [if_neg (by omega)]
      exact Num_yes h hs' hc
    · rw [if_pos hc]
      refine (Num_no h hs' hc).mono ?_
      rintro e w' ⟨rfl, h1, h2⟩
      exact ⟨by rw [(pk_facts s h.le).2.2 hc]; rfl, h1, h2⟩
end
end Go.Proofs.YtbhmnkpbaeemeaaDoor

/-! # W38 -/
namespace Go.Proofs.YtbhmnkpbaeemeaaDoor
open Go.RowKit

/-! ## the reader of the reference -/
structure Rr (w : World) (q : Nat) (A : Option Addr) (c : Nat) (s : RdS) : Prop where
  blk : Blk w q #[.bool s.made, .slice A s.buf.length c, .int .i64 (s.off : Int), .int .i64 s.code, .int .i64 s.at_] 67
  row : Ob w 0 A s.buf.length c s.buf
  ne : ¬ inA A q
  ok : s.Ok

section
variable {w w' : World} {q : Nat} {A : Option Addr} {c : Nat} {s : RdS}
theorem Rr.chg {F : Nat → Prop} (h : Rr w q A c s) (hc : Chg w w' F) (hF : ∀ k, wrF q A k → ¬ F k) : Rr w' q A c s :=
  ⟨h.blk.chg hc (hF _ (.inl rfl)), h.row.chg hc fun k hk => hF k (.inr hk), h.ne, h.ok⟩
theorem Rr.below (h : Rr w q A c s) (hc : Below w.heap.size w w') : Rr w' q A c s := h.chg (Chg.ofBelow hc fun _ => False) fun _ _ => id
theorem Rr.drewN (h : Rr w q A c s) (n : Nat) : Rr (w.drewN n) q A c s := ⟨h.blk, h.row, h.ne, h.ok⟩
theorem Rr.lt (h : Rr w q A c s) {k : Nat} (hk : wrF q A k) : k < w.heap.size := by
  rcases hk with rfl | hk
  · exact h.blk.lt
  · exact (h.row.lt hk).2
/-- What a fault leaves. -/
def failW (w : World) (q : Nat) (code a : Int) : World := ((w.setCell ⟨q, 2, none⟩ (.int .i64 a)).setCell ⟨q, 3, none⟩ (.int .i64 code)).setCell ⟨q, 4, none⟩ (.int .i64 a)
theorem chg_failW (w : World) (q : Nat) (code a : Int) : Chg w (failW w q code a) (· = q) := by
  refine Chg.set (Chg.set (Chg.set (Chg.refl _ _) ?_ _) ?_ _) ?_ _ <;> exact fun _ => rfl
theorem Rr.failed (h : Rr w q A c s) (hs : s.stuck = false) (code a : Nat) (hc : code ≠ 0) (ha : a ≤ s.buf.length) : Rr (failW w q code a) q A c (s.no code a) := by
  refine ⟨?_, h.row.chg (chg_failW w q _ _) (fun k hk e => h.ne (by subst e; exact hk)), h.ne, h.ok.no hs code a hc ha⟩
  exact ((h.blk.set 2 (.int .i64 a)).set 3 (.int .i64 code)).set 4 (.int .i64 a)
theorem Rr.moved (h : Rr w q A c s) (hs : s.stuck = false) (n : Nat) (ho : s.off + n ≤ s.buf.length) : Rr (w.setCell ⟨q, 2, none⟩ (.int .i64 ((s.off : Int) + (n : Int)))) q A c (s.step n) := by
  have hc : Chg w (w.setCell ⟨q, 2, none⟩ (.int .i64 ((s.off : Int) + (n : Int)))) (· = q) := by
    refine Chg.set (Chg.refl _ _) ?_ _
    exact fun _ => rfl
  refine ⟨?_, h.row.chg hc (fun k hk e => h.ne (by subst e; exact hk)), h.ne, h.ok.step hs n ho⟩
  rw [← Int.natCast_add]
  exact h.blk.set 2 _
theorem chg_at (w : World) (q i : Nat) (v : Value) : Chg w (w.setCell ⟨q, i, none⟩ v) (· = q) := by
  refine Chg.set (Chg.refl _ _) ?_ _
  exact fun _ => rfl

theorem Dead_any (h : Rr w q A c s) {b : Bool} (hs : s.stuck = b) :
    Calls Tryd.prog 142 #[.pointer (some ⟨q, 0, none⟩)] w fun e w' => e = .returned (.bool b) ∧ w = w' := by
  subst hs
  have c0 : w.cell? ⟨q, 0, none⟩ = some (.bool s.made) := h.blk.cell 0
  have c3 : w.cell? ⟨q, 3, none⟩ = some (.int .i64 s.code) := h.blk.cell 3
  have hb : (s.code != 0) = s.bad := by have := h.ok.code; rw [this]; simp [bne, BEq.beq]
  have hst : s.stuck = (!s.made || s.bad) := rfl
  have Hst := Lib.hid hst
  rw [hst]
  clear h hst
  generalize s.made = m at *
  generalize s.bad = bd at *
  generalize s.code = cd at *
  cases m
  all_goals
    go_enter Tryd.func142, Tryd.ntmps142
    go_wp2
    go_ret
    exact ⟨rfl, rfl⟩

theorem Left_any (h : Rr w q A c s) :
    Calls Tryd.prog 100 #[.pointer (some ⟨q, 0, none⟩)] w fun e w' => e = .returned (.int .i64 ((s.buf.length - s.off : Nat) : Int)) ∧ ∃ n, w' = w.drewN n := by
  have c0 : w.cell? ⟨q, 0, none⟩ = some (.bool s.made) := h.blk.cell 0
  have c1 : w.cell? ⟨q, 1, none⟩ = some (.slice A s.buf.length c) := h.blk.cell 1
  have c2 : w.cell? ⟨q, 2, none⟩ = some (.int .i64 (s.off : Int)) := h.blk.cell 2
  have hle := h.ok.le
  have hsm := h.ok.small
  cases hm : s.made
  · have hr := h.ok.raw hm
    have hz : ((s.buf.length - s.off : Nat) : Int) = 0 := by rw [hr.1, hr.2.1]; rfl
    rw [hz]
    rw [hm] at c0
    clear hr hz h hm
    go_enter Tryd.func100, Tryd.ntmps100
    go_wp2
    go_ret
    exact ⟨rfl, 0, rfl⟩
  · rw [hm] at c0
    clear h hm
    have hz : ((s.buf.length - s.off : Nat) : Int) = (s.buf.length : Int) - (s.off : Int) := by omega
    have HZ := Lib.hid hz; clear hz
    go_enter Tryd.func100, Tryd.ntmps100
    go_wp2
    go_quiet (fail)
    go_wp2
    go_ret
    exact ⟨by rw [HZ.out]; rfl, nq, rfl⟩

theorem rfail_any (h : Rr w q A c s) (code a : Int) :
    Calls Tryd.prog 143 #[.pointer (some ⟨q, 0, none⟩), .int .i64 code, .int .i64 a] w fun e w' => e = .returned (.tuple #[]) ∧ failW w q code a = w' := by
  have c2 : w.cell? ⟨q, 2, none⟩ = some (.int .i64 (s.off : Int)) := h.blk.cell 2
  have c3 : w.cell? ⟨q, 3, none⟩ = some (.int .i64 s.code) := h.blk.cell 3
  have c4 : w.cell? ⟨q, 4, none⟩ = some (.int .i64 s.at_) := h.blk.cell 4
  have f2 := h.blk.frozen 2
  have f3 := h.blk.frozen 3
  have f4 := h.blk.frozen 4
  clear h
  unfold failW
  go_enter Tryd.func143, Tryd.ntmps143
  go_wp2
  go_end0
  exact ⟨rfl, rfl⟩
end
end Go.Proofs.YtbhmnkpbaeemeaaDoor

/-! # W39 -/
namespace Go.Proofs.YtbhmnkpbaeemeaaDoor
open Go.RowKit

section
variable {w w' : World} {q : Nat} {A : Option Addr} {c : Nat} {s : RdS}
theorem Fixed_stuck (h : Rr w q A c s) (n : Int) (hs : s.stuck = true) :
    Calls Tryd.prog 140 #[.pointer (some ⟨q, 0, none⟩), .int .i64 n] w fun e w' => e = .returned (.int .u64 0) ∧ w = w' := by
  have HD := Lib.hid (Dead_any h hs)
  clear h hs
  go_enter Tryd.func140, Tryd.ntmps140
  go_wp2_with (go_at_call 142; refine HD.out.mono ?_; rintro e w' ⟨rfl, rfl⟩)
  go_ret
  exact ⟨rfl, rfl⟩

theorem Fixed_short (h : Rr w q A c s) (n : Nat) (hn : n ≤ 8) (hs : s.stuck = false) (hl : s.buf.length < s.off + n) :
    Calls Tryd.prog 140 #[.pointer (some ⟨q, 0, none⟩), .int .i64 (n : Int)] w fun e w' => e = .returned (.int .u64 0) ∧ Rr w' q A c s.short ∧ Chg w w' (· = q) := by
  have HD := Lib.hid (Dead_any h hs)
  have HL := Lib.hid (Left_any h)
  have HF := fun k => Lib.hid (rfail_any (h.drewN k) 20 (s.off : Int))
  have c2 : w.cell? ⟨q, 2, none⟩ = some (.int .i64 (s.off : Int)) := h.blk.cell 2
  have hle := h.ok.le
  have hsm := h.ok.small
  have hd : decide (s.buf.length - s.off < n) = true := by simp; omega
  have Fin := Lib.hid (fun k => (h.drewN k).failed hs 20 s.off (by decide) h.ok.le)
  clear h hs hl
  go_enter Tryd.func140, Tryd.ntmps140
  go_wp2_with first | (go_at_call 142; refine HD.out.mono ?_; rintro e w' ⟨rfl, rfl⟩) | (go_at_call 100; refine HL.out.mono ?_; rintro e w' ⟨rfl, k, rfl⟩) | (go_at_call 143; refine (HF _).out.mono ?_; rintro e w' ⟨rfl, rfl⟩)
  go_ret
  exact ⟨rfl, Fin.out k, ((Chg.refl _ _).drewN k).trans' (chg_failW _ _ _ _)⟩

theorem Fixed_good (h : Rr w q A c s) (n : Nat) (hn : n ≤ 8) (h0 : 0 < n) (hs : s.stuck = false) (hl : s.off + n ≤ s.buf.length) :
    Calls Tryd.prog 140 #[.pointer (some ⟨q, 0, none⟩), .int .i64 (n : Int)] w fun e w' => e = .returned (.int .u64 (beV ((s.buf.drop s.off).take n) : Int)) ∧ Rr w' q A c (s.step n) ∧ Chg w w' (· = q) := by
  have HD := Lib.hid (Dead_any h hs)
  have HL := Lib.hid (Left_any h)
  have c1 : w.cell? ⟨q, 1, none⟩ = some (.slice A s.buf.length c) := h.blk.cell 1
  have c2 : w.cell? ⟨q, 2, none⟩ = some (.int .i64 (s.off : Int)) := h.blk.cell 2
  have f2 := h.blk.frozen 2
  have hle := h.ok.le
  have hsm := h.ok.small
  have hd : decide (s.buf.length - s.off < n) = false := by simp; omega
  have Fin := Lib.hid (fun k => (h.drewN k).moved hs n hl)
  obtain ⟨g, rfl, _⟩ := h.row.form (by omega)
  have HB := Lib.hid h.row.rd.at_
  clear h hs
  go_enter Tryd.func140, Tryd.ntmps140
  go_wp2_with first | (go_at_call 142; refine HD.out.mono ?_; rintro e w' ⟨rfl, rfl⟩) | (go_at_call 100; refine HL.out.mono ?_; rintro e w' ⟨rfl, k0, rfl⟩)
  clear hd
  go_loopw [5, 6] (fun v i wr => ∃ k V m : Nat, k ≤ n ∧ i = .int .i64 k ∧ v = .int .u64 (V : Int) ∧ Hid (V = beV ((s.buf.drop s.off).take k)) ∧ wr = w.drewN m) (fun _ i _ => n - (intOf i).toNat)
  case atStart => exact ⟨0, 0, k0, Nat.zero_le _, rfl, rfl, rfl, rfl⟩
  case round =>
    obtain ⟨k, V, m, hk, rfl, rfl, HV, rfl⟩ := hrel
    by_cases hlt : k < n
    · obtain ⟨b, o, e, hcell⟩ := HB.out (s.off + k) (by omega)
      cases e
      rw [Nat.zero_add] at hcell
      have hX := (s.buf[s.off + k]'(by omega)).toNat_lt
      have hV : V < 72057594037927936 := by
        have h1 := beV_lt ((s.buf.drop s.off).take k)
        rw [← HV.out, List.length_take, List.length_drop, Nat.min_eq_left (by omega)] at h1
        have h2 : 256 ^ k ≤ 256 ^ 7 := Nat.pow_le_pow_right (by omega) (by omega)
        have h3 : (256 : Nat) ^ 7 = 72057594037927936 := by decide
        omega
      have HS : Hid (beV ((s.buf.drop s.off).take (k + 1)) = V * 256 + (s.buf[s.off + k]'(by omega)).toNat) := by
        show _ = _
        rw [take_snoc (by simp; omega), beV_snoc, ← HV.out]
        simp
      generalize (s.buf[s.off + k]'(by omega)).toNat = X at *
      go_wp2
      go_quiet (fail)
      go_wp2
      go_roundw
      case rel => exact ⟨k + 1, V * 256 + X, _, by omega, by go_num, by simp, HS.out.symm, rfl⟩
      case measure => simp [intOf]; omega
    · obtain rfl : k = n := by omega
      go_wp2
      go_ret
      exact ⟨by rw [HV.out]; rfl, Fin.out m, ((Chg.refl _ _).drewN m).trans' (chg_at _ _ _ _)⟩

theorem Fixed_any' (h : Rr w q A c s) (n : Nat) (hn : n ≤ 8) (h0 : 0 < n) :
    Calls Tryd.prog 140 #[.pointer (some ⟨q, 0, none⟩), .int .i64 (n : Int)] w fun e w' => e = .returned (.int .u64 (s.sumV n : Int)) ∧ Rr w' q A c (s.sumS n) ∧ Chg w w' (· = q) := by
  unfold RdS.sumV RdS.sumS
  by_cases hs : s.stuck = true
  · rw [if_pos hs, if_pos hs]
    refine (Fixed_stuck h n hs).mono ?_
    rintro e w' ⟨rfl, rfl⟩
    exact ⟨rfl, h, Chg.refl _ _⟩
  · rw [if_neg hs, if_neg hs]
    have hs' : s.stuck = false := by simpa using hs
    by_cases hl : s.buf.length < s.off + n
    · rw [if_pos hl, if_pos hl]
      exact Fixed_short h n hn hs' hl
    · rw [if_neg hl, if_neg hl]
      exact Fixed_good h n hn h0 hs' (by omega)
end
end Go.Proofs.YtbhmnkpbaeemeaaDoor

/-! # W40 -/
namespace Go.Proofs.YtbhmnkpbaeemeaaDoor
open Go.RowKit

theorem shlGroup (X k : Nat) (h9 : k ≤ 9) (hx : k = 9 → X % 128 ≤ 1) : IntKind.u64.wrap ((X : Int) % 128 * 2 ^ (7 * k)) = ((X % 128 * 128 ^ k : Nat) : Int) ∧ X % 128 * 128 ^ k + 128 ^ k ≤ 18446744073709551616 := by
  have hp : (128 : Nat) ^ k = 2 ^ (7 * k) := by rw [Nat.pow_mul]
  have hm : X % 128 < 128 := Nat.mod_lt _ (by omega)
  have h1 : 0 < 128 ^ k := Nat.pow_pos (by omega)
  have hlt : X % 128 * 128 ^ k + 128 ^ k ≤ 18446744073709551616 := by
    rcases Nat.lt_or_ge k 9 with h | h
    · have e1 : 128 ^ k ≤ 128 ^ 8 := Nat.pow_le_pow_right (by omega) (by omega)
      have e2 : (128 : Nat) ^ 8 = 72057594037927936 := by decide
      have e3 : X % 128 * 128 ^ k ≤ 127 * 72057594037927936 := Nat.mul_le_mul (by omega) (by omega)
      omega
    · obtain rfl : k = 9 := by omega
      have := hx rfl
      have h9v : (128 : Nat) ^ 9 = 9223372036854775808 := by decide
      rw [h9v]
      omega
  have e1 : (X : Int) % 128 * 2 ^ (7 * k) = ((X % 128 * 128 ^ k : Nat) : Int) := by
    rw [hp, Int.natCast_mul, Int.natCast_pow]
    rfl
  have e2 : IntKind.u64.wrap ((X % 128 * 128 ^ k : Nat) : Int) = ((X % 128 * 128 ^ k : Nat) : Int) := by
    generalize X % 128 * 128 ^ k = y at *
    simp only [IntKind.wrap, IntKind.signed, IntKind.bits, Bool.false_eq_true, if_false]
    exact Int.emod_eq_of_lt (by omega) (by omega)
  exact ⟨by rw [e1, e2], hlt⟩

theorem wrapSum (V Y : Nat) (h : V + Y < 18446744073709551616) : IntKind.u64.wrap ((V : Int) + ((Y : Nat) : Int)) = ((V + Y : Nat) : Int) := by
  simp only [IntKind.wrap, IntKind.signed, IntKind.bits, Bool.false_eq_true, if_false]
  rw [← Int.natCast_add]
  exact Int.emod_eq_of_lt (by omega) (by omega)

section
variable {w w' : World} {q : Nat} {A : Option Addr} {c : Nat} {s : RdS}
theorem rNum_stuck (h : Rr w q A c s) (hs : s.stuck = true) :
    Calls Tryd.prog 89 #[.pointer (some ⟨q, 0, none⟩)] w fun e w' => e = .returned (.int .u64 0) ∧ w = w' := by
  have HD := Lib.hid (Dead_any h hs)
  clear h hs
  go_enter Tryd.func89, Tryd.ntmps89
  go_wp2_with (go_at_call 142; refine HD.out.mono ?_; rintro e w' ⟨rfl, rfl⟩)
  go_ret
  exact ⟨rfl, rfl⟩

def RNumPost (s : RdS) (w : World) (q : Nat) (A : Option Addr) (c : Nat) (e : Ending) (w' : World) : Prop :=
  (s.pk.2.2 ≠ 0 ∧ e = .returned (.int .u64 0) ∧ Rr w' q A c (s.no s.pk.2.2 s.off) ∧ Chg w w' (· = q)) ∨ (s.pk.2.2 = 0 ∧ e = .returned (.int .u64 (s.pk.1 : Int)) ∧ Rr w' q A c (s.step s.pk.2.1) ∧ Chg w w' (· = q))
theorem rnum_no {m : Nat} (h : Rr w q A c s) (hs : s.stuck = false) {v n code : Nat} (hp : s.pk = (v, n, code)) (hc : code ≠ 0) : RNumPost s w q A c (.returned (.int .u64 0)) (failW (w.drewN m) q code s.off) := by
  have h2 : s.pk.2.2 = code := by rw [hp]
  refine .inl ⟨by rw [h2]; exact hc, rfl, ?_, ((Chg.refl _ _).drewN m).trans' (chg_failW _ _ _ _)⟩
  rw [h2]
  exact (h.drewN m).failed hs code s.off hc h.ok.le
theorem rnum_yes {m : Nat} (h : Rr w q A c s) (hs : s.stuck = false) {v k : Nat} (hp : s.pk = (v, k + 1, 0)) {z : Int} (hz : z = v) {y : Int} (hy : y = (s.off : Int) + (k : Int) + 1) : RNumPost s w q A c (.returned (.int .u64 z)) ((w.drewN m).setCell ⟨q, 2, none⟩ (.int .i64 y)) := by
  subst hz hy
  have h2 : s.pk.2.2 = 0 := by rw [hp]
  have hpk := ((pk_facts s h.ok.le).2.1 h2).2
  have hk : s.pk.2.1 = k + 1 := by rw [hp]
  have hv : s.pk.1 = v := by rw [hp]
  rw [hk] at hpk
  refine .inr ⟨h2, by rw [hv], ?_, ((Chg.refl _ _).drewN m).trans' (chg_at _ _ _ _)⟩
  rw [hk]
  have := (h.drewN m).moved hs (k + 1) hpk
  rw [Int.natCast_add, ← Int.add_assoc] at this
  exact this

set_option maxRecDepth 100000 in
set_option maxHeartbeats 1000000 in
theorem rNum_live (h : Rr w q A c s) (hs : s.stuck = false) :
    Calls Tryd.prog 89 #[.pointer (some ⟨q, 0, none⟩)] w (RNumPost s w q A c) := by
  have HD := Lib.hid (Dead_any h hs)
  have HS := Lib.hid hs
  have HF := fun k (z : Int) => Lib.hid (rfail_any (h.drewN k) z (s.off : Int))
  have c1 : w.cell? ⟨q, 1, none⟩ = some (.slice A s.buf.length c) := h.blk.cell 1
  have c2 : w.cell? ⟨q, 2, none⟩ = some (.int .i64 (s.off : Int)) := h.blk.cell 2
  have f2 := h.blk.frozen 2
  have hle := h.ok.le
  have hsm := h.ok.small
  have HB := Lib.hid h.row.rd.at_
  have HG := Lib.hid h.row.form'
  have H := Lib.hid h
  clear h hs
  go_enter Tryd.func89, Tryd.ntmps89
  go_wp2_with (go_at_call 142; refine HD.out.mono ?_; rintro e w' ⟨rfl, rfl⟩)
  go_loopw [3, 4] (fun v i wr => ∃ k V m : Nat, k ≤ s.buf.length - s.off ∧ i = .int .i64 k ∧ v = .int .u64 (V : Int) ∧ Hid (s.pk = peek (s.buf.drop (s.off + k)) k V) ∧ V < 128 ^ k ∧ k ≤ 9 ∧ wr = w.drewN m) (fun _ i _ => 10 - (intOf i).toNat)
  case atStart => exact ⟨0, 0, 0, Nat.zero_le _, rfl, rfl, rfl, by decide, by decide, rfl⟩
  case round =>
    obtain ⟨k, V, m, hk, rfl, rfl, HPK, hV, h9, rfl⟩ := hrel
    by_cases hlt : k < s.buf.length - s.off
    · obtain ⟨g, rfl, _⟩ : ∃ g, A = some ⟨g, 0, none⟩ ∧ 0 ≤ g := by
        rcases HG.out with ⟨rfl, h0, _⟩ | h
        · omega
        · exact h
      obtain ⟨b, o, e, hcell⟩ := HB.out (s.off + k) (by omega)
      cases e
      rw [Nat.zero_add] at hcell
      have hX := (s.buf[s.off + k]'(by omega)).toNat_lt
      have HPE := Lib.hid (peek_at s.buf s.off k V (by omega))
      generalize (s.buf[s.off + k]'(by omega)).toNat = X at *
      have hge : decide ((s.buf.length : Int) ≤ (s.off : Int) + (k : Int)) = false := by simp; omega
      by_cases h1 : k = 9 ∧ 1 < X
      · have HP := Lib.hid (HPK.out.trans (HPE.out.trans (if_pos h1)))
        obtain ⟨rfl, h1⟩ := h1
        clear HPE HPK
        go_wp2
        go_quiet (fail)
        go_wp2
        go_quiet (fail)
        go_wp2_with (go_at_call 143; refine (HF _ _).out.mono ?_; rintro e w' ⟨rfl, rfl⟩)
        go_ret
        exact rnum_no H.out HS.out HP.out (by decide)
      · have hx9 : k = 9 → X ≤ 1 := fun e => by
          rcases Nat.lt_or_ge 1 X with h | h
          · exact absurd ⟨e, h⟩ h1
          · exact h
        obtain ⟨hsh, hbd⟩ := shlGroup X k h9 (fun e => by have := hx9 e; omega)
        rw [if_neg h1] at HPE
        by_cases h2 : X < 128
        · by_cases h3 : X = 0 ∧ 0 < k
          · have HP := Lib.hid (HPK.out.trans (HPE.out.trans ((if_pos h2).trans (if_pos h3))))
            obtain ⟨rfl, h3⟩ := h3
            clear HPE HPK h1 hsh hbd
            go_wp2
            go_quiet (fail)
            go_wp2
            go_quiet (fail)
            go_wp2_with (go_at_call 143; refine (HF _ _).out.mono ?_; rintro e w' ⟨rfl, rfl⟩)
            all_goals
              go_ret
              exact rnum_no H.out HS.out HP.out (by decide)
          · have HP := Lib.hid (HPK.out.trans (HPE.out.trans ((if_pos h2).trans (if_neg h3))))
            have hxm : X % 128 = X := Nat.mod_eq_of_lt h2
            rw [hxm] at hsh hbd; clear hxm
            rcases Nat.lt_or_ge k 9 with hk9 | hk9
            · rcases Nat.eq_zero_or_pos X with rfl | hX0
              · obtain rfl : k = 0 := by
                  rcases Nat.eq_zero_or_pos k with h | h
                  · exact h
                  · exact absurd ⟨rfl, h⟩ h3
                obtain rfl : V = 0 := by simp at hV; exact hV
                rw [Nat.add_zero] at hcell
                clear HPE HPK h1 h3 hsh hbd
                go_wp2
                go_quiet (fail)
                go_wp2
                go_quiet (fail)
                go_wp2
                all_goals
                  go_ret
                  exact rnum_yes H.out HS.out HP.out rfl (by simp)
              · have g1 : ((X : Int) == 0) = false := by simp; omega
                have g2 : ((k : Int) == 9) = false := by simp; omega
                have HWR := Lib.hid (wrapSum V (X * 128 ^ k) (by omega))
                rw [Int.natCast_mul, Int.natCast_pow] at HWR
                clear HPE HPK h1 h3 hbd
                go_wp2
                go_quiet (fail)
                go_wp2
                go_quiet (fail)
                go_wp2
                all_goals
                  go_ret
                  exact rnum_yes H.out HS.out HP.out HWR.out (by simp)
            · obtain rfl : k = 9 := by omega
              obtain rfl : X = 1 := by
                have := hx9 rfl
                omega
              have h9v : (128 : Nat) ^ 9 = 9223372036854775808 := by decide
              rw [h9v] at hV HP
              clear HPE HPK h1 h3 hbd hsh h9v hx9
              go_wp2
              go_quiet (fail)
              go_wp2
              go_quiet (fail)
              go_wp2
              all_goals
                go_ret
                exact rnum_yes H.out HS.out HP.out (by simp) (by simp)
        · have hk9 : k ≠ 9 := fun e => by have := hx9 e; omega
          rw [if_neg h2] at HPE
          have HP := Lib.hid (HPK.out.trans HPE.out)
          have HV1 : Hid (V + X % 128 * 128 ^ k < 128 ^ (k + 1)) := by
            have : X % 128 * 128 ^ k ≤ 127 * 128 ^ k := Nat.mul_le_mul_right _ (by omega)
            show _ < _
            rw [Nat.pow_succ]
            omega
          have HWR := Lib.hid (wrapSum V (X % 128 * 128 ^ k) (by omega))
          rw [Int.natCast_mul, Int.natCast_pow] at HWR
          have g1 : ((X : Int) == 0) = false := by simp; omega
          have g2 : ((k : Int) == 9) = false := by simp; omega
          clear HPE HPK h1 hx9 hbd
          go_wp2
          go_quiet (fail)
          go_wp2
          go_quiet (fail)
          go_wp2
          go_roundw
          case rel => exact ⟨k + 1, _, _, by omega, by go_num, congrArg _ HWR.out, HP.out, HV1.out, by omega, rfl⟩
          case measure => simp [intOf]; omega
    · have HP : Hid (s.pk = (0, 0, 20)) := HPK.out.trans (peek_end _ _ _ _ (by omega))
      clear HPK
      have hge : decide ((s.buf.length : Int) ≤ (s.off : Int) + (k : Int)) = true := by simp; omega
      go_wp2
      go_quiet (fail)
      go_wp2_with (go_at_call 143; refine (HF _ _).out.mono ?_; rintro e w' ⟨rfl, rfl⟩)
      go_ret
      exact rnum_no H.out HS.out HP.out (by decide)

theorem rrNum_any (h : Rr w q A c s) :
    Calls Tryd.prog 89 #[.pointer (some ⟨q, 0, none⟩)] w fun e w' => e = .returned (.int .u64 (s.numV : Int)) ∧ Rr w' q A c s.numS ∧ Chg w w' (· = q) := by
  unfold RdS.numV RdS.numS
  by_cases hs : s.stuck = true
  · rw [if_pos hs, if_pos hs]
    refine (rNum_stuck h hs).mono ?_
    rintro e w' ⟨rfl, rfl⟩
    exact ⟨rfl, h, Chg.refl _ _⟩
  · rw [if_neg hs, if_neg hs]
    have hs' : s.stuck = false := by simpa using hs
    refine (rNum_live h hs').mono ?_
    rintro e w' (⟨h1, rfl, h2, h3⟩ | ⟨h1, rfl, h2, h3⟩)
    · rw [if_pos h1]
      exact ⟨by rw [(pk_facts s h.ok.le).2.2 h1]; rfl, h2, h3⟩
    · rw [if_neg (by omega)]
      exact ⟨rfl, h2, h3⟩
end
end Go.Proofs.YtbhmnkpbaeemeaaDoor

/-! # W41 -/
namespace Go.Proofs.YtbhmnkpbaeemeaaDoor
open Go.RowKit

section
variable {w : World} {p : Nat} {A : Option Addr} {c : Nat} {s : RdS}
theorem Flag_stuck (h : Rdr w p A c s) (hs : s.stuck = true) :
    Calls Tryd.prog 90 #[.pointer (some ⟨p, 0, none⟩)] w fun e w' => e = .returned (.bool false) ∧ w = w' := by
  have HS := Lib.hid (h.stuckC hs)
  clear h hs
  go_enter Tryd.func90, Tryd.ntmps90
  go_wp2_with (go_at_call 132; refine HS.out.mono ?_; rintro e w' ⟨rfl, rfl⟩)
  go_ret
  exact ⟨rfl, rfl⟩

theorem natBeq (a b : Nat) : ((a : Int) == (b : Int)) = (a == b) := by
  rw [Bool.eq_iff_iff]; simp; omega

theorem Flag_no (h : Rdr w p A c s) (hs : s.stuck = false) (hl : s.off < s.buf.length) (hx : 1 < (s.buf[s.off]'hl).toNat) :
    Calls Tryd.prog 90 #[.pointer (some ⟨p, 0, none⟩)] w fun e w' => e = .returned (.bool false) ∧ Rdr w' p A c (s.no 26 s.off) ∧ Chg w w' (· = p) := by
  have HS := Lib.hid (h.stuckC hs)
  have c4 : w.cell? ⟨p, 4, none⟩ = some (.slice A s.buf.length c) := h.blk.cell 4
  have c5 : w.cell? ⟨p, 5, none⟩ = some (.int .i64 (s.off : Int)) := h.blk.cell 5
  have FF : ∀ k, Hid (FailAt (w.drewN k) p 26 s.off) := fun k => (h.drewN k).failC hs _ _
  have fin : ∀ q, Rdr ((((w.drewN q).setCell ⟨p, 1, none⟩ (.bool true)).setCell ⟨p, 2, none⟩ (.int .i64 26)).setCell ⟨p, 3, none⟩ (.int .i64 (s.off : Int))) p A c (s.no 26 s.off) := fun q => (h.drewN q).failed _ _
  have Fin := Lib.hid fin; clear fin
  have hsm := h.small
  obtain ⟨b, o, rfl, hcell⟩ := h.row.rd.at_ s.off hl
  have hX := (s.buf[s.off]'hl).toNat_lt
  generalize (s.buf[s.off]'hl).toNat = X at *
  have g1 : decide (s.off < s.buf.length) = true := by simpa using hl
  have g2 : decide ((1 : Int) < (X : Int)) = true := by simp; omega
  unfold FailAt at FF
  clear h hs
  go_enter Tryd.func90, Tryd.ntmps90
  go_wp2_with (go_at_call 132; refine HS.out.mono ?_; rintro e w' ⟨rfl, rfl⟩)
  go_quiet (fail)
  go_wp2
  go_region_with (go_at_call 133; refine (FF (nq + 1)).out.mono ?_; rintro e w' ⟨rfl, rfl⟩)
  all_goals
    go_wp2
    go_ret
    exact ⟨rfl, Fin.out (nq + 1), ((Chg.refl _ _).drewN (nq + 1)).trans' (chg_failed1 _ p _ _)⟩

theorem Flag_yes (h : Rdr w p A c s) (hs : s.stuck = false) (hl : s.off < s.buf.length) (hx : (s.buf[s.off]'hl).toNat ≤ 1) :
    Calls Tryd.prog 90 #[.pointer (some ⟨p, 0, none⟩)] w fun e w' => e = .returned (.bool (s.sumV 1 == 1)) ∧ Rdr w' p A c (s.sumS 1) ∧ Chg w w' (· = p) := by
  have HS := Lib.hid (h.stuckC hs)
  have c4 : w.cell? ⟨p, 4, none⟩ = some (.slice A s.buf.length c) := h.blk.cell 4
  have c5 : w.cell? ⟨p, 5, none⟩ = some (.int .i64 (s.off : Int)) := h.blk.cell 5
  have HT := fun k => Lib.hid (sum_any (w.drewN k) p A c s (h.drewN k) 1 (by omega) (by omega))
  have hsm := h.small
  obtain ⟨b, o, rfl, hcell⟩ := h.row.rd.at_ s.off hl
  have hX := (s.buf[s.off]'hl).toNat_lt
  generalize (s.buf[s.off]'hl).toNat = X at *
  have g1 : decide (s.off < s.buf.length) = true := by simpa using hl
  have g2 : decide ((1 : Int) < (X : Int)) = false := by simp; omega
  have hV : s.sumV 1 < 256 := s.sumV_lt 1
  have hnb := natBeq (s.sumV 1) 1
  have HNB := Lib.hid hnb; clear hnb
  clear h hs
  generalize s.sumV 1 = V at *
  go_enter Tryd.func90, Tryd.ntmps90
  go_wp2_with (go_at_call 132; refine HS.out.mono ?_; rintro e w' ⟨rfl, rfl⟩)
  go_quiet (fail)
  go_wp2_with (go_at_call 134; refine (HT _).out.mono ?_; rintro e w1 ⟨rfl, hr, hch⟩)
  go_ret
  exact ⟨congrArg _ (congrArg _ HNB.out), hr, ((Chg.refl _ _).drewN nq).trans' hch⟩

theorem Flag_end (h : Rdr w p A c s) (hs : s.stuck = false) (hl : s.buf.length ≤ s.off) :
    Calls Tryd.prog 90 #[.pointer (some ⟨p, 0, none⟩)] w fun e w' => e = .returned (.bool (s.sumV 1 == 1)) ∧ Rdr w' p A c (s.sumS 1) ∧ Chg w w' (· = p) := by
  have HS := Lib.hid (h.stuckC hs)
  have c4 : w.cell? ⟨p, 4, none⟩ = some (.slice A s.buf.length c) := h.blk.cell 4
  have c5 : w.cell? ⟨p, 5, none⟩ = some (.int .i64 (s.off : Int)) := h.blk.cell 5
  have HT := fun k => Lib.hid (sum_any (w.drewN k) p A c s (h.drewN k) 1 (by omega) (by omega))
  have hsm := h.small
  have g1 : decide (s.off < s.buf.length) = false := by simpa using hl
  have hV : s.sumV 1 < 256 := s.sumV_lt 1
  have hnb := natBeq (s.sumV 1) 1
  have HNB := Lib.hid hnb; clear hnb
  clear h hs
  generalize s.sumV 1 = V at *
  go_enter Tryd.func90, Tryd.ntmps90
  go_wp2_with (go_at_call 132; refine HS.out.mono ?_; rintro e w' ⟨rfl, rfl⟩)
  go_quiet (fail)
  go_wp2_with (go_at_call 134; refine (HT _).out.mono ?_; rintro e w1 ⟨rfl, hr, hch⟩)
  go_ret
  exact ⟨congrArg _ (congrArg _ HNB.out), hr, ((Chg.refl _ _).drewN nq).trans' hch⟩

theorem rdFlag_any (h : Rdr w p A c s) :
    Calls Tryd.prog 90 #[.pointer (some ⟨p, 0, none⟩)] w fun e w' => e = .returned (.bool s.flagV) ∧ Rdr w' p A c s.flagS ∧ Chg w w' (· = p) := by
  unfold RdS.flagV RdS.flagS
  by_cases hs : s.stuck = true
  · rw [if_pos hs, if_pos hs]
    refine (Flag_stuck h hs).mono ?_
    rintro e w' ⟨rfl, rfl⟩
    exact ⟨rfl, h, Chg.refl _ _⟩
  · rw [if_neg hs, if_neg hs]
    have hs' : s.stuck = false := by simpa using hs
    rcases Nat.lt_or_ge s.off s.buf.length with hl | hl
    · have hg : s.buf.getD s.off 0 = s.buf[s.off]'hl := by simp [List.getD, List.getElem?_eq_getElem hl]
      by_cases hx : 1 < (s.buf[s.off]'hl).toNat
      · have hf : s.flagNo = true := by unfold RdS.flagNo; rw [hg]; exact decide_eq_true ⟨hl, hx⟩
        rw [if_pos hf, if_pos hf]
        exact Flag_no h hs' hl hx
      · have hf : ¬ s.flagNo = true := by unfold RdS.flagNo; rw [hg]; simp; intro; omega
        rw [if_neg hf, if_neg hf]
        exact Flag_yes h hs' hl (by omega)
    · have hf : ¬ s.flagNo = true := by unfold RdS.flagNo; simp; omega
      rw [if_neg hf, if_neg hf]
      exact Flag_end h hs' hl

/-! ### Count -/
theorem Count_stuck (h : Rdr w p A c s) (most : Int) (hs : s.stuck = true) :
    Calls Tryd.prog 92 #[.pointer (some ⟨p, 0, none⟩), .int .i64 most] w fun e w' => e = .returned (.int .i64 0) ∧ w = w' := by
  have HS := Lib.hid (h.stuckC hs)
  clear h hs
  go_enter Tryd.func92, Tryd.ntmps92
  go_wp2_with (go_at_call 132; refine HS.out.mono ?_; rintro e w' ⟨rfl, rfl⟩)
  go_ret
  exact ⟨rfl, rfl⟩

theorem no_stuck (s : RdS) (hs : s.stuck = false) (code a : Nat) : (s.no code a).stuck = true := by simp [RdS.no, RdS.stuck]
theorem step_stuck (s : RdS) (hs : s.stuck = false) (n : Nat) : (s.step n).stuck = false := hs

theorem Count_no (h : Rdr w p A c s) (most : Int) (hs : s.stuck = false) (hc : s.pk.2.2 ≠ 0) :
    Calls Tryd.prog 92 #[.pointer (some ⟨p, 0, none⟩), .int .i64 most] w fun e w' => e = .returned (.int .i64 0) ∧ Rdr w' p A c (s.no s.pk.2.2 s.off) ∧ Chg w w' (· = p) := by
  have HS := Lib.hid (h.stuckC hs)
  have c5 : w.cell? ⟨p, 5, none⟩ = some (.int .i64 (s.off : Int)) := h.blk.cell 5
  have HN := Lib.hid (Num_no h hs hc)
  have HB := Lib.hid (no_stuck s hs s.pk.2.2 s.off)
  generalize s.no s.pk.2.2 s.off = s2 at *
  clear h hs hc
  go_enter Tryd.func92, Tryd.ntmps92
  go_wp2_with fail
  refine HS.out.mono ?_
  rintro e w' ⟨rfl, rfl⟩
  go_wp2_with fail
  refine HN.out.mono ?_
  rintro e w1 ⟨rfl, hr, hch⟩
  have HS1 := Lib.hid (hr.stuckC HB.out)
  have HR := Lib.hid hr
  clear hr
  go_wp2_with (go_at_call 132; refine HS1.out.mono ?_; rintro e w' ⟨rfl, rfl⟩)
  go_ret
  exact ⟨rfl, HR.out, hch⟩

theorem Count_yes (h : Rdr w p A c s) (most : Int) (hs : s.stuck = false) (hc : s.pk.2.2 = 0) (h0 : 0 ≤ most) (h1 : most ≤ 9223372036854775807) (hm : (s.pk.1 : Int) ≤ most) :
    Calls Tryd.prog 92 #[.pointer (some ⟨p, 0, none⟩), .int .i64 most] w fun e w' => e = .returned (.int .i64 (s.pk.1 : Int)) ∧ Rdr w' p A c (s.step s.pk.2.1) ∧ Chg w w' (· = p) := by
  have HS := Lib.hid (h.stuckC hs)
  have c5 : w.cell? ⟨p, 5, none⟩ = some (.int .i64 (s.off : Int)) := h.blk.cell 5
  have HN := Lib.hid (Num_yes h hs hc)
  have HB := Lib.hid (step_stuck s hs s.pk.2.1)
  have g1 : decide (most < 0) = false := by simpa using h0
  have g2 : decide (most < (s.pk.1 : Int)) = false := by simpa using hm
  generalize s.step s.pk.2.1 = s2 at *
  generalize s.pk.1 = V at *
  clear h hs hc
  go_enter Tryd.func92, Tryd.ntmps92
  go_wp2_with fail
  refine HS.out.mono ?_
  rintro e w' ⟨rfl, rfl⟩
  go_wp2_with fail
  refine HN.out.mono ?_
  rintro e w1 ⟨rfl, hr, hch⟩
  have HS1 := Lib.hid (hr.stuckC HB.out)
  have HR := Lib.hid hr
  clear hr
  go_wp2_with (go_at_call 132; refine HS1.out.mono ?_; rintro e w' ⟨rfl, rfl⟩)
  go_ret
  exact ⟨rfl, HR.out, hch⟩

theorem Count_much (h : Rdr w p A c s) (most : Int) (hs : s.stuck = false) (hc : s.pk.2.2 = 0) (hm : most < (s.pk.1 : Int)) (hmx : most ≤ 9223372036854775807) :
    Calls Tryd.prog 92 #[.pointer (some ⟨p, 0, none⟩), .int .i64 most] w fun e w' => e = .returned (.int .i64 0) ∧ Rdr w' p A c (s.no 21 s.off) ∧ Chg w w' (· = p) := by
  have HS := Lib.hid (h.stuckC hs)
  have c5 : w.cell? ⟨p, 5, none⟩ = some (.int .i64 (s.off : Int)) := h.blk.cell 5
  have HN := Lib.hid (Num_yes h hs hc)
  have HB := Lib.hid (step_stuck s hs s.pk.2.1)
  have HLE := Lib.hid h.le
  have fin : ∀ w1, Rdr w1 p A c (s.step s.pk.2.1) → FailAt (w1.setCell ⟨p, 5, none⟩ (.int .i64 (s.off : Int))) p 21 s.off ∧ Rdr ((((w1.setCell ⟨p, 5, none⟩ (.int .i64 (s.off : Int))).setCell ⟨p, 1, none⟩ (.bool true)).setCell ⟨p, 2, none⟩ (.int .i64 21)).setCell ⟨p, 3, none⟩ (.int .i64 (s.off : Int))) p A c (s.no 21 s.off) := fun w1 hr => by
    have h1 := hr.moved s.off HLE.out
    have h2 := h1.failed 21 s.off
    exact ⟨h1.failC HB.out 21 s.off, h2⟩
  have Fin := Lib.hid fin; clear fin
  unfold FailAt at Fin
  have hm' : most < 0 ∨ (0 ≤ most ∧ decide (most < (s.pk.1 : Int)) = true) := by
    rcases Int.lt_or_le most 0 with h | h
    · exact .inl h
    · exact .inr ⟨h, by simpa using hm⟩
  have hlt := (pk_facts s h.le).1
  generalize hs2 : s.step s.pk.2.1 = s2 at *
  generalize s.pk.1 = V at *
  clear h hs hc hs2
  rcases hm' with h0 | ⟨h0, g2⟩
  all_goals
    go_enter Tryd.func92, Tryd.ntmps92
    go_wp2_with fail
    refine HS.out.mono ?_
    rintro e w' ⟨rfl, rfl⟩
    go_wp2_with fail
    refine HN.out.mono ?_
    rintro e w1 ⟨rfl, hr, hch⟩
    have HS1 := Lib.hid (hr.stuckC HB.out)
    have d5 : w1.cell? ⟨p, 5, none⟩ = some (.int .i64 (s2.off : Int)) := hr.blk.cell 5
    have f5 := hr.blk.frozen 5
    have HF := Lib.hid (Fin.out w1 hr)
    clear hr
    go_wp2_with first | (go_at_call 132; refine HS1.out.mono ?_; rintro e w' ⟨rfl, rfl⟩) | (go_at_call 133; refine HF.out.1.mono ?_; rintro e w' ⟨rfl, rfl⟩)
    go_ret
    refine ⟨rfl, HF.out.2, (hch.set (fun _ => rfl) _).trans' (chg_failed1 _ p _ _)⟩

theorem rdCount_any (h : Rdr w p A c s) (most : Int) (hmx : most ≤ 9223372036854775807) :
    Calls Tryd.prog 92 #[.pointer (some ⟨p, 0, none⟩), .int .i64 most] w fun e w' => e = .returned (.int .i64 (s.countV most : Int)) ∧ Rdr w' p A c (s.countS most) ∧ Chg w w' (· = p) := by
  unfold RdS.countV RdS.countS
  by_cases hs : s.stuck = true
  · rw [if_pos hs, if_pos hs]
    refine (Count_stuck h most hs).mono ?_
    rintro e w' ⟨rfl, rfl⟩
    exact ⟨rfl, h, Chg.refl _ _⟩
  · rw [if_neg hs, if_neg hs]
    have hs' : s.stuck = false := by simpa using hs
    by_cases hc : s.pk.2.2 ≠ 0
    · rw [if_pos hc, if_pos hc]
      exact Count_no h most hs' hc
    · rw [if_neg hc, if_neg hc]
      by_cases hm : s.much most = true
      · rw [if_pos hm, if_pos hm]
        exact Count_much h most hs' (by omega) (by simpa [RdS.much] using hm) hmx
      · rw [if_neg hm, if_neg hm]
        have : (s.pk.1 : Int) ≤ most := by simpa [RdS.much] using hm
        exact Count_yes h most hs' (by omega) (by omega) hmx this
end
end Go.Proofs.YtbhmnkpbaeemeaaDoor

/-! # W42 -/
namespace Go.Proofs.YtbhmnkpbaeemeaaDoor
open Go.RowKit

theorem Rd.str {w : World} {A : Option Addr} {n c : Nat} {xs : List UInt8} (h : Rd w A n c xs) : (convert 22 9 (.slice A n c)).run Tryd.prog w = .ok (.string ⟨xs.toArray⟩) w := by
  cases A with
  | none =>
    have hc := h.nil rfl
    have hl := h.len
    have hle := h.le
    have : xs = [] := List.eq_nil_of_length_eq_zero (by omega)
    subst this
    exact run_convert_bytes_nil w 22 5 Tryd.underlying22 Tryd.underlying5 n c 9 Tryd.underlying9
  | some a =>
    have hl := h.len
    subst hl
    rcases Nat.eq_zero_or_pos xs.length with h0 | h0
    · have : xs = [] := List.eq_nil_of_length_eq_zero h0
      subst this
      exact run_convert_bytes_back w _ _ 5 a c [] Tryd.underlying22 Tryd.underlying5 Tryd.underlying9 (fun j hj => by simp at hj)
    · obtain ⟨ad, e, hsp, hs⟩ := h.src h0
      cases e
      exact run_convert_bytes_back w _ _ 5 a c xs Tryd.underlying22 Tryd.underlying5 Tryd.underlying9 (fun j hj => hs j _ (bs_get xs j hj))

theorem rd_cut {w : World} {g c n : Nat} {xs : List UInt8} (h : Rd w (some ⟨g, 0, none⟩) n c xs) (o m : Nat) (ho : o + m ≤ n) : Rd w (some ⟨g, o, none⟩) m (c - o) ((xs.drop o).take m) := by
  have := h.piece o (o + m) (by omega) (by omega)
  rw [Nat.add_sub_cancel_left, Nat.zero_add] at this
  exact this
theorem rd_none {w : World} (a : Addr) : Rd w (some a) 0 0 [] := ⟨rfl, Nat.le_refl _, by omega, (fun e => by cases e), fun i hi => by simp at hi⟩

section
variable {w : World} {p : Nat} {A : Option Addr} {c : Nat} {s : RdS}
theorem piece_stuck (h : Rdr w p A c s) (most : Int) (tx : Bool) (hs : s.stuck = true) :
    Calls Tryd.prog 144 #[.pointer (some ⟨p, 0, none⟩), .int .i64 most, .bool tx] w fun e w' => e = .returned (.slice none 0 0) ∧ w = w' := by
  have HS := Lib.hid (h.stuckC hs)
  clear h hs
  go_enter Tryd.func144, Tryd.ntmps144
  go_wp2_with (go_at_call 132; refine HS.out.mono ?_; rintro e w' ⟨rfl, rfl⟩)
  go_ret
  exact ⟨rfl, rfl⟩

/-- No number, or too great a one. -/
theorem piece_no (h : Rdr w p A c s) (most : Int) (tx : Bool) (hs : s.stuck = false) (hmx : most ≤ 9223372036854775807) (s2 : RdS) (h2 : s.countS most = s2) (hs2 : s2.stuck = true) :
    Calls Tryd.prog 144 #[.pointer (some ⟨p, 0, none⟩), .int .i64 most, .bool tx] w fun e w' => e = .returned (.slice none 0 0) ∧ Rdr w' p A c s2 ∧ Chg w w' (· = p) := by
  have HS := Lib.hid (h.stuckC hs)
  have c5 : w.cell? ⟨p, 5, none⟩ = some (.int .i64 (s.off : Int)) := h.blk.cell 5
  have HN := Lib.hid (rdCount_any h most hmx)
  have HB := Lib.hid hs2
  rw [h2] at HN
  generalize s.countV most = V at *
  clear h hs h2 hs2
  go_enter Tryd.func144, Tryd.ntmps144
  go_wp2_with fail
  refine HS.out.mono ?_
  rintro e w' ⟨rfl, rfl⟩
  go_wp2_with fail
  refine HN.out.mono ?_
  rintro e w1 ⟨rfl, hr, hch⟩
  have HS1 := Lib.hid (hr.stuckC HB.out)
  have HR := Lib.hid hr
  clear hr
  go_wp2_with (go_at_call 132; refine HS1.out.mono ?_; rintro e w' ⟨rfl, rfl⟩)
  go_ret
  exact ⟨rfl, HR.out, hch⟩

/-- What stands behind the count, and a fault noted from there. -/
theorem back_fail {g : Nat} {w1 : World} (hr : Rdr w1 p (some ⟨g, 0, none⟩) c (s.step s.pk.2.1)) (hs : s.stuck = false) (hle : s.off ≤ s.buf.length) (code : Nat) (q : Nat) :
    FailAt ((w1.drewN q).setCell ⟨p, 5, none⟩ (.int .i64 (s.off : Int))) p code s.off ∧
    Rdr (((((w1.drewN q).setCell ⟨p, 5, none⟩ (.int .i64 (s.off : Int))).setCell ⟨p, 1, none⟩ (.bool true)).setCell ⟨p, 2, none⟩ (.int .i64 code)).setCell ⟨p, 3, none⟩ (.int .i64 (s.off : Int))) p (some ⟨g, 0, none⟩) c (s.no code s.off) := by
  have h1 := (hr.drewN q).moved s.off hle
  have h2 := h1.failed code s.off
  exact ⟨h1.failC hs code s.off, h2⟩

theorem piece_lacks (h : Rdr w p A c s) (most : Int) (tx : Bool) (hs : s.stuck = false) (hmx : most ≤ 9223372036854775807) (hc : s.pk.2.2 = 0) (hm : ¬ s.much most = true) (hl : s.lacks = true) :
    Calls Tryd.prog 144 #[.pointer (some ⟨p, 0, none⟩), .int .i64 most, .bool tx] w fun e w' => e = .returned (.slice none 0 0) ∧ Rdr w' p A c (s.no 20 s.off) ∧ Chg w w' (· = p) := by
  have HS := Lib.hid (h.stuckC hs)
  have c5 : w.cell? ⟨p, 5, none⟩ = some (.int .i64 (s.off : Int)) := h.blk.cell 5
  have HN := Lib.hid (rdCount_any h most hmx)
  rw [show s.countS most = s.step s.pk.2.1 by simp [RdS.countS, hs, hc, hm], show s.countV most = s.pk.1 by simp [RdS.countV, hs, hc, hm]] at HN
  have HB := Lib.hid (step_stuck s hs s.pk.2.1)
  have hpk := (pk_facts s h.le).2.1 hc
  obtain ⟨g, rfl, _⟩ := h.row.form (by omega)
  have hlk : s.buf.length - (s.off + s.pk.2.1) < s.pk.1 := by simpa [RdS.lacks, RdS.rest] using hl
  have hsm := h.small
  have Fin := Lib.hid (fun w1 (hr : Rdr w1 p (some ⟨g, 0, none⟩) c (s.step s.pk.2.1)) q => back_fail hr hs h.le 20 q)
  unfold FailAt at Fin
  have hcap := h.row.rd.le
  have hlt := (pk_facts s h.le).1
  have e1 : (s.step s.pk.2.1).off = s.off + s.pk.2.1 := rfl
  have e2 : (s.step s.pk.2.1).buf = s.buf := rfl
  generalize hs2 : s.step s.pk.2.1 = s2 at *
  generalize s.pk.1 = V at *
  generalize s.pk.2.1 = n1 at *
  have g1 : decide (s.buf.length - (s.off + n1) < V) = true := by simpa using hlk
  clear h hs hc hs2 hm hl
  have hcc : c = s.off + n1 ∨ s.off + n1 < c := by omega
  rcases hcc with rfl | hcc
  all_goals
   go_enter Tryd.func144, Tryd.ntmps144
   go_wp2_with fail
   refine HS.out.mono ?_
   rintro e w' ⟨rfl, rfl⟩
   go_wp2_with fail
   refine HN.out.mono ?_
   rintro e w1 ⟨rfl, hr, hch⟩
   have HS1 := Lib.hid (hr.stuckC HB.out)
   have d4 : w1.cell? ⟨p, 4, none⟩ = some (.slice (some ⟨g, 0, none⟩) s2.buf.length _) := hr.blk.cell 4
   have d5 : w1.cell? ⟨p, 5, none⟩ = some (.int .i64 (s2.off : Int)) := hr.blk.cell 5
   rw [e2] at d4
   rw [e1] at d5
   have f5 := hr.blk.frozen 5
   have HF := Lib.hid (Fin.out w1 hr)
   clear hr e1 e2
   go_wp2_with (go_at_call 132; refine HS1.out.mono ?_; rintro e w' ⟨rfl, rfl⟩)
   go_quiet (fail)
   go_wp2_with (go_at_call 133; refine (HF.out nq).1.mono ?_; rintro e w' ⟨rfl, rfl⟩)
   go_ret
   exact ⟨rfl, (HF.out nq).2, ((hch.drewN nq).set (fun _ => rfl) _).trans' (chg_failed1 _ p _ _)⟩

theorem fits_of (s : RdS) (hc : s.pk.2.2 = 0) (hl : ¬ s.lacks = true) : s.pk.1 ≤ s.buf.length - (s.off + s.pk.2.1) := by
  simpa [RdS.lacks, RdS.rest] using hl

theorem piece_good (h : Rdr w p A c s) (most : Int) (hs : s.stuck = false) (hmx : most ≤ 9223372036854775807) (hc : s.pk.2.2 = 0) (hm : ¬ s.much most = true) (hl : ¬ s.lacks = true) :
    Calls Tryd.prog 144 #[.pointer (some ⟨p, 0, none⟩), .int .i64 most, .bool false] w fun e w' => ∃ A' c', e = .returned (.slice A' s.pk.1 c') ∧ Rdr w' p A c (s.step (s.pk.2.1 + s.pk.1)) ∧ Rd w' A' s.pk.1 c' s.body ∧ Chg w w' (· = p) := by
  have HS := Lib.hid (h.stuckC hs)
  have c5 : w.cell? ⟨p, 5, none⟩ = some (.int .i64 (s.off : Int)) := h.blk.cell 5
  have HN := Lib.hid (rdCount_any h most hmx)
  rw [show s.countS most = s.step s.pk.2.1 by simp [RdS.countS, hs, hc, hm], show s.countV most = s.pk.1 by simp [RdS.countV, hs, hc, hm]] at HN
  have HB := Lib.hid (step_stuck s hs s.pk.2.1)
  have hpk := (pk_facts s h.le).2.1 hc
  obtain ⟨g, rfl, _⟩ := h.row.form (by omega)
  have hlk := fits_of s hc hl
  have hsm := h.small
  have Fin : Hid (∀ w1, Rdr w1 p (some ⟨g, 0, none⟩) c (s.step s.pk.2.1) → Rdr (w1.setCell ⟨p, 5, none⟩ (.int .i64 ((s.off : Int) + (s.pk.2.1 : Int) + (s.pk.1 : Int)))) p (some ⟨g, 0, none⟩) c (s.step (s.pk.2.1 + s.pk.1))) := fun w1 hr => by
    have := hr.moved (s.off + (s.pk.2.1 + s.pk.1)) (by show _ ≤ s.buf.length; omega)
    rw [show ((s.off + (s.pk.2.1 + s.pk.1) : Nat) : Int) = (s.off : Int) + (s.pk.2.1 : Int) + (s.pk.1 : Int) by omega] at this
    exact this
  have hlt := (pk_facts s h.le).1
  have hcap := h.row.rd.le
  have e1 : (s.step s.pk.2.1).off = s.off + s.pk.2.1 := rfl
  have e2 : (s.step s.pk.2.1).buf = s.buf := rfl
  have HBD : Hid (∀ w1 c, Rdr w1 p (some ⟨g, 0, none⟩) c (s.step s.pk.2.1) → Rd w1 (some ⟨g, s.off + s.pk.2.1, none⟩) s.pk.1 (c - (s.off + s.pk.2.1)) s.body ∧ ¬ inA (some ⟨g, s.off + s.pk.2.1, none⟩) p) := fun w1 c hr =>
    ⟨rd_cut hr.row.rd _ _ (by show _ ≤ s.buf.length; omega), fun hk => hr.ne (by rw [inA_some] at hk ⊢; exact hk)⟩
  have HB0 : Hid (s.pk.1 = 0 → s.body = []) := fun e => by unfold RdS.body; rw [e]; rfl
  generalize hs2 : s.step s.pk.2.1 = s2 at *
  generalize hs3 : s.step (s.pk.2.1 + s.pk.1) = s3 at *
  generalize s.body = bd at *
  generalize s.pk.1 = V at *
  generalize s.pk.2.1 = n1 at *
  have hcc : (c = s.off + n1 ∧ V = 0) ∨ s.off + n1 < c := by omega
  have g1 : decide (s.buf.length - (s.off + n1) < V) = false := by simpa using hlk
  clear hs hc hs2 hm hl hs3 h
  rcases hcc with ⟨rfl, rfl⟩ | hcc
  · obtain rfl := HB0.out rfl
    go_enter Tryd.func144, Tryd.ntmps144
    go_wp2_with fail
    refine HS.out.mono ?_
    rintro e w' ⟨rfl, rfl⟩
    go_wp2_with fail
    refine HN.out.mono ?_
    rintro e w1 ⟨rfl, hr, hch⟩
    have HS1 := Lib.hid (hr.stuckC HB.out)
    have d4 : w1.cell? ⟨p, 4, none⟩ = some (.slice (some ⟨g, 0, none⟩) s2.buf.length _) := hr.blk.cell 4
    have d5 : w1.cell? ⟨p, 5, none⟩ = some (.int .i64 (s2.off : Int)) := hr.blk.cell 5
    rw [e2] at d4
    rw [e1] at d5
    have f5 := hr.blk.frozen 5
    have HR := Lib.hid hr
    clear hr e1 e2
    go_wp2_with (go_at_call 132; refine HS1.out.mono ?_; rintro e w' ⟨rfl, rfl⟩)
    go_quiet (fail)
    go_wp2
    go_ret
    exact ⟨_, _, rfl, by simpa using Fin.out _ (HR.out.drewN nq), rd_none _, (hch.drewN nq).set (fun _ => rfl) _⟩
  · go_enter Tryd.func144, Tryd.ntmps144
    go_wp2_with fail
    refine HS.out.mono ?_
    rintro e w' ⟨rfl, rfl⟩
    go_wp2_with fail
    refine HN.out.mono ?_
    rintro e w1 ⟨rfl, hr, hch⟩
    have HS1 := Lib.hid (hr.stuckC HB.out)
    have d4 : w1.cell? ⟨p, 4, none⟩ = some (.slice (some ⟨g, 0, none⟩) s2.buf.length _) := hr.blk.cell 4
    have d5 : w1.cell? ⟨p, 5, none⟩ = some (.int .i64 (s2.off : Int)) := hr.blk.cell 5
    rw [e2] at d4
    rw [e1] at d5
    have f5 := hr.blk.frozen 5
    have HR := Lib.hid hr
    clear hr e1 e2
    go_wp2_with (go_at_call 132; refine HS1.out.mono ?_; rintro e w' ⟨rfl, rfl⟩)
    go_quiet (fail)
    go_wp2
    go_ret
    have hb := HBD.out _ _ HR.out
    exact ⟨_, _, rfl, by simpa using Fin.out _ (HR.out.drewN nq), (hb.1.drewN nq).set_ne hb.2 _, (hch.drewN nq).set (fun _ => rfl) _⟩
end
end Go.Proofs.YtbhmnkpbaeemeaaDoor

/-! # W43 -/
namespace Go.Proofs.YtbhmnkpbaeemeaaDoor
open Go.RowKit

/-- What piece gives of a text. -/
def TxPost (w : World) (p : Nat) (A : Option Addr) (c : Nat) (s : RdS) (e : Ending) (w' : World) : Prop :=
  (Lib.validD s.body = false ∧ e = .returned (.slice none 0 0) ∧ Rdr w' p A c (s.no 27 s.off) ∧ Chg w w' (· = p)) ∨
  (Lib.validD s.body = true ∧ ∃ A' c', e = .returned (.slice A' s.pk.1 c') ∧ Rdr w' p A c (s.step (s.pk.2.1 + s.pk.1)) ∧ Rd w' A' s.pk.1 c' s.body ∧ Chg w w' (· = p))

section
variable {w : World} {p : Nat} {A : Option Addr} {c : Nat} {s : RdS}
set_option maxHeartbeats 1000000 in
theorem piece_text (h : Rdr w p A c s) (most : Int) (hs : s.stuck = false) (hmx : most ≤ 9223372036854775807) (hc : s.pk.2.2 = 0) (hm : ¬ s.much most = true) (hl : ¬ s.lacks = true) (hU : ∀ w', Chg w w' (· = p) → U8T w') :
    Calls Tryd.prog 144 #[.pointer (some ⟨p, 0, none⟩), .int .i64 most, .bool true] w (TxPost w p A c s) := by
  have HS := Lib.hid (h.stuckC hs)
  have c5 : w.cell? ⟨p, 5, none⟩ = some (.int .i64 (s.off : Int)) := h.blk.cell 5
  have HN := Lib.hid (rdCount_any h most hmx)
  rw [show s.countS most = s.step s.pk.2.1 by simp [RdS.countS, hs, hc, hm], show s.countV most = s.pk.1 by simp [RdS.countV, hs, hc, hm]] at HN
  have HB := Lib.hid (step_stuck s hs s.pk.2.1)
  have hpk := (pk_facts s h.le).2.1 hc
  obtain ⟨g, rfl, _⟩ := h.row.form (by omega)
  have hlk := fits_of s hc hl
  have hsm := h.small
  have HU := Lib.hid hU
  have hle := h.le
  have Fin : Hid (∀ w1, Rdr w1 p (some ⟨g, 0, none⟩) c (s.step s.pk.2.1) → Rdr (w1.setCell ⟨p, 5, none⟩ (.int .i64 ((s.off : Int) + (s.pk.2.1 : Int) + (s.pk.1 : Int)))) p (some ⟨g, 0, none⟩) c (s.step (s.pk.2.1 + s.pk.1))) := fun w1 hr => by
    have := hr.moved (s.off + (s.pk.2.1 + s.pk.1)) (by show _ ≤ s.buf.length; omega)
    rw [show ((s.off + (s.pk.2.1 + s.pk.1) : Nat) : Int) = (s.off : Int) + (s.pk.2.1 : Int) + (s.pk.1 : Int) by omega] at this
    exact this
  have FinB := Lib.hid (fun w1 (hr : Rdr w1 p (some ⟨g, 0, none⟩) c (s.step s.pk.2.1)) => back_fail hr hs h.le 27 0)
  unfold FailAt at FinB
  have hlt := (pk_facts s h.le).1
  have hcap := h.row.rd.le
  have e1 : (s.step s.pk.2.1).off = s.off + s.pk.2.1 := rfl
  have e2 : (s.step s.pk.2.1).buf = s.buf := rfl
  have HBD : Hid (∀ w1 c, Rdr w1 p (some ⟨g, 0, none⟩) c (s.step s.pk.2.1) → Rd w1 (some ⟨g, s.off + s.pk.2.1, none⟩) s.pk.1 (c - (s.off + s.pk.2.1)) s.body ∧ ¬ inA (some ⟨g, s.off + s.pk.2.1, none⟩) p) := fun w1 c hr =>
    ⟨rd_cut hr.row.rd _ _ (by show _ ≤ s.buf.length; omega), fun hk => hr.ne (by rw [inA_some] at hk ⊢; exact hk)⟩
  have HB0 : Hid (s.pk.1 = 0 → s.body = []) := fun e => by unfold RdS.body; rw [e]; rfl
  have hbl : s.body.length ≤ 1000000000 := by unfold RdS.body RdS.rest; simp; omega
  unfold TxPost
  generalize hs2 : s.step s.pk.2.1 = s2 at *
  generalize hs3 : s.step (s.pk.2.1 + s.pk.1) = s3 at *
  generalize s.body = bd at *
  generalize s.pk.1 = V at *
  generalize s.pk.2.1 = n1 at *
  have hcc : (c = s.off + n1 ∧ V = 0) ∨ s.off + n1 < c := by omega
  have g1 : decide (s.buf.length - (s.off + n1) < V) = false := by simpa using hlk
  have HRU : ∀ W, U8T W → Hid (Calls Tryd.prog 138 #[.string ⟨bd.toArray⟩] W fun e w' => e = .returned (.bool (Lib.validD bd)) ∧ Below W.heap.size W w') := fun W (hW : U8T W) => runes_any ⟨bd.toArray⟩ W (by show bd.toArray.size ≤ _; simp; omega) hW
  clear hs hc hs2 hm hl hs3 h hU hbl
  rcases hcc with ⟨rfl, rfl⟩ | hcc
  · obtain rfl := HB0.out rfl
    go_enter Tryd.func144, Tryd.ntmps144
    go_wp2_with fail
    refine HS.out.mono ?_
    rintro e w' ⟨rfl, rfl⟩
    go_wp2_with fail
    refine HN.out.mono ?_
    rintro e w1 ⟨rfl, hr, hch⟩
    have HS1 := Lib.hid (hr.stuckC HB.out)
    have d4 : w1.cell? ⟨p, 4, none⟩ = some (.slice (some ⟨g, 0, none⟩) s2.buf.length _) := hr.blk.cell 4
    have d5 : w1.cell? ⟨p, 5, none⟩ = some (.int .i64 (s2.off : Int)) := hr.blk.cell 5
    rw [e2] at d4
    rw [e1] at d5
    have HR := Lib.hid hr
    have hcv := fun q => (rd_none (w := w1.drewN q) ⟨g, 0, none⟩).str
    have HUU := fun q => Lib.hid (HU.out _ (hch.drewN q))
    clear hr e2
    go_wp2_with (go_at_call 132; refine HS1.out.mono ?_; rintro e w' ⟨rfl, rfl⟩)
    go_quiet (fail)
    go_wp2_with (go_at_call 138; refine (HRU _ (HUU _).out).out.mono ?_; rintro e w2 ⟨rfl, hb⟩; have HBE := Lib.hid hb; have R2 := Lib.hid ((HR.out.drewN nq).below hb); have k5 : w2.cell? ⟨p, 5, none⟩ = some (.int .i64 (s2.off : Int)) := R2.out.blk.cell 5; have f5 := R2.out.blk.frozen 5; rw [e1] at k5; clear hb)
    go_ret
    have R3 := Fin.out _ R2.out
    exact .inr ⟨rfl, _, _, rfl, by simpa using R3, rd_none _, ((hch.drewN nq).thenBelow HBE.out).set (fun _ => rfl) _⟩
  · cases hv : Lib.validD bd
    · rw [hv] at HRU
      clear hv
      go_enter Tryd.func144, Tryd.ntmps144
      go_wp2_with fail
      refine HS.out.mono ?_
      rintro e w' ⟨rfl, rfl⟩
      go_wp2_with fail
      refine HN.out.mono ?_
      rintro e w1 ⟨rfl, hr, hch⟩
      have HS1 := Lib.hid (hr.stuckC HB.out)
      have d4 : w1.cell? ⟨p, 4, none⟩ = some (.slice (some ⟨g, 0, none⟩) s2.buf.length _) := hr.blk.cell 4
      have d5 : w1.cell? ⟨p, 5, none⟩ = some (.int .i64 (s2.off : Int)) := hr.blk.cell 5
      rw [e2] at d4
      rw [e1] at d5
      have HR := Lib.hid hr
      have hcv := fun q => ((HBD.out _ _ hr).1.drewN q).str
      have HUU := fun q => Lib.hid (HU.out _ (hch.drewN q))
      clear hr e2
      go_wp2_with (go_at_call 132; refine HS1.out.mono ?_; rintro e w' ⟨rfl, rfl⟩)
      go_quiet (fail)
      go_wp2_with first | (go_at_call 138; refine (HRU _ (HUU _).out).out.mono ?_; rintro e w2 ⟨rfl, hb⟩; have HBE := Lib.hid hb; have R2 := Lib.hid ((HR.out.drewN nq).below hb); have k5 : w2.cell? ⟨p, 5, none⟩ = some (.int .i64 (s2.off : Int)) := R2.out.blk.cell 5; have f5 := R2.out.blk.frozen 5; rw [e1] at k5; have HF := Lib.hid (FinB.out w2 R2.out); clear hb) | (go_at_call 133; refine HF.out.1.mono ?_; rintro e w' ⟨rfl, rfl⟩)
      go_ret
      exact .inl ⟨trivial, rfl, HF.out.2, (((hch.drewN nq).thenBelow HBE.out).set (fun _ => rfl) _).trans' (chg_failed1 _ p _ _)⟩
    · rw [hv] at HRU
      clear hv
      go_enter Tryd.func144, Tryd.ntmps144
      go_wp2_with fail
      refine HS.out.mono ?_
      rintro e w' ⟨rfl, rfl⟩
      go_wp2_with fail
      refine HN.out.mono ?_
      rintro e w1 ⟨rfl, hr, hch⟩
      have HS1 := Lib.hid (hr.stuckC HB.out)
      have d4 : w1.cell? ⟨p, 4, none⟩ = some (.slice (some ⟨g, 0, none⟩) s2.buf.length _) := hr.blk.cell 4
      have d5 : w1.cell? ⟨p, 5, none⟩ = some (.int .i64 (s2.off : Int)) := hr.blk.cell 5
      rw [e2] at d4
      rw [e1] at d5
      have HR := Lib.hid hr
      have hcv := fun q => ((HBD.out _ _ hr).1.drewN q).str
      have HUU := fun q => Lib.hid (HU.out _ (hch.drewN q))
      clear hr e2
      go_wp2_with (go_at_call 132; refine HS1.out.mono ?_; rintro e w' ⟨rfl, rfl⟩)
      go_quiet (fail)
      go_wp2_with (go_at_call 138; refine (HRU _ (HUU _).out).out.mono ?_; rintro e w2 ⟨rfl, hb⟩; have HBE := Lib.hid hb; have R2 := Lib.hid ((HR.out.drewN nq).below hb); have k5 : w2.cell? ⟨p, 5, none⟩ = some (.int .i64 (s2.off : Int)) := R2.out.blk.cell 5; have f5 := R2.out.blk.frozen 5; rw [e1] at k5; clear hb)
      go_ret
      have hb := HBD.out _ _ R2.out
      exact .inr ⟨trivial, _, _, rfl, by simpa using Fin.out _ R2.out, hb.1.set_ne hb.2 _, ((hch.drewN nq).thenBelow HBE.out).set (fun _ => rfl) _⟩
end
end Go.Proofs.YtbhmnkpbaeemeaaDoor

/-! # W44 -/
namespace Go.Proofs.YtbhmnkpbaeemeaaDoor
open Go.RowKit

/-! ## a nil reader -/
section
variable (w : World)
theorem take_nil (n : Int) : Calls Tryd.prog 166 #[.pointer none, .int .i64 n] w fun e w' => e = .returned (.slice none 0 0) ∧ w = w' := by
  go_enter Tryd.func166, Tryd.ntmps166
  go_wp2
  go_ret
  exact ⟨rfl, rfl⟩
theorem sum_nil (n : Int) : Calls Tryd.prog 134 #[.pointer none, .int .i64 n] w fun e w' => e = .returned (.int .u64 0) ∧ w = w' := by
  go_enter Tryd.func134, Tryd.ntmps134
  go_wp2_with (go_at_call 166; refine (take_nil w n).mono ?_; rintro e w' ⟨rfl, rfl⟩)
  refine wp_loop_rounds 1 ?_
  rw [rounds_succ]
  go_wp2
  go_ret
  exact ⟨rfl, rfl⟩
theorem rU8_nil : Calls Tryd.prog 69 #[.pointer none] w fun e w' => e = .returned (.int .u8 0) ∧ w = w' := by
  go_enter Tryd.func69, Tryd.ntmps69
  go_wp2_with (go_at_call 134; refine (sum_nil w _).mono ?_; rintro e w' ⟨rfl, rfl⟩)
  go_ret
  exact ⟨rfl, rfl⟩
theorem rU16_nil : Calls Tryd.prog 68 #[.pointer none] w fun e w' => e = .returned (.int .u16 0) ∧ w = w' := by
  go_enter Tryd.func68, Tryd.ntmps68
  go_wp2_with (go_at_call 134; refine (sum_nil w _).mono ?_; rintro e w' ⟨rfl, rfl⟩)
  go_ret
  exact ⟨rfl, rfl⟩
theorem rU32_nil : Calls Tryd.prog 70 #[.pointer none] w fun e w' => e = .returned (.int .u32 0) ∧ w = w' := by
  go_enter Tryd.func70, Tryd.ntmps70
  go_wp2_with (go_at_call 134; refine (sum_nil w _).mono ?_; rintro e w' ⟨rfl, rfl⟩)
  go_ret
  exact ⟨rfl, rfl⟩
theorem rU64_nil : Calls Tryd.prog 103 #[.pointer none] w fun e w' => e = .returned (.int .u64 0) ∧ w = w' := by
  go_enter Tryd.func103, Tryd.ntmps103
  go_wp2_with (go_at_call 134; refine (sum_nil w _).mono ?_; rintro e w' ⟨rfl, rfl⟩)
  go_ret
  exact ⟨rfl, rfl⟩
theorem rNum_nil : Calls Tryd.prog 88 #[.pointer none] w fun e w' => e = .returned (.int .u64 0) ∧ w = w' := by
  go_enter Tryd.func88, Tryd.ntmps88
  go_wp2
  go_ret
  exact ⟨rfl, rfl⟩
theorem rFlag_nil : Calls Tryd.prog 90 #[.pointer none] w fun e w' => e = .returned (.bool false) ∧ w = w' := by
  go_enter Tryd.func90, Tryd.ntmps90
  go_wp2
  go_ret
  exact ⟨rfl, rfl⟩
theorem rCount_nil (most : Int) : Calls Tryd.prog 92 #[.pointer none, .int .i64 most] w fun e w' => e = .returned (.int .i64 0) ∧ w = w' := by
  go_enter Tryd.func92, Tryd.ntmps92
  go_wp2
  go_ret
  exact ⟨rfl, rfl⟩
theorem piece_nil (most : Int) (tx : Bool) : Calls Tryd.prog 144 #[.pointer none, .int .i64 most, .bool tx] w fun e w' => e = .returned (.slice none 0 0) ∧ w = w' := by
  go_enter Tryd.func144, Tryd.ntmps144
  go_wp2
  go_ret
  exact ⟨rfl, rfl⟩
theorem rAt_nil : Calls Tryd.prog 41 #[.pointer none] w fun e w' => e = .returned (.int .i64 0) ∧ w = w' := by
  go_enter Tryd.func41, Tryd.ntmps41
  go_wp2
  go_ret
  exact ⟨rfl, rfl⟩
theorem rLeft_nil : Calls Tryd.prog 42 #[.pointer none] w fun e w' => e = .returned (.int .i64 0) ∧ ∃ q, w' = w.drewN q := by
  go_enter Tryd.func42, Tryd.ntmps42
  go_wp2
  go_ret
  exact ⟨rfl, 0, rfl⟩
theorem rErr_nil : Calls Tryd.prog 33 #[.pointer none] w fun e w' => ∃ err, e = .returned err ∧ ErrIs w' err 3 0 ∧ Below w.heap.size w w' := by
  go_enter Tryd.func33, Tryd.ntmps33
  go_wp2_with (go_at_call 61; refine (fault_any _ _ _).mono ?_; rintro e w' ⟨rfl, rfl⟩)
  go_ret
  exact ⟨_, rfl, .inr ⟨_, rfl, Blk.new _ _ _, by decide⟩, by go_grown⟩
end

/-! ## the reader of the program's, nil or not, beside whatever else there is -/
section
variable {w0 w w' : World} {P A : Option Addr} {c : Nat} {s s' : RdS} {l : List Ch} {p : Nat}
theorem Sep.rn (S : Sep w0 w (cRN (some ⟨p, 0, none⟩) A c s :: l)) (h : Rdr w' p A c s') (ok : s'.Ok) (hc : Chg w w' (· = p)) : Sep w0 w' (cRN (some ⟨p, 0, none⟩) A c s' :: l) := by
  refine S.mod (hc.mono fun k _ e => .inl (inA_some.2 e.symm)) _ (.inr ⟨p, rfl, h, ok⟩) fun k hk => .inl hk
theorem Sep.rnCases (S : Sep w0 w (cRN P A c s :: l)) : s.Ok ∧ ((P = none ∧ A = none ∧ s.stuck = true ∧ s.made = false) ∨ ∃ p, P = some ⟨p, 0, none⟩ ∧ Rdr w p A c s) := by
  rcases S.h0 with ⟨h1, h2, h3, h4⟩ | ⟨p, h1, h2, h3⟩
  · exact ⟨h4, .inl ⟨h1, h2, by simp [RdS.stuck, h3], h3⟩⟩
  · exact ⟨h3, .inr ⟨p, h1, h2⟩⟩

theorem sumS_dead (h : s.stuck = true) (n : Nat) : s.sumS n = s ∧ s.sumV n = 0 := by simp [RdS.sumS, RdS.sumV, h]
theorem numS_dead (h : s.stuck = true) : s.numS = s ∧ s.numV = 0 := by simp [RdS.numS, RdS.numV, h]
theorem flagS_dead (h : s.stuck = true) : s.flagS = s ∧ s.flagV = false := by simp [RdS.flagS, RdS.flagV, h]
theorem countS_dead (h : s.stuck = true) (m : Int) : s.countS m = s ∧ s.countV m = 0 := by simp [RdS.countS, RdS.countV, h]
theorem blobS_dead (h : s.stuck = true) (m : Int) : s.blobS m = s ∧ s.blobV m = [] := by simp [RdS.blobS, RdS.blobV, h]
theorem textS_dead (h : s.stuck = true) (m : Int) : s.textS m = s ∧ s.textV m = [] := by simp [RdS.textS, RdS.textV, h]

theorem rnU8 (S : Sep w0 w (cRN P A c s :: l)) : Calls Tryd.prog 69 #[.pointer P] w fun e w' => e = .returned (.int .u8 (s.sumV 1 : Int)) ∧ Sep w0 w' (cRN P A c (s.sumS 1) :: l) := by
  obtain ⟨ok, ⟨rfl, rfl, hd, _⟩ | ⟨p, rfl, h⟩⟩ := S.rnCases
  · rw [(sumS_dead hd 1).1, (sumS_dead hd 1).2]
    exact (rU8_nil w).mono fun e w' ⟨h1, h2⟩ => ⟨h1, h2 ▸ S⟩
  · exact (rU8_any w p A c s h).mono fun e w' ⟨h1, h2, h3⟩ => ⟨h1, S.rn h2 (ok.sumS 1) h3⟩
theorem rnU16 (S : Sep w0 w (cRN P A c s :: l)) : Calls Tryd.prog 68 #[.pointer P] w fun e w' => e = .returned (.int .u16 (s.sumV 2 : Int)) ∧ Sep w0 w' (cRN P A c (s.sumS 2) :: l) := by
  obtain ⟨ok, ⟨rfl, rfl, hd, _⟩ | ⟨p, rfl, h⟩⟩ := S.rnCases
  · rw [(sumS_dead hd 2).1, (sumS_dead hd 2).2]
    exact (rU16_nil w).mono fun e w' ⟨h1, h2⟩ => ⟨h1, h2 ▸ S⟩
  · exact (rU16_any w p A c s h).mono fun e w' ⟨h1, h2, h3⟩ => ⟨h1, S.rn h2 (ok.sumS 2) h3⟩
theorem rnU32 (S : Sep w0 w (cRN P A c s :: l)) : Calls Tryd.prog 70 #[.pointer P] w fun e w' => e = .returned (.int .u32 (s.sumV 4 : Int)) ∧ Sep w0 w' (cRN P A c (s.sumS 4) :: l) := by
  obtain ⟨ok, ⟨rfl, rfl, hd, _⟩ | ⟨p, rfl, h⟩⟩ := S.rnCases
  · rw [(sumS_dead hd 4).1, (sumS_dead hd 4).2]
    exact (rU32_nil w).mono fun e w' ⟨h1, h2⟩ => ⟨h1, h2 ▸ S⟩
  · exact (rU32_any w p A c s h).mono fun e w' ⟨h1, h2, h3⟩ => ⟨h1, S.rn h2 (ok.sumS 4) h3⟩
theorem rnU64 (S : Sep w0 w (cRN P A c s :: l)) : Calls Tryd.prog 103 #[.pointer P] w fun e w' => e = .returned (.int .u64 (s.sumV 8 : Int)) ∧ Sep w0 w' (cRN P A c (s.sumS 8) :: l) := by
  obtain ⟨ok, ⟨rfl, rfl, hd, _⟩ | ⟨p, rfl, h⟩⟩ := S.rnCases
  · rw [(sumS_dead hd 8).1, (sumS_dead hd 8).2]
    exact (rU64_nil w).mono fun e w' ⟨h1, h2⟩ => ⟨h1, h2 ▸ S⟩
  · exact (rU64_any w p A c s h).mono fun e w' ⟨h1, h2, h3⟩ => ⟨h1, S.rn h2 (ok.sumS 8) h3⟩
theorem rnNum (S : Sep w0 w (cRN P A c s :: l)) : Calls Tryd.prog 88 #[.pointer P] w fun e w' => e = .returned (.int .u64 (s.numV : Int)) ∧ Sep w0 w' (cRN P A c s.numS :: l) := by
  obtain ⟨ok, ⟨rfl, rfl, hd, _⟩ | ⟨p, rfl, h⟩⟩ := S.rnCases
  · rw [(numS_dead hd).1, (numS_dead hd).2]
    exact (rNum_nil w).mono fun e w' ⟨h1, h2⟩ => ⟨h1, h2 ▸ S⟩
  · exact (rdNum_any h).mono fun e w' ⟨h1, h2, h3⟩ => ⟨h1, S.rn h2 ok.numS h3⟩
theorem rnFlag (S : Sep w0 w (cRN P A c s :: l)) : Calls Tryd.prog 90 #[.pointer P] w fun e w' => e = .returned (.bool s.flagV) ∧ Sep w0 w' (cRN P A c s.flagS :: l) := by
  obtain ⟨ok, ⟨rfl, rfl, hd, _⟩ | ⟨p, rfl, h⟩⟩ := S.rnCases
  · rw [(flagS_dead hd).1, (flagS_dead hd).2]
    exact (rFlag_nil w).mono fun e w' ⟨h1, h2⟩ => ⟨h1, h2 ▸ S⟩
  · exact (rdFlag_any h).mono fun e w' ⟨h1, h2, h3⟩ => ⟨h1, S.rn h2 ok.flagS h3⟩
theorem rnCount (S : Sep w0 w (cRN P A c s :: l)) (m : Int) (hm : m ≤ 9223372036854775807) : Calls Tryd.prog 92 #[.pointer P, .int .i64 m] w fun e w' => e = .returned (.int .i64 (s.countV m : Int)) ∧ Sep w0 w' (cRN P A c (s.countS m) :: l) := by
  obtain ⟨ok, ⟨rfl, rfl, hd, _⟩ | ⟨p, rfl, h⟩⟩ := S.rnCases
  · rw [(countS_dead hd m).1, (countS_dead hd m).2]
    exact (rCount_nil w m).mono fun e w' ⟨h1, h2⟩ => ⟨h1, h2 ▸ S⟩
  · exact (rdCount_any h m hm).mono fun e w' ⟨h1, h2, h3⟩ => ⟨h1, S.rn h2 (ok.countS m) h3⟩

/-- A piece that is no text. -/
theorem piece_any (h : Rdr w p A c s) (ok : s.Ok) (m : Int) (hm : m ≤ 9223372036854775807) :
    Calls Tryd.prog 144 #[.pointer (some ⟨p, 0, none⟩), .int .i64 m, .bool false] w fun e w' => ∃ A' n c', e = .returned (.slice A' n c') ∧ Rd w' A' n c' (s.blobV m) ∧ Rdr w' p A c (s.blobS m) ∧ Chg w w' (· = p) := by
  by_cases hs : s.stuck = true
  · rw [(blobS_dead hs m).1, (blobS_dead hs m).2]
    exact (piece_stuck h m false hs).mono fun e w' ⟨h1, h2⟩ => ⟨_, _, _, h1, Rd.nilRd _, h2 ▸ h, h2 ▸ Chg.refl _ _⟩
  · have hs' : s.stuck = false := by simpa using hs
    by_cases hc : s.pk.2.2 = 0
    · by_cases hmu : s.much m = true
      · have e1 : s.countS m = s.no 21 s.off := by simp [RdS.countS, hs', hc, hmu]
        have e2 : s.blobS m = s.no 21 s.off := by simp [RdS.blobS, hs', hc, hmu]
        have e3 : s.blobV m = [] := by simp [RdS.blobV, RdS.fits, hs', hc, hmu]
        rw [e2, e3]
        exact (piece_no h m false hs' hm _ e1 (no_stuck s hs' 21 s.off)).mono fun e w' ⟨h1, h2, h3⟩ => ⟨_, _, _, h1, Rd.nilRd _, h2, h3⟩
      · by_cases hl : s.lacks = true
        · have e2 : s.blobS m = s.no 20 s.off := by simp [RdS.blobS, hs', hc, hmu, hl]
          have e3 : s.blobV m = [] := by simp [RdS.blobV, RdS.fits, hs', hc, hmu, hl]
          rw [e2, e3]
          exact (piece_lacks h m false hs' hm hc hmu hl).mono fun e w' ⟨h1, h2, h3⟩ => ⟨_, _, _, h1, Rd.nilRd _, h2, h3⟩
        · have e2 : s.blobS m = s.step (s.pk.2.1 + s.pk.1) := by simp [RdS.blobS, hs', hc, hmu, hl]
          have e3 : s.blobV m = s.body := by simp [RdS.blobV, RdS.fits, hs', hc, hmu, hl]
          rw [e2, e3]
          exact (piece_good h m hs' hm hc hmu hl).mono fun e w' ⟨A', c', h1, h2, h3, h4⟩ => ⟨_, _, _, h1, h3, h2, h4⟩
    · have e1 : s.countS m = s.no s.pk.2.2 s.off := by simp [RdS.countS, hs', hc]
      have e2 : s.blobS m = s.no s.pk.2.2 s.off := by simp [RdS.blobS, hs', hc]
      have e3 : s.blobV m = [] := by simp [RdS.blobV, RdS.fits, hs', hc]
      rw [e2, e3]
      exact (piece_no h m false hs' hm _ e1 (no_stuck s hs' _ s.off)).mono fun e w' ⟨h1, h2, h3⟩ => ⟨_, _, _, h1, Rd.nilRd _, h2, h3⟩

/-- A piece that must be a text. -/
theorem piece_anyT (h : Rdr w p A c s) (ok : s.Ok) (m : Int) (hm : m ≤ 9223372036854775807) (hU : ∀ w', Chg w w' (· = p) → U8T w') :
    Calls Tryd.prog 144 #[.pointer (some ⟨p, 0, none⟩), .int .i64 m, .bool true] w fun e w' => ∃ A' n c', e = .returned (.slice A' n c') ∧ Rd w' A' n c' (s.textV m) ∧ Rdr w' p A c (s.textS m) ∧ Chg w w' (· = p) := by
  by_cases hs : s.stuck = true
  · rw [(textS_dead hs m).1, (textS_dead hs m).2]
    exact (piece_stuck h m true hs).mono fun e w' ⟨h1, h2⟩ => ⟨_, _, _, h1, Rd.nilRd _, h2 ▸ h, h2 ▸ Chg.refl _ _⟩
  · have hs' : s.stuck = false := by simpa using hs
    by_cases hc : s.pk.2.2 = 0
    · by_cases hmu : s.much m = true
      · have e1 : s.countS m = s.no 21 s.off := by simp [RdS.countS, hs', hc, hmu]
        have e2 : s.textS m = s.no 21 s.off := by simp [RdS.textS, hs', hc, hmu]
        have e3 : s.textV m = [] := by simp [RdS.textV, RdS.textOk, RdS.fits, hs', hc, hmu]
        rw [e2, e3]
        exact (piece_no h m true hs' hm _ e1 (no_stuck s hs' 21 s.off)).mono fun e w' ⟨h1, h2, h3⟩ => ⟨_, _, _, h1, Rd.nilRd _, h2, h3⟩
      · by_cases hl : s.lacks = true
        · have e2 : s.textS m = s.no 20 s.off := by simp [RdS.textS, hs', hc, hmu, hl]
          have e3 : s.textV m = [] := by simp [RdS.textV, RdS.textOk, RdS.fits, hs', hc, hmu, hl]
          rw [e2, e3]
          exact (piece_lacks h m true hs' hm hc hmu hl).mono fun e w' ⟨h1, h2, h3⟩ => ⟨_, _, _, h1, Rd.nilRd _, h2, h3⟩
        · refine (piece_text h m hs' hm hc hmu hl hU).mono ?_
          rintro e w' (⟨hv, h1, h2, h3⟩ | ⟨hv, A', c', h1, h2, h3, h4⟩)
          · have e2 : s.textS m = s.no 27 s.off := by simp [RdS.textS, hs', hc, hmu, hl, hv]
            have e3 : s.textV m = [] := by simp [RdS.textV, RdS.textOk, RdS.fits, hs', hc, hmu, hl, hv]
            rw [e2, e3]
            exact ⟨_, _, _, h1, Rd.nilRd _, h2, h3⟩
          · have e2 : s.textS m = s.step (s.pk.2.1 + s.pk.1) := by simp [RdS.textS, hs', hc, hmu, hl, hv]
            have e3 : s.textV m = s.body := by simp [RdS.textV, RdS.textOk, RdS.fits, hs', hc, hmu, hl, hv]
            rw [e2, e3]
            exact ⟨_, _, _, h1, h3, h2, h4⟩
    · have e1 : s.countS m = s.no s.pk.2.2 s.off := by simp [RdS.countS, hs', hc]
      have e2 : s.textS m = s.no s.pk.2.2 s.off := by simp [RdS.textS, hs', hc]
      have e3 : s.textV m = [] := by simp [RdS.textV, RdS.textOk, RdS.fits, hs', hc]
      rw [e2, e3]
      exact (piece_no h m true hs' hm _ e1 (no_stuck s hs' _ s.off)).mono fun e w' ⟨h1, h2, h3⟩ => ⟨_, _, _, h1, Rd.nilRd _, h2, h3⟩
end
end Go.Proofs.YtbhmnkpbaeemeaaDoor

/-! # W45 -/
namespace Go.Proofs.YtbhmnkpbaeemeaaDoor
open Go.RowKit

theorem body_le (s : RdS) : s.body.length ≤ s.buf.length := by unfold RdS.body RdS.rest; simp; omega
theorem blobV_le (s : RdS) (m : Int) : (s.blobV m).length ≤ s.buf.length := by
  unfold RdS.blobV
  have := body_le s
  split
  · simp
  · split
    · exact this
    · simp
theorem textV_le (s : RdS) (m : Int) : (s.textV m).length ≤ s.buf.length := by
  unfold RdS.textV
  have := body_le s
  split
  · simp
  · split
    · exact this
    · simp

section
variable {w0 w w' : World} {P A : Option Addr} {c : Nat} {s s' : RdS} {l : List Ch} {p : Nat}
theorem rnBlob (S : Sep w0 w (cRN P A c s :: l)) (m : Int) (hm : m ≤ 9223372036854775807) :
    Calls Tryd.prog 94 #[.pointer P, .int .i64 m] w fun e w' => ∃ A' n, e = .returned (.slice A' n n) ∧ Sep w0 w' (cOb A' n n (s.blobV m) :: cRN P A c (s.blobS m) :: l) := by
  obtain ⟨ok, ⟨rfl, rfl, hd, _⟩ | ⟨p, rfl, h⟩⟩ := S.rnCases
  · rw [(blobS_dead hd m).1, (blobS_dead hd m).2]
    have HS := Lib.hid S
    clear S ok
    go_enter Tryd.func94, Tryd.ntmps94
    go_wp2_with first | (go_at_call 144; refine (piece_nil w m false).mono ?_; rintro e w' ⟨rfl, rfl⟩) | (go_at_call 71; refine (twin_nil w none 0).mono ?_; rintro e w' ⟨rfl, rfl⟩)
    go_ret
    exact ⟨none, 0, rfl, HS.out.push (Below.refl _ _) _ (Ob.nil _ _) fun k hk => by obtain ⟨a, e, _⟩ := hk; cases e⟩
  · have HP := Lib.hid (piece_any h ok m hm)
    have hbl := blobV_le s m
    have hsm := h.small
    have HS := Lib.hid S
    have OK := Lib.hid (ok.blobS m)
    generalize s.blobV m = bv at *
    generalize s.blobS m = s2 at *
    clear S ok h
    go_enter Tryd.func94, Tryd.ntmps94
    go_wp2_with fail
    refine HP.out.mono ?_
    rintro e w1 ⟨A1, n, c1, rfl, hr, h2, hch⟩
    have HR := Lib.hid hr
    have hn : n ≤ 1000000000 := by have := hr.len; omega
    have S2 := Lib.hid (HS.out.rn h2 OK.out hch)
    clear hr h2 hch
    go_wp2_with (go_at_call 71; refine (twin_any w1 _ _ _ _ HR.out hn).mono ?_; rintro e w2 ⟨A2, rfl, ho, hb⟩)
    go_ret
    exact ⟨A2, n, rfl, S2.out.pushO hb ho⟩

theorem rnText (S : Sep w0 w (cRN P A c s :: l)) (m : Int) (hm : m ≤ 9223372036854775807) (hU : U8T w0) :
    Calls Tryd.prog 96 #[.pointer P, .int .i64 m] w fun e w' => e = .returned (.string ⟨(s.textV m).toArray⟩) ∧ Sep w0 w' (cRN P A c (s.textS m) :: l) := by
  obtain ⟨ok, ⟨rfl, rfl, hd, _⟩ | ⟨p, rfl, h⟩⟩ := S.rnCases
  · rw [(textS_dead hd m).1, (textS_dead hd m).2]
    have HS := Lib.hid S
    clear S ok
    have hcv := (Rd.nilRd w).str
    go_enter Tryd.func96, Tryd.ntmps96
    go_wp2_with (go_at_call 144; refine (piece_nil w m true).mono ?_; rintro e w' ⟨rfl, rfl⟩)
    go_ret
    exact ⟨rfl, HS.out⟩
  · have hnew : w0.heap.size ≤ p := S.new _ (.head _) p (.inl (inA_some.2 rfl))
    have HP := Lib.hid (piece_anyT h ok m hm fun w' hc => hU.below (S.bel.trans (hc.below S.bel.size fun i hi e => by omega)))
    have HS := Lib.hid S
    have OK := Lib.hid (ok.textS m)
    generalize s.textV m = bv at *
    generalize s.textS m = s2 at *
    clear S ok h hU
    go_enter Tryd.func96, Tryd.ntmps96
    go_wp2_with fail
    refine HP.out.mono ?_
    rintro e w1 ⟨A1, n, c1, rfl, hr, h2, hch⟩
    have hcv := hr.str
    have S2 := Lib.hid (HS.out.rn h2 OK.out hch)
    clear hr h2 hch
    go_wp2
    go_ret
    exact ⟨rfl, S2.out⟩

theorem rnAt (S : Sep w0 w (cRN P A c s :: l)) : Calls Tryd.prog 41 #[.pointer P] w fun e w' => e = .returned (.int .i64 (s.off : Int)) ∧ w = w' := by
  obtain ⟨ok, ⟨rfl, rfl, hd, hm⟩ | ⟨p, rfl, h⟩⟩ := S.rnCases
  · rw [(ok.raw hm).2.1]
    exact rAt_nil w
  · have c5 : w.cell? ⟨p, 5, none⟩ = some (.int .i64 (s.off : Int)) := h.blk.cell 5
    clear h ok S
    go_enter Tryd.func41, Tryd.ntmps41
    go_wp2
    go_ret
    exact ⟨rfl, rfl⟩

theorem rnLeft (S : Sep w0 w (cRN P A c s :: l)) : Calls Tryd.prog 42 #[.pointer P] w fun e w' => e = .returned (.int .i64 ((s.buf.length - s.off : Nat) : Int)) ∧ ∃ q, w' = w.drewN q := by
  obtain ⟨ok, ⟨rfl, rfl, hd, hm⟩ | ⟨p, rfl, h⟩⟩ := S.rnCases
  · rw [(ok.raw hm).2.1, (ok.raw hm).1]
    exact rLeft_nil w
  · have c4 : w.cell? ⟨p, 4, none⟩ = some (.slice A s.buf.length c) := h.blk.cell 4
    have c5 : w.cell? ⟨p, 5, none⟩ = some (.int .i64 (s.off : Int)) := h.blk.cell 5
    have hle := ok.le
    have hsm := ok.small
    have hz : ((s.buf.length - s.off : Nat) : Int) = (s.buf.length : Int) - (s.off : Int) := by omega
    rw [hz]
    clear h ok S hz
    go_enter Tryd.func42, Tryd.ntmps42
    go_wp2
    go_quiet (fail)
    go_wp2
    go_ret
    exact ⟨rfl, nq, rfl⟩

theorem rnErr (S : Sep w0 w (cRN P A c s :: l)) : Calls Tryd.prog 33 #[.pointer P] w fun e w' => ∃ err, e = .returned err ∧ ErrIs w' err s.errC s.errA ∧ Below w.heap.size w w' := by
  obtain ⟨ok, ⟨rfl, rfl, hd, hm⟩ | ⟨p, rfl, h⟩⟩ := S.rnCases
  · have e1 : s.errC = 3 ∧ s.errA = 0 := by simp [RdS.errC, RdS.errA, hm]
    rw [e1.1, e1.2]
    exact rErr_nil w
  · have d0 : w.cell? ⟨p, 0, none⟩ = some (.bool s.made) := h.blk.cell 0
    have d1 : w.cell? ⟨p, 1, none⟩ = some (.bool s.bad) := h.blk.cell 1
    have d2 : w.cell? ⟨p, 2, none⟩ = some (.int .i64 s.code) := h.blk.cell 2
    have d3 : w.cell? ⟨p, 3, none⟩ = some (.int .i64 s.at_) := h.blk.cell 3
    have T : Calls Tryd.prog 98 #[.pointer (some ⟨p, 0, none⟩)] w fun e w' => ∃ err, e = .returned err ∧ ErrIs w' err s.errC s.errA ∧ Below w.heap.size w w' := by
      cases hm : s.made
      · have e1 : s.errC = 3 ∧ s.errA = 0 := by simp [RdS.errC, RdS.errA, hm]
        rw [e1.1, e1.2]
        rw [hm] at d0
        exact (told_unmade w p d0).mono fun e w' ⟨b, h1, _, h2, h3⟩ => ⟨_, h1, .inr ⟨b, rfl, h2, by decide⟩, h3⟩
      · rw [hm] at d0
        cases hb : s.bad
        · have e1 : s.errC = 0 ∧ s.errA = 0 := by simp [RdS.errC, RdS.errA, hm, hb]
          rw [e1.1, e1.2]
          rw [hb] at d1
          exact (told_good w p d0 d1).mono fun e w' ⟨h1, h2⟩ => ⟨_, h1, .inl ⟨rfl, rfl, rfl⟩, h2 ▸ Below.refl _ _⟩
        · have e1 : s.errC = s.code ∧ s.errA = s.at_ := by simp [RdS.errC, RdS.errA, hm, hb]
          have hne : s.code ≠ 0 := by have := ok.code; rw [hb] at this; simpa using this.symm
          rw [e1.1, e1.2]
          rw [hb] at d1
          exact (told_bad w p _ _ d0 d1 d2 d3).mono fun e w' ⟨b, h1, _, h2, h3⟩ => ⟨_, h1, .inr ⟨b, rfl, h2, hne⟩, h3⟩
    have HT := Lib.hid T
    clear h ok S T d0 d1 d2 d3
    generalize s.errC = ec at *
    generalize s.errA = ea at *
    go_enter Tryd.func33, Tryd.ntmps33
    go_wp2_with (go_at_call 98; refine HT.out.mono ?_; rintro e w1 ⟨err, rfl, he, hb⟩)
    go_ret
    exact ⟨err, rfl, he, hb⟩
end
end Go.Proofs.YtbhmnkpbaeemeaaDoor

/-! # W46 -/
namespace Go.Proofs.YtbhmnkpbaeemeaaDoor
open Go.RowKit

theorem errC_stuck {s : RdS} (ok : s.Ok) (h : s.stuck = true) : s.errC ≠ 0 := by
  unfold RdS.stuck at h
  unfold RdS.errC
  cases hm : s.made
  · simp
  · cases hb : s.bad
    · rw [hm, hb] at h; simp at h
    · have := ok.code
      rw [hb] at this
      simpa using this.symm
theorem errC_live {s : RdS} (h : s.stuck = false) : s.errC = 0 ∧ s.errA = 0 := by
  unfold RdS.stuck at h
  simp at h
  simp [RdS.errC, RdS.errA, h]

/-- A reader of the reference. -/
def cRr (q : Nat) (A : Option Addr) (c : Nat) (s : RdS) : Ch where
  F := wrF q A
  P w := Rr w q A c s
  lt w h k hk := h.lt hk
  loc w w' G h hc hF := h.chg hc hF

section
variable {w0 w w' : World} {P A : Option Addr} {c : Nat} {s s' : RdS} {l : List Ch} {p q : Nat}
theorem rnEnd (S : Sep w0 w (cRN P A c s :: l)) : Calls Tryd.prog 40 #[.pointer P] w fun e w' => ∃ err, e = .returned err ∧ ErrIs w' err s.endC s.endA ∧ Below w.heap.size w w' := by
  have ok := S.rnCases.1
  have HE := Lib.hid (rnErr S)
  cases hst : s.stuck
  · obtain ⟨p, rfl, h⟩ : ∃ p, P = some ⟨p, 0, none⟩ ∧ Rdr w p A c s := by
      rcases S.rnCases.2 with ⟨_, _, hd, _⟩ | h
      · rw [hst] at hd; cases hd
      · exact h
    rw [(errC_live hst).1, (errC_live hst).2] at HE
    have HS := Lib.hid S
    have hle := ok.le
    have hsm := ok.small
    rcases Nat.lt_or_ge s.off s.buf.length with hlt | hge
    · have e1 : s.endC = 28 ∧ s.endA = s.off := by simp [RdS.endC, RdS.endA, hst, hlt]
      rw [e1.1, e1.2]
      have g2 : decide (0 < s.buf.length - s.off) = true := by simp; omega
      clear hst S h ok e1
      go_enter Tryd.func40, Tryd.ntmps40
      go_wp2_with fail
      refine HE.out.mono ?_
      rintro e w1 ⟨err, rfl, he, hb⟩
      obtain ⟨rfl, _⟩ : err = .nilIface ∧ True := by
        rcases he with h | ⟨_, _, _, h⟩
        · exact ⟨h.1, trivial⟩
        · exact absurd rfl h
      have S1 := Lib.hid (HS.out.kept hb)
      have HB := Lib.hid hb
      clear he hb
      have HL := Lib.hid (rnLeft S1.out)
      obtain ⟨p', e', hR⟩ : ∃ p', (some (⟨p, 0, none⟩ : Addr)) = some ⟨p', 0, none⟩ ∧ Rdr w1 p' A c s := by
        rcases S1.out.rnCases.2 with ⟨h, _⟩ | h
        · cases h
        · exact h
      cases e'
      have c5 : w1.cell? ⟨p, 5, none⟩ = some (.int .i64 (s.off : Int)) := hR.blk.cell 5
      clear hR
      go_wp2_with first | (go_at_call 42; refine HL.out.mono ?_; rintro e w2 ⟨rfl, q, rfl⟩) | (go_at_call 61; refine (fault_any _ _ _).mono ?_; rintro e w' ⟨rfl, rfl⟩)
      go_ret
      exact ⟨_, rfl, .inr ⟨_, rfl, Blk.new _ _ _, by decide⟩, (below_drewN HB.out q).alloc HB.out.size _⟩
    · have e1 : s.endC = 0 ∧ s.endA = 0 := by simp [RdS.endC, RdS.endA, hst]; omega
      rw [e1.1, e1.2]
      have g2 : decide (0 < s.buf.length - s.off) = false := by simp; omega
      clear hst S h ok e1
      go_enter Tryd.func40, Tryd.ntmps40
      go_wp2_with fail
      refine HE.out.mono ?_
      rintro e w1 ⟨err, rfl, he, hb⟩
      obtain ⟨rfl, _⟩ : err = .nilIface ∧ True := by
        rcases he with h | ⟨_, _, _, h⟩
        · exact ⟨h.1, trivial⟩
        · exact absurd rfl h
      have HB := Lib.hid hb
      have HL := Lib.hid (rnLeft (HS.out.kept hb))
      clear he hb
      go_wp2_with (go_at_call 42; refine HL.out.mono ?_; rintro e w2 ⟨rfl, q, rfl⟩)
      go_ret
      exact ⟨_, rfl, .inl ⟨rfl, rfl, rfl⟩, below_drewN HB.out q⟩
  · have e1 : s.endC = s.errC ∧ s.endA = s.errA := by simp [RdS.endC, RdS.endA, hst]
    have hne := errC_stuck ok hst
    rw [e1.1, e1.2]
    clear hst S ok e1
    generalize s.errC = ec at *
    generalize s.errA = ea at *
    go_enter Tryd.func40, Tryd.ntmps40
    go_wp2_with fail
    refine HE.out.mono ?_
    rintro e w1 ⟨err, rfl, he, hb⟩
    obtain ⟨b, rfl, he⟩ : ∃ b, err = .iface 129 (.pointer (some ⟨b, 0, none⟩)) ∧ ErrIs w1 err ec ea := by
      rcases he with h | ⟨b, h1, h2, h3⟩
      · exact absurd h.2.1 hne
      · exact ⟨b, h1, .inr ⟨b, h1, h2, h3⟩⟩
    have HE1 := Lib.hid he
    clear he
    go_wp2
    go_ret
    exact ⟨_, rfl, HE1.out, hb⟩

/-! ### the reader of the reference -/
theorem Sep.rr (S : Sep w0 w (cRr q A c s :: l)) (h : Rr w' q A c s') (hc : Chg w w' (· = q)) : Sep w0 w' (cRr q A c s' :: l) :=
  S.mod (hc.mono fun k _ e => .inl e) _ h fun k hk => .inl hk

theorem rrFixed (S : Sep w0 w (cRr q A c s :: l)) (n : Nat) (hn : n ≤ 8) (h0 : 0 < n) : Calls Tryd.prog 140 #[.pointer (some ⟨q, 0, none⟩), .int .i64 (n : Int)] w fun e w' => e = .returned (.int .u64 (s.sumV n : Int)) ∧ Sep w0 w' (cRr q A c (s.sumS n) :: l) :=
  (Fixed_any' S.h0 n hn h0).mono fun e w' ⟨h1, h2, h3⟩ => ⟨h1, S.rr h2 h3⟩
theorem rrNum (S : Sep w0 w (cRr q A c s :: l)) : Calls Tryd.prog 89 #[.pointer (some ⟨q, 0, none⟩)] w fun e w' => e = .returned (.int .u64 (s.numV : Int)) ∧ Sep w0 w' (cRr q A c s.numS :: l) :=
  (rrNum_any S.h0).mono fun e w' ⟨h1, h2, h3⟩ => ⟨h1, S.rr h2 h3⟩
end
end Go.Proofs.YtbhmnkpbaeemeaaDoor

/-! # W47 -/
namespace Go.Proofs.YtbhmnkpbaeemeaaDoor
open Go.RowKit

section
variable {w0 w w' : World} {A : Option Addr} {c : Nat} {s s' : RdS} {l : List Ch} {q : Nat}
theorem rrDead (S : Sep w0 w (cRr q A c s :: l)) {b : Bool} (hs : s.stuck = b) : Calls Tryd.prog 142 #[.pointer (some ⟨q, 0, none⟩)] w fun e w' => e = .returned (.bool b) ∧ w = w' := Dead_any S.h0 hs
theorem rrFail (S : Sep w0 w (cRr q A c s :: l)) (hs : s.stuck = false) (code a : Nat) (hc : code ≠ 0) (ha : a ≤ s.buf.length) (z y : Int) (hz : z = code) (hy : y = a) : Calls Tryd.prog 143 #[.pointer (some ⟨q, 0, none⟩), .int .i64 z, .int .i64 y] w fun e w' => e = .returned (.tuple #[]) ∧ Sep w0 w' (cRr q A c (s.no code a) :: l) := by
  subst hz hy
  refine (rfail_any S.h0 code a).mono ?_
  rintro e w' ⟨rfl, rfl⟩
  have h : Rr w q A c s := S.h0
  exact ⟨rfl, S.rr (h.failed hs code a hc ha) (chg_failW _ _ _ _)⟩

theorem sumV1 {s : RdS} (hs : s.stuck = false) (hl : s.off < s.buf.length) : s.sumV 1 = (s.buf[s.off]'hl).toNat ∧ s.sumS 1 = s.step 1 := by
  have h1 : ¬ s.buf.length < s.off + 1 := by omega
  refine ⟨?_, by simp [RdS.sumS, hs, h1]⟩
  simp only [RdS.sumV, hs, Bool.false_eq_true, if_false, if_neg h1]
  rw [List.drop_eq_getElem_cons hl]
  simp only [List.take_succ_cons, List.take_zero, beV, List.foldl_cons, List.foldl_nil]
  omega
theorem flagNo_iff {s : RdS} (hl : s.off < s.buf.length) : s.flagNo = decide (1 < (s.buf[s.off]'hl).toNat) := by
  have hg : s.buf.getD s.off 0 = s.buf[s.off]'hl := by simp [List.getD, List.getElem?_eq_getElem hl]
  unfold RdS.flagNo
  rw [hg]
  simp [hl]

theorem rrFlag (S : Sep w0 w (cRr q A c s :: l)) : Calls Tryd.prog 91 #[.pointer (some ⟨q, 0, none⟩)] w fun e w' => e = .returned (.bool s.flagV) ∧ Sep w0 w' (cRr q A c s.flagS :: l) := by
  have ok : s.Ok := S.h0.ok
  have h : Rr w q A c s := S.h0
  have c2 : w.cell? ⟨q, 2, none⟩ = some (.int .i64 (s.off : Int)) := h.blk.cell 2
  have HF := Lib.hid (rrFixed S 1 (by omega) (by omega))
  have hV : s.sumV 1 < 256 := s.sumV_lt 1
  have HN := Lib.hid (natBeq (s.sumV 1) 1)
  cases ht : (s.sumS 1).stuck
  · have hs : s.stuck = false := by
      cases hs : s.stuck
      · rfl
      · simp [RdS.sumS, hs] at ht
    have hl : s.off < s.buf.length := by
      rcases Nat.lt_or_ge s.off s.buf.length with h | h
      · exact h
      · have : s.buf.length < s.off + 1 := by omega
        have e0 : s.sumS 1 = s.short := by simp [RdS.sumS, hs, this]
        rw [e0] at ht
        simp [RdS.short, RdS.stuck] at ht
    have hsum := sumV1 hs hl
    have hfl := flagNo_iff hl
    rw [← hsum.1] at hfl
    have HT := Lib.hid ht
    by_cases hx : 1 < s.sumV 1
    · have hfv : s.flagV = false ∧ s.flagS = s.no 26 s.off := by simp [RdS.flagV, RdS.flagS, hs, hfl, hx]
      rw [hfv.1, hfv.2]
      have e1 : (s.sumS 1).no 26 s.off = s.no 26 s.off := by rw [hsum.2]; rfl
      have HLE : Hid (s.off ≤ (s.sumS 1).buf.length) := by rw [hsum.2]; exact ok.le
      rw [← e1]
      generalize s.sumS 1 = t at *
      generalize s.sumV 1 = V at *
      clear ht hs hsum hfl hfv e1 ok h S
      go_enter Tryd.func91, Tryd.ntmps91
      go_wp2_with fail
      refine HF.out.mono ?_
      rintro e w1 ⟨rfl, hS⟩
      have S1 := Lib.hid hS; clear hS
      go_wp2_with first | (go_at_call 142; refine (rrDead S1.out HT.out).mono ?_; rintro e w' ⟨rfl, rfl⟩) | (go_at_call 143; refine (rrFail S1.out HT.out 26 s.off (by decide) HLE.out _ _ rfl rfl).mono ?_; rintro e w2 ⟨rfl, hS⟩)
      go_ret
      exact ⟨rfl, hS⟩
    · have hfv : s.flagV = (s.sumV 1 == 1) ∧ s.flagS = s.sumS 1 := by simp [RdS.flagV, RdS.flagS, hs, hfl, hx]
      rw [hfv.1, hfv.2]
      generalize s.sumS 1 = t at *
      generalize s.sumV 1 = V at *
      clear ht hs hsum hfl hfv ok h S
      go_enter Tryd.func91, Tryd.ntmps91
      go_wp2_with fail
      refine HF.out.mono ?_
      rintro e w1 ⟨rfl, hS⟩
      have S1 := Lib.hid hS; clear hS
      go_wp2_with (go_at_call 142; refine (rrDead S1.out HT.out).mono ?_; rintro e w' ⟨rfl, rfl⟩)
      go_ret
      exact ⟨congrArg _ (congrArg _ HN.out), S1.out⟩
  · have hfv : s.flagV = (s.sumV 1 == 1) ∧ s.flagS = s.sumS 1 := by
      cases hs : s.stuck
      · have hl : ¬ s.off < s.buf.length := fun hl => by
          rw [(sumV1 hs hl).2] at ht
          have : (s.step 1).stuck = s.stuck := rfl
          rw [this, hs] at ht
          cases ht
        have hf : s.flagNo = false := by unfold RdS.flagNo; simp; omega
        simp [RdS.flagV, RdS.flagS, hs, hf]
      · simp [RdS.flagV, RdS.flagS, RdS.sumV, RdS.sumS, hs]
    rw [hfv.1, hfv.2]
    have HT := Lib.hid ht
    generalize s.sumS 1 = t at *
    generalize s.sumV 1 = V at *
    clear ht hfv ok h S
    go_enter Tryd.func91, Tryd.ntmps91
    go_wp2_with fail
    refine HF.out.mono ?_
    rintro e w1 ⟨rfl, hS⟩
    have S1 := Lib.hid hS; clear hS
    go_wp2_with (go_at_call 142; refine (rrDead S1.out HT.out).mono ?_; rintro e w' ⟨rfl, rfl⟩)
    go_ret
    exact ⟨congrArg _ (congrArg _ HN.out), S1.out⟩

theorem rrCount (S : Sep w0 w (cRr q A c s :: l)) (most : Int) (hmx : most ≤ 9223372036854775807) : Calls Tryd.prog 93 #[.pointer (some ⟨q, 0, none⟩), .int .i64 most] w fun e w' => e = .returned (.int .i64 (s.countV most : Int)) ∧ Sep w0 w' (cRr q A c (s.countS most) :: l) := by
  have ok : s.Ok := S.h0.ok
  have h : Rr w q A c s := S.h0
  have c2 : w.cell? ⟨q, 2, none⟩ = some (.int .i64 (s.off : Int)) := h.blk.cell 2
  have HF := Lib.hid (rrNum S)
  have hpk := pk_facts s ok.le
  cases ht : s.numS.stuck
  · have hs : s.stuck = false := by
      cases hs : s.stuck
      · rfl
      · simp [RdS.numS, hs] at ht
    have hc : s.pk.2.2 = 0 := by
      by_cases hc : s.pk.2.2 = 0
      · exact hc
      · have e0 : s.numS = s.no s.pk.2.2 s.off := by simp [RdS.numS, hs, hc]
        rw [e0] at ht
        simp [RdS.no, RdS.stuck] at ht
    have e1 : s.numS = s.step s.pk.2.1 := by simp [RdS.numS, hs, hc]
    have e2 : s.numV = s.pk.1 := by simp [RdS.numV, hs]
    have HT := Lib.hid ht
    have hlt := hpk.1
    by_cases hm : most < (s.pk.1 : Int)
    · have hfv : s.countV most = 0 ∧ s.countS most = s.no 21 s.off := by simp [RdS.countV, RdS.countS, RdS.much, hs, hc, hm]
      rw [hfv.1, hfv.2]
      have e3 : s.numS.no 21 s.off = s.no 21 s.off := by rw [e1]; rfl
      have HLE : Hid (s.off ≤ s.numS.buf.length) := by rw [e1]; exact ok.le
      rw [← e3]
      rw [e2] at HF
      have hm' : most < 0 ∨ (0 ≤ most ∧ decide (most < (s.pk.1 : Int)) = true) := by
        rcases Int.lt_or_le most 0 with h | h
        · exact .inl h
        · exact .inr ⟨h, by simpa using hm⟩
      generalize s.numS = t at *
      generalize s.pk.1 = V at *
      clear ht hs hc hfv e1 e2 e3 ok h S hpk hm
      rcases hm' with h0 | ⟨h0, g2⟩
      all_goals
        go_enter Tryd.func93, Tryd.ntmps93
        go_wp2_with fail
        refine HF.out.mono ?_
        rintro e w1 ⟨rfl, hS⟩
        have S1 := Lib.hid hS; clear hS
        go_wp2_with first | (go_at_call 142; refine (rrDead S1.out HT.out).mono ?_; rintro e w' ⟨rfl, rfl⟩) | (go_at_call 143; refine (rrFail S1.out HT.out 21 s.off (by decide) HLE.out _ _ rfl rfl).mono ?_; rintro e w2 ⟨rfl, hS⟩)
        go_ret
        exact ⟨rfl, hS⟩
    · have hfv : s.countV most = s.pk.1 ∧ s.countS most = s.numS := by simp [RdS.countV, RdS.countS, RdS.much, hs, hc, hm, e1]
      rw [hfv.1, hfv.2]
      rw [e2] at HF
      have g1 : decide (most < 0) = false := by simp; omega
      have g2 : decide (most < (s.pk.1 : Int)) = false := by simpa using hm
      have g3 : 0 ≤ most := by omega
      have g4 : (s.pk.1 : Int) ≤ most := by omega
      generalize s.numS = t at *
      generalize s.pk.1 = V at *
      clear ht hs hc hfv e1 e2 ok h S hpk hm
      go_enter Tryd.func93, Tryd.ntmps93
      go_wp2_with fail
      refine HF.out.mono ?_
      rintro e w1 ⟨rfl, hS⟩
      have S1 := Lib.hid hS; clear hS
      go_wp2_with (go_at_call 142; refine (rrDead S1.out HT.out).mono ?_; rintro e w' ⟨rfl, rfl⟩)
      go_ret
      exact ⟨rfl, S1.out⟩
  · have hfv : s.numV = 0 ∧ s.countV most = 0 ∧ s.countS most = s.numS := by
      cases hs : s.stuck
      · have hc : s.pk.2.2 ≠ 0 := fun hc => by
          have : s.numS = s.step s.pk.2.1 := by simp [RdS.numS, hs, hc]
          rw [this] at ht
          have h2 : (s.step s.pk.2.1).stuck = s.stuck := rfl
          rw [h2, hs] at ht
          cases ht
        simp [RdS.numV, RdS.countV, RdS.countS, RdS.numS, hs, hc, hpk.2.2 hc]
      · simp [RdS.numV, RdS.countV, RdS.countS, RdS.numS, hs]
    rw [hfv.2.1, hfv.2.2]
    rw [hfv.1] at HF
    have HT := Lib.hid ht
    generalize s.numS = t at *
    clear ht hfv ok h S hpk
    go_enter Tryd.func93, Tryd.ntmps93
    go_wp2_with fail
    refine HF.out.mono ?_
    rintro e w1 ⟨rfl, hS⟩
    have S1 := Lib.hid hS; clear hS
    go_wp2_with (go_at_call 142; refine (rrDead S1.out HT.out).mono ?_; rintro e w' ⟨rfl, rfl⟩)
    go_ret
    exact ⟨rfl, S1.out⟩
end
end Go.Proofs.YtbhmnkpbaeemeaaDoor

/-! # W48 -/
namespace Go.Proofs.YtbhmnkpbaeemeaaDoor
open Go.RowKit

theorem countS_stuck {s : RdS} {m : Int} (h : (s.countS m).stuck = true) : s.blobS m = s.countS m ∧ s.blobV m = [] := by
  cases hs : s.stuck
  · by_cases hc : s.pk.2.2 = 0
    · by_cases hm : s.much m = true
      · simp [RdS.blobS, RdS.blobV, RdS.countS, RdS.fits, hs, hc, hm]
      · have : s.countS m = s.step s.pk.2.1 := by simp [RdS.countS, hs, hc, hm]
        rw [this] at h
        have h2 : (s.step s.pk.2.1).stuck = s.stuck := rfl
        rw [h2, hs] at h
        cases h
    · simp [RdS.blobS, RdS.blobV, RdS.countS, RdS.fits, hs, hc]
  · simp [RdS.blobS, RdS.blobV, RdS.countS, hs]
theorem no_is_stuck (s : RdS) (code a : Nat) : (s.no code a).stuck = true := by simp [RdS.no, RdS.stuck]
theorem countS_live {s : RdS} {m : Int} (h : (s.countS m).stuck = false) : s.stuck = false ∧ s.pk.2.2 = 0 ∧ ¬ s.much m = true ∧ s.countS m = s.step s.pk.2.1 ∧ s.countV m = s.pk.1 := by
  cases hs : s.stuck
  · by_cases hc : s.pk.2.2 = 0
    · by_cases hm : s.much m = true
      · have : s.countS m = s.no 21 s.off := by simp [RdS.countS, hs, hc, hm]
        rw [this, no_is_stuck] at h
        cases h
      · exact ⟨rfl, hc, hm, by simp [RdS.countS, hs, hc, hm], by simp [RdS.countV, hs, hc, hm]⟩
    · have : s.countS m = s.no s.pk.2.2 s.off := by simp [RdS.countS, hs, hc]
      rw [this, no_is_stuck] at h
      cases h
  · have : s.countS m = s := by simp [RdS.countS, hs]
    rw [this, hs] at h
    cases h
theorem step_step (s : RdS) (a b : Nat) : (s.step a).step b = s.step (a + b) := by simp [RdS.step, Nat.add_assoc]

section
variable {w0 w w' : World} {A : Option Addr} {c : Nat} {s s' : RdS} {l : List Ch} {q : Nat}
theorem rrLeft (S : Sep w0 w (cRr q A c s :: l)) : Calls Tryd.prog 100 #[.pointer (some ⟨q, 0, none⟩)] w fun e w' => e = .returned (.int .i64 ((s.buf.length - s.off : Nat) : Int)) ∧ ∃ n, w' = w.drewN n := Left_any S.h0

/-- What a list of bytes told leaves. -/
def BlPost (w0 : World) (b : List UInt8) (l : List Ch) (e : Ending) (w' : World) : Prop :=
  ∃ A' n c', e = .returned (.slice A' n c') ∧ Sep w0 w' (cOb A' n c' b :: l)
theorem blNil (S : Sep w0 w l) : BlPost w0 [] l (.returned (.slice none 0 0)) w :=
  ⟨none, 0, 0, rfl, S.push (Below.refl _ _) _ (Ob.nil _ _) fun k hk => by obtain ⟨a, e, _⟩ := hk; cases e⟩

set_option maxHeartbeats 2000000 in
theorem rrBlob (S : Sep w0 w (cRr q A c s :: l)) (m : Int) (hmx : m ≤ 9223372036854775807) :
    Calls Tryd.prog 95 #[.pointer (some ⟨q, 0, none⟩), .int .i64 m] w (BlPost w0 (s.blobV m) (cRr q A c (s.blobS m) :: l)) := by
  have ok : s.Ok := S.h0.ok
  have h : Rr w q A c s := S.h0
  have c2 : w.cell? ⟨q, 2, none⟩ = some (.int .i64 (s.off : Int)) := h.blk.cell 2
  have HF := Lib.hid (rrCount S m hmx)
  cases ht : (s.countS m).stuck
  · obtain ⟨hs, hc, hm, e1, e2⟩ := countS_live ht
    have HT := Lib.hid ht
    have hpk := (pk_facts s ok.le).2.1 hc
    obtain ⟨g, rfl, _⟩ := h.row.form (by omega)
    have hlt := (pk_facts s ok.le).1
    have hsm := ok.small
    have hcap := h.row.rd.le
    by_cases hl : s.lacks = true
    · have e3 : s.blobS m = s.no 20 s.off := by simp [RdS.blobS, hs, hc, hm, hl]
      have e4 : s.blobV m = [] := by simp [RdS.blobV, RdS.fits, hs, hc, hm, hl]
      have hlk : s.buf.length - (s.off + s.pk.2.1) < s.pk.1 := by simpa [RdS.lacks, RdS.rest] using hl
      rw [e3, e4]
      have e5 : (s.countS m).no 20 s.off = s.no 20 s.off := by rw [e1]; rfl
      have HLE : Hid (s.off ≤ (s.countS m).buf.length) := by rw [e1]; exact ok.le
      rw [← e5]
      rw [e2] at HF
      have e6 : (s.countS m).buf = s.buf := by rw [e1]; rfl
      have e7 : (s.countS m).off = s.off + s.pk.2.1 := by rw [e1]; rfl
      have HE : Hid (∀ w1, Sep w0 w1 (cRr q (some ⟨g, 0, none⟩) c (s.countS m) :: l) → Calls Tryd.prog 100 #[.pointer (some ⟨q, 0, none⟩)] w1 fun e w' => e = .returned (.int .i64 ((s.buf.length - (s.off + s.pk.2.1) : Nat) : Int)) ∧ ∃ n, w' = w1.drewN n) := fun w1 S1 => by
        have := rrLeft S1
        rw [e6, e7] at this
        exact this
      generalize s.countS m = t at *
      generalize s.pk.1 = V at *
      generalize s.pk.2.1 = n1 at *
      have g1 : decide (s.buf.length - (s.off + n1) < V) = true := by simpa using hlk
      clear ht hs hc hm hl e1 e2 e3 e4 e5 e6 e7 ok h S
      go_enter Tryd.func95, Tryd.ntmps95
      go_wp2_with fail
      refine HF.out.mono ?_
      rintro e w1 ⟨rfl, hS⟩
      have S1 := Lib.hid hS; clear hS
      go_wp2_with first | (go_at_call 142; refine (rrDead S1.out HT.out).mono ?_; rintro e w' ⟨rfl, rfl⟩) | (go_at_call 100; refine (HE.out _ S1.out).mono ?_; rintro e w' ⟨rfl, q1, rfl⟩) | (go_at_call 143; refine (rrFail (S1.out.drewN q1) HT.out 20 s.off (by decide) HLE.out _ _ rfl rfl).mono ?_; rintro e w2 ⟨rfl, hS⟩)
      go_ret
      exact blNil hS
    · have e3 : s.blobS m = s.step (s.pk.2.1 + s.pk.1) := by simp [RdS.blobS, hs, hc, hm, hl]
      have e4 : s.blobV m = s.body := by simp [RdS.blobV, RdS.fits, hs, hc, hm, hl]
      have hlk := fits_of s hc hl
      rw [e3, e4, ← step_step, ← e1]
      rw [e2] at HF
      have e6 : (s.countS m).buf = s.buf := by rw [e1]; rfl
      have e7 : (s.countS m).off = s.off + s.pk.2.1 := by rw [e1]; rfl
      have HE : Hid (∀ w1, Sep w0 w1 (cRr q (some ⟨g, 0, none⟩) c (s.countS m) :: l) → Calls Tryd.prog 100 #[.pointer (some ⟨q, 0, none⟩)] w1 fun e w' => e = .returned (.int .i64 ((s.buf.length - (s.off + s.pk.2.1) : Nat) : Int)) ∧ ∃ n, w' = w1.drewN n) := fun w1 S1 => by
        have := rrLeft S1
        rw [e6, e7] at this
        exact this
      have HBD : Hid (∀ w1 c l, Sep w0 w1 (cRr q (some ⟨g, 0, none⟩) c (s.countS m) :: l) → Rd w1 (some ⟨g, s.off + s.pk.2.1, none⟩) s.pk.1 (c - (s.off + s.pk.2.1)) s.body) := fun w1 c l S1 => by
        have h1 : Rr w1 q (some ⟨g, 0, none⟩) c (s.countS m) := S1.h0
        have h2 := h1.row.rd
        rw [e6] at h2
        exact rd_cut h2 _ _ (by omega)
      have HB0 : Hid (s.pk.1 = 0 → s.body = []) := fun e => by unfold RdS.body; rw [e]; rfl
      have HM : Hid (∀ w1 l, Sep w0 w1 (cRr q (some ⟨g, 0, none⟩) c (s.countS m) :: l) → Sep w0 (w1.setCell ⟨q, 2, none⟩ (.int .i64 ((s.off : Int) + (s.pk.2.1 : Int) + (s.pk.1 : Int)))) (cRr q (some ⟨g, 0, none⟩) c ((s.countS m).step s.pk.1) :: l)) := fun w1 l S1 => by
        have h1 : Rr w1 q (some ⟨g, 0, none⟩) c (s.countS m) := S1.h0
        have h2 := h1.moved ht s.pk.1 (by rw [e6, e7]; omega)
        rw [e7, Int.natCast_add] at h2
        exact S1.rr h2 (chg_at _ _ _ _)
      generalize s.countS m = t at *
      generalize s.body = bd at *
      generalize s.pk.1 = V at *
      generalize s.pk.2.1 = n1 at *
      have g1 : decide (s.buf.length - (s.off + n1) < V) = false := by simpa using hlk
      have hcc : (c = s.off + n1 ∧ V = 0) ∨ s.off + n1 < c := by omega
      clear ht hs hc hm hl e1 e2 e3 e4 ok h S
      rcases hcc with ⟨rfl, rfl⟩ | hcc
      · obtain rfl := HB0.out rfl
        go_enter Tryd.func95, Tryd.ntmps95
        go_wp2_with fail
        refine HF.out.mono ?_
        rintro e w1 ⟨rfl, hS⟩
        have h1 : Rr w1 q (some ⟨g, 0, none⟩) _ t := hS.h0
        have d1 : w1.cell? ⟨q, 1, none⟩ = some (.slice (some ⟨g, 0, none⟩) t.buf.length _) := h1.blk.cell 1
        have d2 : w1.cell? ⟨q, 2, none⟩ = some (.int .i64 (t.off : Int)) := h1.blk.cell 2
        rw [e6] at d1
        rw [e7] at d2
        have S1 := Lib.hid hS; clear hS h1 e6
        have hz1 : (0 : Int) ≤ (s.off : Int) + (n1 : Int) := by omega
        have ht1 : ((s.off : Int) + (n1 : Int)).toNat = s.off + n1 := by omega
        have hw1 : IntKind.i64.wrap ((s.off : Int) + (n1 : Int)) = (s.off : Int) + (n1 : Int) := IntWalk.i64_in _ (by omega)
        go_wp2_with first | (go_at_call 142; refine (rrDead S1.out HT.out).mono ?_; rintro e w' ⟨rfl, rfl⟩) | (go_at_call 100; refine (HE.out _ S1.out).mono ?_; rintro e w' ⟨rfl, q1, rfl⟩)
        go_region_with (go_at_call 86; refine (Copy_any _ _ _ _ [] (rd_none _) (by decide)).mono ?_; rintro e w2 ⟨A5, c5, rfl, ho, hb⟩; have S2 := Lib.hid ((S1.out.drewN (q1 + 1)).pushO hb ho); have h2 : Rr w2 q (some ⟨g, 0, none⟩) _ t := S2.out.h1; have k2 : w2.cell? ⟨q, 2, none⟩ = some (.int .i64 (t.off : Int)) := h2.blk.cell 2; have f2 := h2.blk.frozen 2; rw [e7] at k2; clear ho hb h2)
        all_goals
          go_wp2
          go_ret
          exact ⟨A5, 0, c5, rfl, by simpa using (HM.out _ _ S2.out.fr1).fr1⟩
      · go_enter Tryd.func95, Tryd.ntmps95
        go_wp2_with fail
        refine HF.out.mono ?_
        rintro e w1 ⟨rfl, hS⟩
        have h1 : Rr w1 q (some ⟨g, 0, none⟩) c t := hS.h0
        have d1 : w1.cell? ⟨q, 1, none⟩ = some (.slice (some ⟨g, 0, none⟩) t.buf.length c) := h1.blk.cell 1
        have d2 : w1.cell? ⟨q, 2, none⟩ = some (.int .i64 (t.off : Int)) := h1.blk.cell 2
        rw [e6] at d1
        rw [e7] at d2
        have S1 := Lib.hid hS; clear hS h1 e6
        have hVm : V ≤ 1000000000 := by omega
        have hw1 : IntKind.i64.wrap ((s.off : Int) + (n1 : Int) + (V : Int)) = (s.off : Int) + (n1 : Int) + (V : Int) := IntWalk.i64_in _ (by omega)
        have ht1 : ((s.off : Int) + (n1 : Int) + (V : Int)).toNat = s.off + n1 + V := by omega
        have hz1 : (0 : Int) ≤ (s.off : Int) + (n1 : Int) + (V : Int) := by omega
        go_wp2_with first | (go_at_call 142; refine (rrDead S1.out HT.out).mono ?_; rintro e w' ⟨rfl, rfl⟩) | (go_at_call 100; refine (HE.out _ S1.out).mono ?_; rintro e w' ⟨rfl, q1, rfl⟩)
        go_region_with (go_at_call 86; refine (Copy_any _ _ _ _ bd (HBD.out _ _ _ (S1.out.drewN (q1 + 1))) hVm).mono ?_; rintro e w2 ⟨A5, c5, rfl, ho, hb⟩; have S2 := Lib.hid ((S1.out.drewN (q1 + 1)).pushO hb ho); have h2 : Rr w2 q (some ⟨g, 0, none⟩) c t := S2.out.h1; have k2 : w2.cell? ⟨q, 2, none⟩ = some (.int .i64 (t.off : Int)) := h2.blk.cell 2; have f2 := h2.blk.frozen 2; rw [e7] at k2; clear ho hb h2)
        all_goals
          go_wp2
          go_ret
          exact ⟨A5, V, c5, rfl, (HM.out _ _ S2.out.fr1).fr1⟩
  · obtain ⟨e1, e2⟩ := countS_stuck ht
    rw [e1, e2]
    have HT := Lib.hid ht
    generalize s.countS m = t at *
    generalize s.countV m = V at *
    clear ht e1 e2 ok h S
    go_enter Tryd.func95, Tryd.ntmps95
    go_wp2_with fail
    refine HF.out.mono ?_
    rintro e w1 ⟨rfl, hS⟩
    have S1 := Lib.hid hS; clear hS
    go_wp2_with (go_at_call 142; refine (rrDead S1.out HT.out).mono ?_; rintro e w' ⟨rfl, rfl⟩)
    go_ret
    exact blNil S1.out
end
end Go.Proofs.YtbhmnkpbaeemeaaDoor

/-! # W49 -/
namespace Go.Proofs.YtbhmnkpbaeemeaaDoor
open Go.RowKit

theorem blobS_stuck {s : RdS} {m : Int} (h : (s.blobS m).stuck = true) : s.textS m = s.blobS m ∧ s.textV m = [] ∧ s.blobV m = [] := by
  cases hs : s.stuck
  · by_cases hc : s.pk.2.2 = 0
    · by_cases hm : s.much m = true
      · simp [RdS.textS, RdS.textV, RdS.blobS, RdS.blobV, RdS.textOk, RdS.fits, hs, hc, hm]
      · by_cases hl : s.lacks = true
        · simp [RdS.textS, RdS.textV, RdS.blobS, RdS.blobV, RdS.textOk, RdS.fits, hs, hc, hm, hl]
        · have : s.blobS m = s.step (s.pk.2.1 + s.pk.1) := by simp [RdS.blobS, hs, hc, hm, hl]
          rw [this] at h
          have h2 : (s.step (s.pk.2.1 + s.pk.1)).stuck = s.stuck := rfl
          rw [h2, hs] at h
          cases h
    · simp [RdS.textS, RdS.textV, RdS.blobS, RdS.blobV, RdS.textOk, RdS.fits, hs, hc]
  · simp [RdS.textS, RdS.textV, RdS.blobS, RdS.blobV, hs]
theorem blobS_live {s : RdS} {m : Int} (h : (s.blobS m).stuck = false) : s.blobV m = s.body ∧ s.textV m = (if Lib.validD s.body then s.body else []) ∧ s.textS m = (if Lib.validD s.body then s.blobS m else (s.blobS m).no 27 s.off) ∧ (s.blobS m).buf = s.buf := by
  cases hs : s.stuck
  · by_cases hc : s.pk.2.2 = 0
    · by_cases hm : s.much m = true
      · have : s.blobS m = s.no 21 s.off := by simp [RdS.blobS, hs, hc, hm]
        rw [this, no_is_stuck] at h
        cases h
      · by_cases hl : s.lacks = true
        · have : s.blobS m = s.no 20 s.off := by simp [RdS.blobS, hs, hc, hm, hl]
          rw [this, no_is_stuck] at h
          cases h
        · have e1 : s.blobS m = s.step (s.pk.2.1 + s.pk.1) := by simp [RdS.blobS, hs, hc, hm, hl]
          have e2 : (s.step (s.pk.2.1 + s.pk.1)).no 27 s.off = s.no 27 s.off := rfl
          rw [e1, e2]
          exact ⟨by simp [RdS.blobV, RdS.fits, hs, hc, hm, hl], by simp [RdS.textV, RdS.textOk, RdS.fits, hs, hc, hm, hl], by simp [RdS.textS, hs, hc, hm, hl], rfl⟩
    · have : s.blobS m = s.no s.pk.2.2 s.off := by simp [RdS.blobS, hs, hc]
      rw [this, no_is_stuck] at h
      cases h
  · have : s.blobS m = s := by simp [RdS.blobS, hs]
    rw [this, hs] at h
    cases h

section
variable {w0 w w' : World} {A : Option Addr} {c : Nat} {s s' : RdS} {l : List Ch} {q : Nat}
set_option maxRecDepth 100000 in
theorem rrText (S : Sep w0 w (cRr q A c s :: l)) (m : Int) (hmx : m ≤ 9223372036854775807) :
    Calls Tryd.prog 97 #[.pointer (some ⟨q, 0, none⟩), .int .i64 m] w fun e w' => e = .returned (.string ⟨(s.textV m).toArray⟩) ∧ Sep w0 w' (cRr q A c (s.textS m) :: l) := by
  have ok : s.Ok := S.h0.ok
  have h : Rr w q A c s := S.h0
  have c2 : w.cell? ⟨q, 2, none⟩ = some (.int .i64 (s.off : Int)) := h.blk.cell 2
  have HF := Lib.hid (rrBlob S m hmx)
  unfold BlPost at HF
  have hbl := blobV_le s m
  have hsm := ok.small
  cases ht : (s.blobS m).stuck
  · obtain ⟨e1, e2, e3, e4⟩ := blobS_live ht
    have HT := Lib.hid ht
    have HLE : Hid (s.off ≤ (s.blobS m).buf.length) := by rw [e4]; exact ok.le
    rw [e2, e3]
    rw [e1] at HF hbl
    have HRU : ∀ W, Hid (Calls Tryd.prog 139 #[.string ⟨s.body.toArray⟩] W fun e w' => e = .returned (.bool (Lib.validD s.body)) ∧ W = w') := fun W => UTF8_any ⟨s.body.toArray⟩ W (by show s.body.toArray.size ≤ _; simp; omega)
    generalize s.blobS m = t at *
    generalize s.body = bd at *
    clear ht e1 e2 e3 e4 ok h S
    cases hv : Lib.validD bd
    all_goals
      rw [hv] at HRU
      clear hv
      go_enter Tryd.func97, Tryd.ntmps97
      go_wp2_with fail
      refine HF.out.mono ?_
      rintro e w1 ⟨A1, n1, c1, rfl, hS⟩
      have hR : Rd w1 A1 n1 c1 bd := Ob.rd hS.h0
      have hcv := hR.str
      have S1 := Lib.hid hS.tail; clear hS hR
      go_wp2_with first | (go_at_call 142; refine (rrDead S1.out HT.out).mono ?_; rintro e w' ⟨rfl, rfl⟩) | (go_at_call 139; refine (HRU _).out.mono ?_; rintro e w' ⟨rfl, rfl⟩) | (go_at_call 143; refine (rrFail S1.out HT.out 27 s.off (by decide) HLE.out _ _ rfl rfl).mono ?_; rintro e w2 ⟨rfl, hS⟩)
      go_ret
      first
      | exact ⟨rfl, hS⟩
      | exact ⟨rfl, S1.out⟩
  · obtain ⟨e1, e2, e3⟩ := blobS_stuck ht
    rw [e1, e2]
    rw [e3] at HF
    have HT := Lib.hid ht
    generalize s.blobS m = t at *
    clear ht e1 e2 e3 ok h S
    go_enter Tryd.func97, Tryd.ntmps97
    go_wp2_with fail
    refine HF.out.mono ?_
    rintro e w1 ⟨A1, n1, c1, rfl, hS⟩
    have hR : Rd w1 A1 n1 c1 [] := Ob.rd hS.h0
    have hcv := hR.str
    have S1 := Lib.hid hS.tail; clear hS hR
    go_wp2_with (go_at_call 142; refine (rrDead S1.out HT.out).mono ?_; rintro e w' ⟨rfl, rfl⟩)
    go_ret
    exact ⟨rfl, S1.out⟩

theorem rrErr (S : Sep w0 w (cRr q A c s :: l)) : Calls Tryd.prog 32 #[.pointer (some ⟨q, 0, none⟩)] w fun e w' => e = .returned (.agg #[.int .i64 s.errC, .int .i64 s.errA]) ∧ Below w.heap.size w w' := by
  have ok : s.Ok := S.h0.ok
  have h : Rr w q A c s := S.h0
  have c0 : w.cell? ⟨q, 0, none⟩ = some (.bool s.made) := h.blk.cell 0
  have c3 : w.cell? ⟨q, 3, none⟩ = some (.int .i64 s.code) := h.blk.cell 3
  have c4 : w.cell? ⟨q, 4, none⟩ = some (.int .i64 s.at_) := h.blk.cell 4
  have hq := h.blk.lt
  have hne : ¬ q = w.heap.size := by omega
  cases hm : s.made
  · have e1 : s.errC = 3 ∧ s.errA = 0 := by simp [RdS.errC, RdS.errA, hm]
    rw [e1.1, e1.2]
    rw [hm] at c0
    clear e1 h S ok hm
    go_enter Tryd.func32, Tryd.ntmps32
    go_wp2
    refine bodyPost_ret (v := .agg #[.int .i64 3, .int .i64 0]) (by simp [results, Tryd.results32, go_sem]) rfl ?_
    exact ⟨rfl, by go_grown⟩
  · have e1 : s.errC = s.code ∧ s.errA = s.at_ := by
      cases hb : s.bad
      · have h1 := ok.code
        rw [hb] at h1
        have h2 : s.code = 0 := by simpa using h1.symm
        simp [RdS.errC, RdS.errA, hm, hb, h2, ok.at0 hb]
      · simp [RdS.errC, RdS.errA, hm, hb]
    rw [e1.1, e1.2]
    rw [hm] at c0
    clear e1 h S ok hm
    generalize s.code = cd at *
    generalize s.at_ = ca at *
    go_enter Tryd.func32, Tryd.ntmps32
    go_wp2
    refine bodyPost_ret (v := .agg #[.int .i64 cd, .int .i64 ca]) (by simp [results, Tryd.results32, go_sem]) rfl ?_
    exact ⟨rfl, by go_grown⟩

theorem rrEnd (S : Sep w0 w (cRr q A c s :: l)) : Calls Tryd.prog 99 #[.pointer (some ⟨q, 0, none⟩)] w fun e w' => e = .returned (.agg #[.int .i64 s.endC, .int .i64 s.endA]) ∧ Below w.heap.size w w' := by
  have ok : s.Ok := S.h0.ok
  have h : Rr w q A c s := S.h0
  have c1 : w.cell? ⟨q, 1, none⟩ = some (.slice A s.buf.length c) := h.blk.cell 1
  have c2 : w.cell? ⟨q, 2, none⟩ = some (.int .i64 (s.off : Int)) := h.blk.cell 2
  have hq := h.blk.lt
  have hne : ¬ q = w.heap.size := by omega
  have hsm := ok.small
  have HB := Lib.hid (below1 w (.cells #[.int .i64 0, .int .i64 0] 29))
  have S1 := Lib.hid (S.kept HB.out)
  have HX := Lib.hid (Blk.new w #[.int .i64 0, .int .i64 0] 29)
  cases hst : s.stuck
  · have HT := Lib.hid hst
    rcases Nat.lt_or_ge s.off s.buf.length with hlt | hge
    · have e1 : s.endC = 28 ∧ s.endA = s.off := by simp [RdS.endC, RdS.endA, hst, hlt]
      rw [e1.1, e1.2]
      have g1 : decide (s.off < s.buf.length) = true := by simpa using hlt
      clear e1 h S ok hst
      go_enter Tryd.func99, Tryd.ntmps99
      go_wp2_with (go_at_call 142; refine (rrDead S1.out HT.out).mono ?_; rintro e w' ⟨rfl, rfl⟩)
      go_quiet (fail)
      go_wp2
      refine bodyPost_ret (v := .agg #[.int .i64 28, .int .i64 (s.off : Int)]) (by simp [results, Tryd.results99, go_sem]) rfl ?_
      exact ⟨rfl, by (go_grown; exact below_drewN HB.out _)⟩
    · have e1 : s.endC = 0 ∧ s.endA = 0 := by simp [RdS.endC, RdS.endA, hst]; omega
      rw [e1.1, e1.2]
      have g1 : decide (s.off < s.buf.length) = false := by simpa using hge
      clear e1 h S ok hst
      go_enter Tryd.func99, Tryd.ntmps99
      go_wp2_with (go_at_call 142; refine (rrDead S1.out HT.out).mono ?_; rintro e w' ⟨rfl, rfl⟩)
      go_quiet (fail)
      go_wp2
      refine bodyPost_ret (v := .agg #[.int .i64 0, .int .i64 0]) (by simp [results, Tryd.results99, go_sem]) rfl ?_
      exact ⟨rfl, by (go_grown; exact below_drewN HB.out _)⟩
  · have HT := Lib.hid hst
    have e1 : s.endC = s.errC ∧ s.endA = s.errA := by simp [RdS.endC, RdS.endA, hst]
    rw [e1.1, e1.2]
    have HE := Lib.hid (rrErr S1.out)
    clear e1 h S ok hst
    generalize s.errC = ec at *
    generalize s.errA = ea at *
    go_enter Tryd.func99, Tryd.ntmps99
    go_wp2_with first | (go_at_call 142; refine (rrDead S1.out HT.out).mono ?_; rintro e w' ⟨rfl, rfl⟩) | (go_at_call 32; refine HE.out.mono ?_; rintro e w2 ⟨rfl, hb⟩; have X2 := HX.out.kept hb; have n0 : w2.cell? ⟨w.heap.size, 0, none⟩ = some (.int .i64 0) := X2.cell 0; have n1 : w2.cell? ⟨w.heap.size, 1, none⟩ = some (.int .i64 0) := X2.cell 1; have f0 := X2.frozen 0; have f1 := X2.frozen 1; have hbb := Lib.hid (below_then HB.out hb); clear hb X2)
    refine bodyPost_ret (v := .agg #[.int .i64 ec, .int .i64 ea]) (by simp [results, Tryd.results99, go_sem, n0, n1]) rfl ?_
    exact ⟨rfl, below_set2 hbb.out _ (Nat.le_refl _) _ _⟩

theorem rrNew (S : Sep w0 w l) {n : Nat} {xs : List UInt8} (hx : Rd w A n c xs) (hn : n ≤ 1000000000) :
    Calls Tryd.prog 30 #[.slice A n c] w fun e w' => ∃ q A' c', e = .returned (.pointer (some ⟨q, 0, none⟩)) ∧ Sep w0 w' (cRr q A' c' ⟨true, false, 0, 0, xs, 0⟩ :: l) := by
  have HS := Lib.hid S
  have hl := hx.len
  clear S
  go_enter Tryd.func30, Tryd.ntmps30
  go_wp2_with (go_at_call 86; refine (Copy_any _ _ _ _ xs hx hn).mono ?_; rintro e w1 ⟨A1, c1, rfl, ho, hb⟩; have HO := Lib.hid ho; have HB := Lib.hid hb; clear ho hb)
  go_ret
  subst hl
  refine ⟨w1.heap.size, A1, c1, rfl, HS.out.push (HB.out.alloc HB.out.size _) _ ⟨Blk.new _ _ _, (HO.out.alloc _).mono (Nat.zero_le _), fun hk => ?_, ⟨Nat.zero_le _, rfl, (fun h => by cases h), hn, fun _ => rfl⟩⟩ fun k hk => ?_⟩
  · have := (HO.out.lt hk).2
    omega
  · rcases hk with rfl | hk
    · exact HB.out.size
    · exact (HO.out.lt hk).1
theorem rnNew (S : Sep w0 w l) {n : Nat} {xs : List UInt8} (hx : Rd w A n c xs) (hn : n ≤ 1000000000) :
    Calls Tryd.prog 29 #[.slice A n c] w fun e w' => ∃ p A' c', e = .returned (.pointer (some ⟨p, 0, none⟩)) ∧ Sep w0 w' (cRN (some ⟨p, 0, none⟩) A' c' ⟨true, false, 0, 0, xs, 0⟩ :: l) := by
  refine (newReader_any w A n c xs hx hn).mono ?_
  rintro e w' ⟨p, A', rfl, hp, ho, hb, hne, hbe⟩
  have hl := hx.len
  subst hl
  refine ⟨p, A', _, rfl, S.push hbe _ (.inr ⟨p, rfl, ⟨hb, ho.mono (Nat.zero_le _), hne, Nat.zero_le _, hn⟩, ⟨Nat.zero_le _, rfl, (fun h => by cases h), hn, fun _ => rfl⟩⟩) fun k hk => ?_⟩
  rcases hk with hk | hk
  · rw [inA_some] at hk; omega
  · exact (ho.lt hk).1
end
end Go.Proofs.YtbhmnkpbaeemeaaDoor
