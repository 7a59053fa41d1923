import Derived.Test.YtbhmnkpbaeemeaaDoorProg
import Derived.WalkKit
import Derived.Outline
import Derived.Handy
import Derived.Below
import Derived.Deep.QuietTactic
import Derived.BigQuiet
import Derived.Lib.Hide
import Derived.Deep.OwnRows
import Derived.Deep.RegionWith
import Derived.Deep.RegionHeld3
import Derived.StillTailTactics
import Derived.Laws.CopyOwn
import Derived.Laws.AppendOwnNone
import Derived.Maps.AppendAt
import Derived.OwnWalk
import Derived.Laws.AppendOwn
import Derived.Laws.CopyRow
import Derived.Laws.BitsAllLaws
import Derived.Test.YtbhmnkpbaeemeaaDoorCrc
set_option linter.unusedVariables false
set_option linter.unusedSimpArgs false
/-! # Base -/
namespace Go.Proofs.YtbhmnkpbaeemeaaDoor
open Go.RowKit

/-! ## What has changed from one world to another: at most the old blocks in F -/
structure Chg (w w' : World) (F : Nat → Prop) : Prop where
  os : w'.os = w.os
  tape : w'.tape = w.tape
  output : w'.output = w.output
  size : w.heap.size ≤ w'.heap.size
  block : ∀ k, k < w.heap.size → ¬ F k → w'.heap[k]? = w.heap[k]?

theorem Chg.refl (w : World) (F : Nat → Prop) : Chg w w F := ⟨rfl, rfl, rfl, Nat.le_refl _, fun _ _ _ => rfl⟩
theorem Chg.trans {w w1 w2 : World} {F F' : Nat → Prop} (h : Chg w w1 F) (k : Chg w1 w2 F') (hF : ∀ i, i < w.heap.size → F' i → F i) : Chg w w2 F :=
  ⟨k.os.trans h.os, k.tape.trans h.tape, k.output.trans h.output, Nat.le_trans h.size k.size, fun i hi hn =>
    (k.block i (Nat.lt_of_lt_of_le hi h.size) (fun hf => hn (hF i hi hf))).trans (h.block i hi hn)⟩
theorem Chg.trans' {w w1 w2 : World} {F : Nat → Prop} (h : Chg w w1 F) (k : Chg w1 w2 F) : Chg w w2 F := h.trans k fun _ _ x => x
theorem Chg.mono {w w1 : World} {F F' : Nat → Prop} (h : Chg w w1 F) (hF : ∀ i, i < w.heap.size → F i → F' i) : Chg w w1 F' :=
  ⟨h.os, h.tape, h.output, h.size, fun i hi hn => h.block i hi fun hf => hn (hF i hi hf)⟩
theorem Chg.ofBelow {w w1 : World} (h : Below w.heap.size w w1) (F : Nat → Prop) : Chg w w1 F := ⟨h.os, h.tape, h.output, h.size, fun i hi _ => h.block i hi⟩
theorem Chg.below {w w1 : World} {F : Nat → Prop} (h : Chg w w1 F) {B : Nat} (hB : B ≤ w.heap.size) (hF : ∀ i, i < B → ¬ F i) : Below B w w1 :=
  ⟨h.os, h.tape, h.output, h.size, fun i hi => h.block i (Nat.lt_of_lt_of_le hi hB) (hF i hi)⟩
theorem Chg.thenBelow {w w1 w2 : World} {F : Nat → Prop} (h : Chg w w1 F) (k : Below w1.heap.size w1 w2) : Chg w w2 F := h.trans' (Chg.ofBelow k F)
theorem Chg.alloc {w w1 : World} {F : Nat → Prop} (h : Chg w w1 F) (o : Obj) : Chg w (w1.alloc o) F := h.thenBelow ((Below.refl _ _).alloc (Nat.le_refl _) _)
theorem Chg.drew {w w1 : World} {F : Nat → Prop} (h : Chg w w1 F) : Chg w w1.drew F := ⟨h.os, h.tape, h.output, h.size, h.block⟩
theorem Chg.drewN {w w1 : World} {F : Nat → Prop} (h : Chg w w1 F) (n : Nat) : Chg w (w1.drewN n) F := ⟨h.os, h.tape, h.output, h.size, h.block⟩
theorem Chg.set {w w1 : World} {F : Nat → Prop} (h : Chg w w1 F) {a : Addr} (ha : a.block < w.heap.size → F a.block) (v : Value) : Chg w (w1.setCell a v) F :=
  ⟨h.os, h.tape, h.output, by simpa [World.setCell] using h.size, fun k hk hn => by
    rw [Below.heap_setCell w1 a v k (fun e => hn (by subst e; exact ha hk)), h.block k hk hn]⟩
theorem Chg.setRow {w w1 : World} {F : Nat → Prop} (h : Chg w w1 F) {g : Nat} (ha : g < w.heap.size → F g) (cs : Array Value) : Chg w (w1.setRow g cs) F :=
  ⟨h.os, h.tape, h.output, by simpa using h.size, fun k hk hn => by
    rw [setRow_other w1 g k cs (fun e => hn (by subst e; exact ha hk)), h.block k hk hn]⟩
theorem Chg.grown {w w1 : World} {row : Option Nat} {F : Nat → Prop} (h : w.grownBy w1 row) (hF : ∀ k, row = some k → F k) : Chg w w1 F :=
  ⟨h.os, h.tape, h.output, h.size, fun k hk hn => h.block k hk fun e => hn (hF k e.symm)⟩
theorem below_drewN {B : Nat} {w w1 : World} (h : Below B w w1) (n : Nat) : Below B w (w1.drewN n) := ⟨h.os, h.tape, h.output, h.size, h.block⟩
theorem below_then {w w1 w2 : World} (h : Below w.heap.size w w1) (k : Below w1.heap.size w1 w2) : Below w.heap.size w w2 := h.trans (k.mono h.size)

/-! ## Blocks: a block of cells that is known whole -/

/-- Block g holds these cells, is of that element type, and nothing of it is frozen. -/
def Blk (w : World) (g : Nat) (cs : Array Value) (e : TypeId) : Prop := w.heap[g]? = some (.cells cs e (0, 0))

section
variable {w w' : World} {g : Nat} {cs : Array Value} {e : TypeId}
theorem Blk.lt (h : Blk w g cs e) : g < w.heap.size := by
  unfold Blk at h
  exact (Array.getElem?_eq_some_iff.1 h).1
theorem Blk.cell (h : Blk w g cs e) (i : Nat) : w.cell? ⟨g, i, none⟩ = cs[i]? := by
  unfold Blk at h
  simp [World.cell?, h]
theorem Blk.frozen (h : Blk w g cs e) (i : Nat) : w.frozen? ⟨g, i, none⟩ = false := by
  unfold Blk at h
  simp [World.frozen?, h]
theorem Blk.below (h : Blk w g cs e) {B : Nat} (hb : Below B w w') (hg : g < B) : Blk w' g cs e := by
  unfold Blk at h ⊢
  rw [hb.block g hg, h]
theorem Blk.kept (h : Blk w g cs e) (hb : Below w.heap.size w w') : Blk w' g cs e := h.below hb h.lt
theorem Blk.chg {F : Nat → Prop} (h : Blk w g cs e) (hb : Chg w w' F) (hF : ¬ F g) : Blk w' g cs e := by
  have hl := h.lt
  unfold Blk at h ⊢
  rw [hb.block g hl hF, h]
theorem Blk.alloc (h : Blk w g cs e) (o : Obj) : Blk (w.alloc o) g cs e := h.kept ((Below.refl _ _).alloc (Nat.le_refl _) _)
theorem Blk.new (w : World) (cs : Array Value) (e : TypeId) : Blk (w.alloc (.cells cs e)) w.heap.size cs e := by
  unfold Blk
  show (w.heap.push _)[w.heap.size]? = _
  simp
theorem Blk.drewN (h : Blk w g cs e) (n : Nat) : Blk (w.drewN n) g cs e := h
theorem Blk.drew (h : Blk w g cs e) : Blk w.drew g cs e := h
theorem Blk.set (h : Blk w g cs e) (i : Nat) (v : Value) : Blk (w.setCell ⟨g, i, none⟩ v) g (cs.setIfInBounds i v) e := by
  unfold Blk at h ⊢
  simp [World.setCell, Array.getElem?_modify, h]
theorem Blk.set_ne (h : Blk w g cs e) {a : Addr} (hne : g ≠ a.block) (v : Value) : Blk (w.setCell a v) g cs e := by
  unfold Blk at h ⊢
  rw [Below.heap_setCell w a v g hne, h]
theorem Blk.inj {cs' : Array Value} {e' : TypeId} (h : Blk w g cs e) (h' : Blk w g cs' e') : cs = cs' := by
  unfold Blk at h h'
  rw [h] at h'
  simp at h'
  exact h'.1
end

/-! ## Bytes -/
def bs (xs : List UInt8) : List Value := xs.map fun b => .int .u8 (b.toNat : Int)
theorem bs_length (xs : List UInt8) : (bs xs).length = xs.length := by simp [bs]
theorem bs_get (xs : List UInt8) (i : Nat) (h : i < xs.length) : (bs xs)[i]? = some (.int .u8 ((xs[i]'h).toNat : Int)) := by
  simp [bs, List.getElem?_eq_getElem h]
theorem bs_append (xs ys : List UInt8) : bs (xs ++ ys) = bs xs ++ bs ys := by simp [bs]
theorem bs_nil : bs [] = [] := rfl
theorem bs_oneCell (xs : List UInt8) : ∀ v ∈ bs xs, v.oneCell' = true := by
  intro v hv
  obtain ⟨b, _, rfl⟩ := List.mem_map.1 hv
  rfl

/-- A number as a byte. -/
def u8of (z : Int) : UInt8 := UInt8.ofNat z.toNat
theorem u8of_toNat {z : Int} (h0 : 0 ≤ z) (h1 : z < 256) : ((u8of z).toNat : Int) = z := by
  unfold u8of
  rw [UInt8.toNat_ofNat']
  have : z.toNat % 2 ^ 8 = z.toNat := Nat.mod_eq_of_lt (by omega)
  omega
theorem bs_u8of {z : Int} (h0 : 0 ≤ z) (h1 : z < 256) : (Value.int .u8 ((u8of z).toNat : Int)) = .int .u8 z := by rw [u8of_toNat h0 h1]

/-- The block in which a slice lies. -/
def inA (A : Option Addr) (k : Nat) : Prop := ∃ a, A = some a ∧ a.block = k
theorem inA_own {A : Option Addr} {n c k : Nat} : (Value.slice A n c).ownBlock = some k ↔ inA A k := by
  cases A <;> simp [Value.ownBlock, inA]

/-- What reads as these bytes: a slice, wherever it lies. -/
structure Rd (w : World) (A : Option Addr) (n c : Nat) (xs : List UInt8) : Prop where
  len : xs.length = n
  le : n ≤ c
  max : c ≤ 9223372036854775807
  nil : A = none → c = 0
  at_ : ∀ i (h : i < xs.length), ∃ b o, A = some ⟨b, o, none⟩ ∧ w.cell? ⟨b, o + i, none⟩ = some (.int .u8 ((xs[i]'h).toNat : Int))

section
variable {w w' : World} {A : Option Addr} {n c : Nat} {xs : List UInt8}
theorem Rd.below (h : Rd w A n c xs) (hb : Below w.heap.size w w') : Rd w' A n c xs :=
  ⟨h.len, h.le, h.max, h.nil, fun i hi => by
    obtain ⟨b, o, e, hc⟩ := h.at_ i hi
    exact ⟨b, o, e, (hb.cell (World.block_lt_of_cell? w _ hc)).trans hc⟩⟩
theorem Rd.chg {F : Nat → Prop} (h : Rd w A n c xs) (hb : Chg w w' F) (hF : 0 < n → ∀ k, inA A k → ¬ F k) : Rd w' A n c xs :=
  ⟨h.len, h.le, h.max, h.nil, fun i hi => by
    obtain ⟨b, o, rfl, hc⟩ := h.at_ i hi
    refine ⟨b, o, rfl, ?_⟩
    rw [← hc]
    exact World.cell?_of_block (hb.block b (World.block_lt_of_cell? w _ hc) (hF (by rw [← h.len]; omega) b ⟨_, rfl, rfl⟩))⟩
theorem Rd.drewN (h : Rd w A n c xs) (k : Nat) : Rd (w.drewN k) A n c xs := ⟨h.len, h.le, h.max, h.nil, h.at_⟩
theorem Rd.drew (h : Rd w A n c xs) : Rd w.drew A n c xs := ⟨h.len, h.le, h.max, h.nil, h.at_⟩
theorem Rd.alloc (h : Rd w A n c xs) (o : Obj) : Rd (w.alloc o) A n c xs := h.below ((Below.refl _ _).alloc (Nat.le_refl _) _)
theorem Rd.nilRd (w : World) : Rd w none 0 0 [] := ⟨rfl, Nat.le_refl _, by omega, fun _ => rfl, fun i hi => by simp at hi⟩
theorem Rd.src (h : Rd w A n c xs) (h0 : 0 < n) : ∃ ad : Addr, A = some ad ∧ ad.spot = none ∧ ∀ (j : Nat) (v : Value), (bs xs)[j]? = some v → w.cell? (ad.add j) = some v := by
  obtain ⟨hl, _, _, _, ha⟩ := h
  obtain ⟨b, o, rfl, _⟩ := ha 0 (by omega)
  refine ⟨⟨b, o, none⟩, rfl, rfl, fun j v hv => ?_⟩
  have hj : j < xs.length := by have := (List.getElem?_eq_some_iff.1 hv).1; simpa [bs] using this
  obtain ⟨b', o', e, hc⟩ := ha j hj
  cases e
  rw [bs_get xs j hj] at hv
  cases hv
  have ea : (⟨b, o, none⟩ : Addr).add j = ⟨b, o + j, none⟩ := by unfold Addr.add; split <;> simp_all
  rw [ea, hc]
theorem Rd.ofBlk {g : Nat} (h : Blk w g (bs xs).toArray 5) (hm : xs.length ≤ 1000000000000) : Rd w (some ⟨g, 0, none⟩) xs.length xs.length xs :=
  ⟨rfl, Nat.le_refl _, by omega, (fun e => by cases e), fun i hi => ⟨g, 0, rfl, by rw [Nat.zero_add, h.cell i]; simpa using bs_get xs i hi⟩⟩
end

/-- A row of bytes of the call's own: from block B on. -/
def Ob (w : World) (B : Nat) (A : Option Addr) (n c : Nat) (xs : List UInt8) : Prop := w.ownsRow B 5 1 (.slice A n c) n (bs xs)

section
variable {w w' : World} {B : Nat} {A : Option Addr} {n c : Nat} {xs : List UInt8}
theorem Ob.nil (w : World) (B : Nat) : Ob w B none 0 0 [] := World.ownsRow_nil w B _ _
theorem Ob.rd (h : Ob w B A n c xs) : Rd w A n c xs := by
  obtain ⟨hl, h2⟩ := h
  rw [bs_length, Nat.mul_one] at hl
  rcases h2 with ⟨e, h0⟩ | ⟨g, cap, cur, e, _, hg, h1, h3, h4, h5⟩
  · cases e
    exact ⟨hl, Nat.le_refl _, by omega, fun _ => rfl, fun i hi => by omega⟩
  · cases e
    unfold maxLen at h3
    refine ⟨hl, h1, by omega, (fun e => by cases e), fun i hi => ⟨g, 0, rfl, ?_⟩⟩
    have e : cur[i]? = (bs xs)[i]? := by
      rw [← h5, Nat.mul_one, List.getElem?_take_of_lt (by omega), Array.getElem?_toList]
    simp only [World.cell?, hg, Nat.zero_add, Option.isSome_none, Bool.false_eq_true, if_false]
    rw [e, bs_get xs i hi]
theorem Ob.below (h : Ob w B A n c xs) (hb : Below w.heap.size w w') : Ob w' B A n c xs :=
  World.ownsRow.kept h ⟨hb.os, hb.tape, hb.output, hb.size, fun k hk _ => hb.block k hk⟩ (by cases (Value.slice A n c).ownBlock <;> simp) (row := none)
theorem Ob.chg {F : Nat → Prop} (h : Ob w B A n c xs) (hb : Chg w w' F) (hF : ∀ k, inA A k → ¬ F k) : Ob w' B A n c xs := by
  have hlt := World.ownsRow.lt h
  obtain ⟨h1, h2⟩ := h
  refine ⟨h1, ?_⟩
  rcases h2 with h2 | ⟨g, cap, cur, e, hg, hh, r⟩
  · exact .inl h2
  · cases e
    refine .inr ⟨g, _, cur, rfl, hg, ?_, r⟩
    rw [hb.block g (hlt g rfl).2 (hF g ⟨_, rfl, rfl⟩), hh]
theorem Ob.drewN (h : Ob w B A n c xs) (k : Nat) : Ob (w.drewN k) B A n c xs := h
theorem Ob.alloc (h : Ob w B A n c xs) (o : Obj) : Ob (w.alloc o) B A n c xs := World.ownsRow.alloc h o
theorem Ob.lt (h : Ob w B A n c xs) {k : Nat} (hk : inA A k) : B ≤ k ∧ k < w.heap.size := World.ownsRow.lt h k (inA_own.2 hk)
theorem Ob.mono (h : Ob w B A n c xs) {B' : Nat} (hB : B' ≤ B) : Ob w B' A n c xs := by
  obtain ⟨h1, h2⟩ := h
  refine ⟨h1, ?_⟩
  rcases h2 with h2 | ⟨g, cap, cur, e, hg, r⟩
  · exact .inl h2
  · exact .inr ⟨g, cap, cur, e, by omega, r⟩
theorem Ob.up (h : Ob w B A n c xs) {B' : Nat} (hB : ∀ k, inA A k → B' ≤ k) : Ob w B' A n c xs := by
  obtain ⟨h1, h2⟩ := h
  refine ⟨h1, ?_⟩
  rcases h2 with h2 | ⟨g, cap, cur, e, hg, r⟩
  · exact .inl h2
  · cases e
    exact .inr ⟨g, _, cur, rfl, hB g ⟨_, rfl, rfl⟩, r⟩
theorem Ob.ofBlk {g : Nat} (h : Blk w g (bs xs).toArray 5) (hg : B ≤ g) (hm : xs.length ≤ maxLen) : Ob w B (some ⟨g, 0, none⟩) xs.length xs.length xs :=
  ⟨by simp [bs], .inr ⟨g, xs.length, _, rfl, hg, h, Nat.le_refl _, hm, by simp [bs], by simp only [Nat.mul_one]; exact List.take_of_length_le (by simp [bs])⟩⟩
end

/-! ## append onto bytes of one's own -/
theorem info5 : (Tryd.prog.info? 5).map (fun i => (i.zero, i.size, i.bytes)) = some (some (.int .u8 0), 1, 1) := by kernel_rfl
theorem size5 : (Tryd.prog.info? 5).map (·.size) = some 1 := by kernel_rfl

theorem wpl_append_b {w : World} {ops : Array Oper} {rest : List Oper} {o : Oper} {a : Act} {Q : Exit → Act → World → Prop} (hgd : o.guard = none) (s x : Operand)
    (ho : o.op = .call { callee := .builtin .append, args := #[s, x], argTypes := #[22, 22] })
    {B : Nat} {A : Option Addr} {n c : Nat} {xs : List UInt8} (hs : a.eval s = .slice A n c) (hown : Ob w B A n c xs)
    {A2 : Option Addr} {n2 c2 : Nat} {ys : List UInt8} (hx : a.eval x = .slice A2 n2 c2) (hr : Rd w A2 n2 c2 ys)
    (hlen : n + n2 ≤ 1000000000000) (hB : B ≤ w.heap.size)
    (h : ∀ A' c' w', Ob w' B A' (n + n2) c' (xs ++ ys) → Chg w w' (inA A) → (∀ k, inA A' k → inA A k ∨ k = w.heap.size) → wpList Tryd.prog ops Q rest (a.put o.dst (.slice A' (n + n2) c')) w') :
    wpList Tryd.prog ops Q (o :: rest) a w := by
  obtain ⟨i0, hi, hz0, hz1, hz2⟩ := info_parts info5
  cases A2 with
  | none =>
    have hc := hr.nil rfl
    subst hc
    have h0 : n2 = 0 := by have := hr.le; omega
    subst h0
    have hy : ys = [] := List.eq_nil_of_length_eq_zero hr.len
    subst hy
    refine wpList_append_own_none hgd s x _ ho B 5 i0 1 Tryd.underlying22 hi _ n (bs xs) hs hown hx ?_
    have := h A c w (by simpa using hown) (Chg.refl _ _) (fun k hk => .inl hk)
    simpa using this
  | some ad =>
    have hl := hr.len
    refine wpList_append_own_at w hgd s x _ ho B 5 i0 (.int .u8 0) 1 1 Tryd.underlying22 hi hz0 hz1 hz2 rfl (by decide) _ n (bs xs) hs hown ad n2 c2 (bs ys) hx (by rw [bs_length]; omega) ?_ (bs_oneCell ys) (by unfold maxLen; omega) (by omega) hB ?_
    · intro j u hu
      rcases Nat.eq_zero_or_pos n2 with h0 | h0
      · have : ys = [] := List.eq_nil_of_length_eq_zero (by omega)
        subst this
        simp [bs] at hu
      · obtain ⟨ad', e, _, hsrc⟩ := hr.src h0
        cases e
        exact hsrc j u hu
    · intro v' w' hown' hg _ hat
      have hsl : ∃ A' c', v' = .slice A' (n + n2) c' := by
        rcases hown'.2 with ⟨rfl, h0⟩ | ⟨g, cap, cur, rfl, _⟩
        · exact ⟨none, 0, by rw [h0]⟩
        · exact ⟨_, cap, rfl⟩
      obtain ⟨A', c', rfl⟩ := hsl
      refine h A' c' w' (by unfold Ob; rw [bs_append]; exact hown') (Chg.grown hg fun k hk => inA_own.1 hk) fun k hk => ?_
      rcases hat with hat | hat
      · left
        rw [← inA_own (n := n) (c := c), ← hat]
        exact inA_own.2 hk
      · right
        rw [inA_own.2 hk] at hat
        exact Option.some.inj hat

/-- 'append(b, x)' of one byte: x lies in a box of its own. -/
theorem wpl_append_1 {W : World} {ops : Array Oper} {rest : List Oper} {o : Oper} {a : Act} {Q : Exit → Act → World → Prop} (hgd : o.guard = none) (s x : Operand)
    (ho : o.op = .call { callee := .builtin .append, args := #[s, x], argTypes := #[22, 22] })
    {B : Nat} {A : Option Addr} {n c : Nat} {xs : List UInt8} (hs : a.eval s = .slice A n c) (hown : Ob W B A n c xs)
    (hx : a.eval x = .slice (some ⟨W.heap.size, 0, none⟩) 1 1) {z : Int} (b : UInt8) (hz : z = (b.toNat : Int))
    (hlen : n + 1 ≤ 1000000000000) (hB : B ≤ W.heap.size)
    (h : ∀ A' c' w', Ob w' B A' (n + 1) c' (xs ++ [b]) → Chg W w' (inA A) → (∀ k, inA A' k → inA A k ∨ W.heap.size ≤ k) → wpList Tryd.prog ops Q rest (a.put o.dst (.slice A' (n + 1) c')) w') :
    wpList Tryd.prog ops Q (o :: rest) a (W.alloc (.cells #[.int .u8 z] 5)) := by
  subst hz
  have hr : Rd (W.alloc (.cells #[.int .u8 (b.toNat : Int)] 5)) (some ⟨W.heap.size, 0, none⟩) 1 1 [b] := Rd.ofBlk (xs := [b]) (Blk.new W _ _) (by simp)
  refine wpl_append_b hgd s x ho hs (hown.alloc _) hx hr hlen (by simp; omega) fun A' c' w' h1 h2 h3 => h A' c' w' h1 ((Chg.ofBelow ((Below.refl _ _).alloc (Nat.le_refl _) _) _).trans' h2) fun k hk => ?_
  rcases h3 k hk with h3 | h3
  · exact .inl h3
  · exact .inr (by simp at h3; omega)

end Go.Proofs.YtbhmnkpbaeemeaaDoor

/-! # W1 -/
namespace Go.Proofs.YtbhmnkpbaeemeaaDoor
open Go.RowKit

def wireS : ByteArray := ⟨#[119, 105, 114, 101]⟩

theorem fault_any (code at_ : Int) (w : World) :
    Calls Tryd.prog 61 #[.int .i64 code, .int .i64 at_] w fun e w' => e = .returned (.iface 129 (.pointer (some ⟨w.heap.size, 0, none⟩))) ∧
      w' = w.alloc (.cells #[.string wireS, .int .i64 at_, .iface 60 (.int .i64 code)] 131) := by
  go_enter Tryd.func61, Tryd.ntmps61
  go_wp2
  go_ret
  exact ⟨rfl, rfl⟩

theorem stuck_any (w : World) (p : Nat) (made bad : Bool) (h0 : w.cell? ⟨p, 0, none⟩ = some (.bool made)) (h1 : w.cell? ⟨p, 1, none⟩ = some (.bool bad)) :
    Calls Tryd.prog 132 #[.pointer (some ⟨p, 0, none⟩)] w fun e w' => e = .returned (.bool (!made || bad)) ∧ w = w' := by
  cases made
  all_goals
    go_enter Tryd.func132, Tryd.ntmps132
    go_wp2
    go_ret
    exact ⟨rfl, rfl⟩

theorem fail_bad (w : World) (p : Nat) (code at_ : Int) (h1 : w.cell? ⟨p, 1, none⟩ = some (.bool true)) :
    Calls Tryd.prog 133 #[.pointer (some ⟨p, 0, none⟩), .int .i64 code, .int .i64 at_] w fun e w' => e = .returned (.tuple #[]) ∧ w = w' := by
  go_enter Tryd.func133, Tryd.ntmps133
  go_wp2
  go_end0
  exact ⟨rfl, rfl⟩

theorem fail_good (w : World) (p : Nat) (code at_ : Int) (cs : Array Value) (T : TypeId) (h : Blk w p cs T) (h1 : cs[1]? = some (.bool false)) (h2 : 3 < cs.size) :
    Calls Tryd.prog 133 #[.pointer (some ⟨p, 0, none⟩), .int .i64 code, .int .i64 at_] w fun e w' => e = .returned (.tuple #[]) ∧
      w' = ((w.setCell ⟨p, 1, none⟩ (.bool true)).setCell ⟨p, 2, none⟩ (.int .i64 code)).setCell ⟨p, 3, none⟩ (.int .i64 at_) := by
  have c1 : w.cell? ⟨p, 1, none⟩ = some (.bool false) := (h.cell 1).trans h1
  have c2 : w.cell? ⟨p, 2, none⟩ = some (cs[2]'(by omega)) := (h.cell 2).trans (Array.getElem?_eq_getElem (by omega))
  have c3 : w.cell? ⟨p, 3, none⟩ = some (cs[3]'h2) := (h.cell 3).trans (Array.getElem?_eq_getElem (by omega))
  have f1 := h.frozen 1
  have f2 := h.frozen 2
  have f3 := h.frozen 3
  clear h1 h
  go_enter Tryd.func133, Tryd.ntmps133
  go_wp2
  go_end0
  exact ⟨rfl, rfl⟩

theorem told_good (w : World) (p : Nat) (h0 : w.cell? ⟨p, 0, none⟩ = some (.bool true)) (h1 : w.cell? ⟨p, 1, none⟩ = some (.bool false)) :
    Calls Tryd.prog 98 #[.pointer (some ⟨p, 0, none⟩)] w fun e w' => e = .returned .nilIface ∧ w = w' := by
  go_enter Tryd.func98, Tryd.ntmps98
  go_wp2
  go_ret
  exact ⟨rfl, rfl⟩

/-- An error of this layer: its number and its place. -/
def ErrAt (w : World) (b : Nat) (code at_ : Int) : Prop := Blk w b #[.string wireS, .int .i64 at_, .iface 60 (.int .i64 code)] 131

theorem told_unmade (w : World) (p : Nat) (h0 : w.cell? ⟨p, 0, none⟩ = some (.bool false)) :
    Calls Tryd.prog 98 #[.pointer (some ⟨p, 0, none⟩)] w fun e w' => ∃ b, e = .returned (.iface 129 (.pointer (some ⟨b, 0, none⟩))) ∧ w.heap.size ≤ b ∧ ErrAt w' b 3 0 ∧ Below w.heap.size w w' := by
  go_enter Tryd.func98, Tryd.ntmps98
  go_wp2_with (go_at_call 61; refine (fault_any _ _ _).mono ?_; rintro e w' ⟨rfl, rfl⟩)
  go_ret
  exact ⟨_, rfl, Nat.le_refl _, Blk.new _ _ _, (Below.refl _ _).alloc (Nat.le_refl _) _⟩

theorem told_bad (w : World) (p : Nat) (code at_ : Int) (h0 : w.cell? ⟨p, 0, none⟩ = some (.bool true)) (h1 : w.cell? ⟨p, 1, none⟩ = some (.bool true)) (h2 : w.cell? ⟨p, 2, none⟩ = some (.int .i64 code)) (h3 : w.cell? ⟨p, 3, none⟩ = some (.int .i64 at_)) :
    Calls Tryd.prog 98 #[.pointer (some ⟨p, 0, none⟩)] w fun e w' => ∃ b, e = .returned (.iface 129 (.pointer (some ⟨b, 0, none⟩))) ∧ w.heap.size ≤ b ∧ ErrAt w' b code at_ ∧ Below w.heap.size w w' := by
  go_enter Tryd.func98, Tryd.ntmps98
  go_wp2_with (go_at_call 61; refine (fault_any _ _ _).mono ?_; rintro e w' ⟨rfl, rfl⟩)
  go_region_with (go_at_call 61; refine (fault_any _ _ _).mono ?_; rintro e w' ⟨rfl, rfl⟩)
  all_goals
    go_wp2
    go_ret
    exact ⟨_, rfl, Nat.le_refl _, Blk.new _ _ _, by go_grown⟩
end Go.Proofs.YtbhmnkpbaeemeaaDoor

/-! # W2 -/
namespace Go.Proofs.YtbhmnkpbaeemeaaDoor
open Go.RowKit

/-- A copy: fresh, and just as long as it is; nil where there is nothing. -/
theorem twin_nil (w : World) (A : Option Addr) (c : Nat) :
    Calls Tryd.prog 71 #[.slice A 0 c] w fun e w' => e = .returned (.slice none 0 0) ∧ w = w' := by
  go_enter Tryd.func71, Tryd.ntmps71
  go_wp2
  go_ret
  exact ⟨rfl, rfl⟩

set_option maxRecDepth 100000 in
theorem twin_some (w : World) (A : Option Addr) (n c : Nat) (xs : List UInt8) (hx : Rd w A n c xs) (h0 : 0 < n) (hn : n ≤ 1000000000) :
    Calls Tryd.prog 71 #[.slice A n c] w fun e w' => e = .returned (.slice (some ⟨w.heap.size, 0, none⟩) n n) ∧ Blk w' w.heap.size (bs xs).toArray 5 ∧ w'.heap.size = w.heap.size + 1 ∧ Below w.heap.size w w' := by
  obtain ⟨ad, rfl, hsp, hsrc⟩ := (hx.alloc (.cells (madeCells #[.int .u8 0] n) 5)).src h0
  have hl := hx.len
  have hlb : ((n : Int) == 0) = false := by simp; omega
  have hmk := run_make_row' (P := Tryd.prog) 22 5 (.int .u8 0) 1 Tryd.underlying22 info5 rfl .i64 .i64 n (by omega) (by omega)
  have Hl := Lib.hid hl; clear hl
  have Hsp := Lib.hid hsp; clear hsp
  have Hsrc := Lib.hid hsrc; clear hsrc
  clear hx
  go_enter Tryd.func71, Tryd.ntmps71
  go_wp2_with (refine wpList_copy_own rfl (.tmp 10) (.tmp 11) 22 22 rfl 5 Tryd.underlying22 size5 w.heap.size 0 n n ad n c rfl rfl (madeCells #[.int .u8 0] n) 5 (Blk.new _ _ _) (bs xs) ?c1 Hsrc.out ?c2 (bs_oneCell xs) ?_)
  case c1 => simp [bs_length, Hl.out]
  case c2 => simp [bs_length, Hl.out, size_madeCells]
  go_ret
  have e1 : List.drop (bs xs).length (madeCells #[Value.int .u8 0] n).toList = [] := List.drop_eq_nil_of_le (by simp [bs_length, Hl.out, size_madeCells])
  rw [e1, List.append_nil]
  exact ⟨rfl, setRow_heap _ _ _ _ _ _ (Blk.new _ _ _), by simp, below_setRow ((Below.refl _ _).alloc (Nat.le_refl _) _) (Nat.le_refl _) _⟩

theorem twin_any (w : World) (A : Option Addr) (n c : Nat) (xs : List UInt8) (hx : Rd w A n c xs) (hn : n ≤ 1000000000) :
    Calls Tryd.prog 71 #[.slice A n c] w fun e w' => ∃ A', e = .returned (.slice A' n n) ∧ Ob w' w.heap.size A' n n xs ∧ Below w.heap.size w w' := by
  rcases Nat.eq_zero_or_pos n with rfl | h0
  · refine (twin_nil w A c).mono ?_
    rintro e w' ⟨rfl, rfl⟩
    have : xs = [] := List.eq_nil_of_length_eq_zero hx.len
    subst this
    exact ⟨_, rfl, Ob.nil _ _, Below.refl _ _⟩
  · refine (twin_some w A n c xs hx h0 hn).mono ?_
    rintro e w' ⟨rfl, hb, hs, hB⟩
    have hl := hx.len
    subst hl
    exact ⟨_, rfl, Ob.ofBlk hb (Nat.le_refl _) (by unfold maxLen; omega), hB⟩

/-- The four bytes of a sum, the low one first. -/
def low4 (s : Int) : List UInt8 := [u8of (s % 256), u8of (s / 256 % 256), u8of (s / 65536 % 256), u8of (s / 16777216)]

theorem low4_bs {s : Int} (h0 : 0 ≤ s) (h1 : s < 4294967296) : bs (low4 s) = [.int .u8 (s % 256), .int .u8 (s / 256 % 256), .int .u8 (s / 65536 % 256), .int .u8 (s / 16777216)] := by
  simp only [bs, low4, List.map_cons, List.map_nil]
  rw [bs_u8of (by omega) (by omega), bs_u8of (by omega) (by omega), bs_u8of (by omega) (by omega), bs_u8of (by omega) (by omega)]

theorem low_any (s : Int) (w : World) (h0 : 0 ≤ s) (h1 : s < 4294967296) :
    Calls Tryd.prog 66 #[.int .u32 s] w fun e w' => e = .returned (.slice (some ⟨w.heap.size, 0, none⟩) 4 4) ∧ w' = w.alloc (.cells (bs (low4 s)).toArray 5) := by
  go_enter Tryd.func66, Tryd.ntmps66
  go_wp2
  go_ret
  exact ⟨rfl, by rw [low4_bs h0 h1]⟩

/-! ### The writer -/
structure WrS where
  made : Bool
  bad : Bool
  code : Int
  at_ : Int
  most : Int
  buf : List UInt8

/-- A writer at block p, its row at A. -/
structure Wr (w : World) (p : Nat) (A : Option Addr) (c : Nat) (s : WrS) : Prop where
  blk : Blk w p #[.bool s.made, .bool s.bad, .int .i64 s.code, .int .i64 s.at_, .int .i64 s.most, .slice A s.buf.length c] 128
  row : Ob w 0 A s.buf.length c s.buf
  ne : ¬ inA A p
  small : s.buf.length ≤ 65507
  most0 : 0 ≤ s.most
  most1 : s.most ≤ 65507

/-- What a writer's calls may touch. -/
def wrF (p : Nat) (A : Option Addr) (k : Nat) : Prop := k = p ∨ inA A k

theorem Wr.chg {w w' : World} {p : Nat} {A : Option Addr} {c : Nat} {s : WrS} {F : Nat → Prop} (h : Wr w p A c s) (hc : Chg w w' F) (hF : ∀ k, wrF p A k → ¬ F k) : Wr w' p A c s :=
  ⟨h.blk.chg hc (hF _ (.inl rfl)), h.row.chg hc fun k hk => hF k (.inr hk), h.ne, h.small, h.most0, h.most1⟩
theorem Wr.below {w w' : World} {p : Nat} {A : Option Addr} {c : Nat} {s : WrS} (h : Wr w p A c s) (hc : Below w.heap.size w w') : Wr w' p A c s :=
  h.chg (Chg.ofBelow hc fun _ => False) fun _ _ => id
theorem Wr.lt {w : World} {p : Nat} {A : Option Addr} {c : Nat} {s : WrS} (h : Wr w p A c s) {k : Nat} (hk : wrF p A k) : k < w.heap.size := by
  rcases hk with rfl | hk
  · exact h.blk.lt
  · exact (h.row.lt hk).2

theorem newWriter_any (m : Int) (w : World) :
    Calls Tryd.prog 36 #[.int .i64 m] w fun e w' => e = .returned (.pointer (some ⟨w.heap.size, 0, none⟩)) ∧ Wr w' w.heap.size none 0 ⟨true, false, 0, 0, max 0 (min m 65507), []⟩ ∧ Below w.heap.size w w' := by
  have fin : ∀ m' : Int, m' = max 0 (min m 65507) → Wr (w.alloc (.cells #[.bool true, .bool false, .int .i64 0, .int .i64 0, .int .i64 m', .slice none 0 0] 128)) w.heap.size none 0 ⟨true, false, 0, 0, max 0 (min m 65507), []⟩ := by
    rintro m' rfl
    exact ⟨Blk.new _ _ _, Ob.nil _ _, (by rintro ⟨a, e, _⟩; cases e), by simp, by simp only []; omega, by simp only []; omega⟩
  have Fin := Lib.hid fin; clear fin
  go_enter Tryd.func36, Tryd.ntmps36
  go_wp2
  all_goals
    go_ret
    refine ⟨rfl, Fin.out _ (by omega), by go_grown⟩

theorem newReader_any (w : World) (A : Option Addr) (n c : Nat) (xs : List UInt8) (hx : Rd w A n c xs) (hn : n ≤ 1000000000) :
    Calls Tryd.prog 29 #[.slice A n c] w fun e w' => ∃ p A', e = .returned (.pointer (some ⟨p, 0, none⟩)) ∧ w.heap.size ≤ p ∧ Ob w' w.heap.size A' n n xs ∧ 
      Blk w' p #[.bool true, .bool false, .int .i64 0, .int .i64 0, .slice A' n n, .int .i64 0] 64 ∧ ¬ inA A' p ∧ Below w.heap.size w w' := by
  go_enter Tryd.func29, Tryd.ntmps29
  go_wp2_with (go_at_call 71; refine (twin_any _ _ _ _ xs hx hn).mono ?_; rintro e w1 ⟨A', rfl, hv, hb⟩)
  go_ret
  have hs := hb.size
  refine ⟨_, A', rfl, hs, hv.alloc _, Blk.new _ _ _, fun h => ?_, hb.alloc hs _⟩
  have := (hv.lt h).2
  omega

end Go.Proofs.YtbhmnkpbaeemeaaDoor

/-! # W3 -/
namespace Go.Proofs.YtbhmnkpbaeemeaaDoor
open Go.RowKit

/-- One part of a field: a slice of bytes. -/
structure Part where
  A : Option Addr
  n : Nat
  c : Nat
  xs : List UInt8

def flat (ps : List Part) : List UInt8 := (ps.map (·.xs)).flatten
theorem flat_take_succ (ps : List Part) (k : Nat) (h : k < ps.length) : flat (ps.take (k + 1)) = flat (ps.take k) ++ (ps[k]'h).xs := by
  unfold flat
  rw [List.take_succ_eq_append_getElem h, List.map_append, List.flatten_append]
  simp
theorem flat_take_le (ps : List Part) (k : Nat) : (flat (ps.take k)).length ≤ (flat ps).length := by
  unfold flat
  have : ps.map (·.xs) = (ps.take k).map (·.xs) ++ (ps.drop k).map (·.xs) := by rw [← List.map_append, List.take_append_drop]
  rw [this, List.flatten_append, List.length_append]
  omega

structure Parts (w : World) (F : Nat → Prop) (P : Option Addr) (ps : List Part) : Prop where
  nil : P = none → ps = []
  blk : P = none ∨ ∃ q, P = some ⟨q, 0, none⟩ ∧ ¬ F q ∧ Blk w q (ps.map fun p => Value.slice p.A p.n p.c).toArray 22
  rd : ∀ p ∈ ps, Rd w p.A p.n p.c p.xs ∧ (0 < p.n → ∀ k, inA p.A k → ¬ F k)
  small : ps.length ≤ 1000

theorem Parts.chg {w w' : World} {F G : Nat → Prop} {P : Option Addr} {ps : List Part} (h : Parts w F P ps) (hc : Chg w w' G) (hG : ∀ k, k < w.heap.size → G k → F k) : Parts w' F P ps :=
  ⟨h.nil, by
    rcases h.blk with h0 | ⟨q, e, hq, hb⟩
    · exact .inl h0
    · exact .inr ⟨q, e, hq, hb.chg hc fun hg => hq (hG _ hb.lt hg)⟩, fun p hp => ⟨by
      have hr := h.rd p hp
      have : Chg w w' F := hc.mono hG
      exact hr.1.chg this hr.2, (h.rd p hp).2⟩, h.small⟩

def WrS.lay (s : WrS) (own : Int) (xs : List UInt8) : WrS :=
  if !s.made || s.bad then s
  else if own ≠ 0 then { s with bad := true, code := own, at_ := s.buf.length }
  else if s.most - s.buf.length < xs.length then { s with bad := true, code := 21, at_ := s.buf.length }
  else { s with buf := s.buf ++ xs }

theorem Wr.failed {w : World} {p : Nat} {A : Option Addr} {c : Nat} {s : WrS} (h : Wr w p A c s) (code at_ : Int) :
    Wr (((w.setCell ⟨p, 1, none⟩ (.bool true)).setCell ⟨p, 2, none⟩ (.int .i64 code)).setCell ⟨p, 3, none⟩ (.int .i64 at_)) p A c { s with bad := true, code := code, at_ := at_ } := by
  have hc : Chg w (((w.setCell ⟨p, 1, none⟩ (.bool true)).setCell ⟨p, 2, none⟩ (.int .i64 code)).setCell ⟨p, 3, none⟩ (.int .i64 at_)) (· = p) := by
    refine Chg.set (Chg.set (Chg.set (Chg.refl _ _) ?_ _) ?_ _) ?_ _ <;> exact fun _ => rfl
  refine ⟨?_, h.row.chg hc (fun k hk e => h.ne (by subst e; exact hk)), h.ne, h.small, h.most0, h.most1⟩
  exact ((h.blk.set 1 (.bool true)).set 2 (.int .i64 code)).set 3 (.int .i64 at_)

theorem chg_failed (w : World) (p : Nat) (code at_ : Int) (A : Option Addr) :
    Chg w (((w.setCell ⟨p, 1, none⟩ (.bool true)).setCell ⟨p, 2, none⟩ (.int .i64 code)).setCell ⟨p, 3, none⟩ (.int .i64 at_)) (wrF p A) := by
  refine Chg.set (Chg.set (Chg.set (Chg.refl _ _) ?_ _) ?_ _) ?_ _ <;> exact fun _ => .inl rfl

/-- What a call of a writer leaves. -/
def WrPost (w w' : World) (p : Nat) (A : Option Addr) (s' : WrS) : Prop :=
  ∃ A' c', Wr w' p A' c' s' ∧ Chg w w' (wrF p A) ∧ ∀ k, inA A' k → inA A k ∨ w.heap.size ≤ k

set_option maxRecDepth 100000 in
theorem lay_stuck (w : World) (p : Nat) (A : Option Addr) (c : Nat) (s : WrS) (h : Wr w p A c s) (own : Int) (P : Option Addr) (m m' : Nat) (hs : (!s.made || s.bad) = true) :
    Calls Tryd.prog 65 #[.pointer (some ⟨p, 0, none⟩), .int .i64 own, .slice P m m'] w fun e w' => e = .returned (.tuple #[]) ∧ w = w' := by
  have c0 := h.blk.cell 0
  have c1 := h.blk.cell 1
  have S := stuck_any w p s.made s.bad (c0.trans rfl) (c1.trans rfl)
  rw [hs] at S
  have HS := Lib.hid S; clear S c0 c1 h hs
  go_enter Tryd.func65, Tryd.ntmps65
  go_wp2_with (go_at_call 132; refine HS.out.mono ?_; rintro e w' ⟨rfl, rfl⟩)
  go_returns
  exact ⟨rfl, rfl⟩

theorem lay_nil (w : World) (own : Int) (P : Option Addr) (m m' : Nat) :
    Calls Tryd.prog 65 #[.pointer none, .int .i64 own, .slice P m m'] w fun e w' => e = .returned (.tuple #[]) ∧ w = w' := by
  go_enter Tryd.func65, Tryd.ntmps65
  go_wp2
  go_returns
  exact ⟨rfl, rfl⟩
end Go.Proofs.YtbhmnkpbaeemeaaDoor

/-! # W4 -/
namespace Go.Proofs.YtbhmnkpbaeemeaaDoor
open Go.RowKit

theorem Parts.at_ {w : World} {F : Nat → Prop} {P : Option Addr} {ps : List Part} (h : Parts w F P ps) (k : Nat) (hk : k < ps.length) :
    ∃ q, P = some ⟨q, 0, none⟩ ∧ w.cell? ⟨q, k, none⟩ = some (.slice (ps[k]'hk).A (ps[k]'hk).n (ps[k]'hk).c) := by
  rcases h.blk with h0 | ⟨q, e, _, hb⟩
  · have := h.nil h0
    subst this
    simp at hk
  · refine ⟨q, e, ?_⟩
    rw [hb.cell k]
    simp [List.getElem?_eq_getElem hk]

theorem Parts.len {w : World} {F : Nat → Prop} {P : Option Addr} {ps : List Part} (h : Parts w F P ps) (k : Nat) (hk : k < ps.length) : (ps[k]'hk).xs.length = (ps[k]'hk).n :=
  (h.rd _ (List.getElem_mem hk)).1.len

theorem Wr.drew {w : World} {p : Nat} {A : Option Addr} {c : Nat} {s : WrS} (h : Wr w p A c s) : Wr w.drew p A c s := ⟨h.blk, h.row, h.ne, h.small, h.most0, h.most1⟩
theorem Wr.drewN {w : World} {p : Nat} {A : Option Addr} {c : Nat} {s : WrS} (h : Wr w p A c s) (n : Nat) : Wr (w.drewN n) p A c s := ⟨h.blk, h.row, h.ne, h.small, h.most0, h.most1⟩

theorem Wr.appended {w w2 : World} {p : Nat} {A A2 : Option Addr} {c c2 n m : Nat} {s : WrS} {xs : List UInt8} (h : Wr w p A c s) (hown : Ob w2 0 A2 m c2 (s.buf ++ xs)) (hchg : Chg w w2 (inA A))
    (hin : ∀ k, inA A2 k → inA A k ∨ k = w.heap.size) (hn : xs.length = n) (hm : m = s.buf.length + n) (hfit : (s.buf ++ xs).length ≤ 65507) :
    Wr (w2.setCell ⟨p, 5, none⟩ (.slice A2 m c2)) p A2 c2 { s with buf := s.buf ++ xs } ∧ Chg w (w2.setCell ⟨p, 5, none⟩ (.slice A2 m c2)) (wrF p A) := by
  have hne : ¬ inA A2 p := fun hk => by
    rcases hin p hk with hk | hk
    · exact h.ne hk
    · have := h.blk.lt; omega
  have hm' : m = (s.buf ++ xs).length := by rw [List.length_append]; omega
  subst hm'
  have hb2 := h.blk.chg hchg h.ne
  refine ⟨⟨hb2.set 5 _, ?_, hne, hfit, h.most0, h.most1⟩, ?_⟩
  · refine hown.chg (F := (· = p)) ?_ fun k hk e => hne (by subst e; exact hk)
    refine Chg.set (Chg.refl _ _) ?_ _
    exact fun _ => rfl
  · refine Chg.set (hchg.mono fun _ _ => .inr) ?_ _
    exact fun _ => .inl rfl

set_option maxRecDepth 100000 in
set_option maxHeartbeats 1000000 in
theorem lay_live (w : World) (p : Nat) (A : Option Addr) (c : Nat) (s : WrS) (h : Wr w p A c s) (own : Int) (P : Option Addr) (ps : List Part) (hp : Parts w (wrF p A) P ps)
    (hl : (flat ps).length ≤ 1000000000) (hs : (!s.made || s.bad) = false) :
    Calls Tryd.prog 65 #[.pointer (some ⟨p, 0, none⟩), .int .i64 own, .slice P ps.length ps.length] w fun e w' => e = .returned (.tuple #[]) ∧ WrPost w w' p A (s.lay own (flat ps)) := by
  have c0 := h.blk.cell 0
  have c1 := h.blk.cell 1
  have S := stuck_any w p s.made s.bad (c0.trans rfl) (c1.trans rfl)
  rw [hs] at S
  have HS := Lib.hid S; clear S c0 c1
  have Hs := Lib.hid hs; clear hs
  have hsm := hp.small
  go_enter Tryd.func65, Tryd.ntmps65
  go_wp2_with (go_at_call 132; refine HS.out.mono ?_; rintro e w' ⟨rfl, rfl⟩)
  go_loop [6, 8, 21] (fun n _ i => ∃ k : Nat, k ≤ ps.length ∧ i = .int .i64 k ∧ n = .int .i64 ((flat (ps.take k)).length : Nat)) (fun _ _ i => ps.length - (intOf i).toNat)
  case atStart => exact ⟨0, Nat.zero_le _, rfl, rfl⟩
  case round =>
    obtain ⟨k, hk, rfl, rfl⟩ := hrel
    have hfl := flat_take_le ps k
    by_cases hlt : k < ps.length
    · obtain ⟨q, rfl, hc⟩ := hp.at_ k hlt
      have hpl := hp.len k hlt
      have hsu : (flat (ps.take (k + 1))).length = (flat (ps.take k)).length + (ps[k]'hlt).n := by rw [flat_take_succ ps k hlt, List.length_append, hpl]
      have hfl' := flat_take_le ps (k + 1)
      have HSU := Lib.hid hsu; clear hsu
      have HPL := Lib.hid hpl; clear hpl
      have hb1 : (flat (ps.take k)).length + (ps[k]'hlt).n ≤ 1000000000 := by have := HSU.out; omega
      go_wp2
      go_round
      case rel => exact ⟨k + 1, by omega, by go_num, by rw [HSU.out]; go_num⟩
      case measure => simp [intOf]; omega
    · have hkk : ps.take k = ps := List.take_of_length_le (by omega)
      have ek : (flat (ps.take k)).length = (flat ps).length := by rw [hkk]
      have EK := Lib.hid ek; clear ek hkk
      have ck1 : w.cell? ⟨p, 1, none⟩ = some (.bool s.bad) := h.blk.cell 1
      have ck4 : w.cell? ⟨p, 4, none⟩ = some (.int .i64 s.most) := h.blk.cell 4
      have ck5 : w.cell? ⟨p, 5, none⟩ = some (.slice A s.buf.length c) := h.blk.cell 5
      have hmost0 := h.most0
      have hmost1 := h.most1
      have hbl := h.small
      have hbad : s.bad = false := by have := Hs.out; simp at this; exact this.2

      by_cases ho : own = 0
      · subst ho
        have HS0 := Lib.hid HS; clear HS
        go_wp2
        go_quiet (fail)
        by_cases hfit : s.most - s.buf.length < (flat ps).length
        · have fin : s.lay 0 (flat ps) = { s with bad := true, code := 21, at_ := s.buf.length } := by
            unfold WrS.lay
            rw [if_neg (by rw [Hs.out]; simp), if_neg (by simp), if_pos hfit]
          have Fin := Lib.hid fin; clear fin
          have hfb : s.most - s.buf.length < ((flat (ps.take k)).length : Int) := by rw [EK.out]; exact hfit
          clear hfit
          have FF := Lib.hid (fail_good (w.drewN nq).drew p 21 s.buf.length _ _ (h.blk.drewN nq).drew (by show some (Value.bool s.bad) = _; rw [hbad]) (by show 3 < 6; omega)); clear hbad
          go_wp2
          go_region_with (go_at_call 133; refine FF.out.mono ?_; rintro e w' ⟨rfl, rfl⟩)
          all_goals
            go_wp2
            go_returns
            rw [Fin.out]
            exact ⟨rfl, A, c, (h.drewN (nq + 1)).failed 21 _, (Chg.refl _ _).drewN (nq + 1) |>.trans' (chg_failed (w.drewN (nq + 1)) p 21 _ A), fun k hk => .inl hk⟩
        · have fin : s.lay 0 (flat ps) = { s with buf := s.buf ++ flat ps } := by
            unfold WrS.lay
            rw [if_neg (by rw [Hs.out]; simp), if_neg (by simp), if_neg hfit]
          have Fin := Lib.hid fin; clear fin
          have hfb : ¬ s.most - s.buf.length < ((flat (ps.take k)).length : Int) := by rw [EK.out]; exact hfit
          have hmx : s.buf.length + (flat ps).length ≤ 65507 := by omega
          clear hfit ck1 ck4 ck5
          go_wp2
          clear hfb
          go_loopw [32] (fun i wr => ∃ (k : Nat) (A' : Option Addr) (c' : Nat) (bf : List UInt8), k ≤ ps.length ∧ i = .int .i64 k ∧ Hid (bf = s.buf ++ flat (ps.take k)) ∧ Hid (Wr wr p A' c' { s with buf := bf }) ∧ Hid (Chg w wr (wrF p A)) ∧ Hid (∀ j, inA A' j → inA A j ∨ w.heap.size ≤ j)) (fun i _ => ps.length - (intOf i).toNat)
          case atStart => exact ⟨0, A, c, s.buf, Nat.zero_le _, rfl, (by show _ = _; simp [flat]), h.drewN nq, (Chg.refl _ _).drewN nq, fun j hj => .inl hj⟩
          case round =>
            obtain ⟨k, A', c', bf, hk, rfl, HBF, HW, HC, HI⟩ := hrel
            by_cases hlt : k < ps.length
            · obtain ⟨q, rfl, _⟩ := hp.at_ k hlt
              have hpw := hp.chg HC.out (fun _ _ x => x)
              obtain ⟨q', e', hcp⟩ := hpw.at_ k hlt
              cases e'
              have HP := Lib.hid (hpw.rd _ (List.getElem_mem hlt)); clear hpw
              have ck5 : wr.cell? ⟨p, 5, none⟩ = some (.slice A' bf.length c') := HW.out.blk.cell 5
              have hfl' := flat_take_le ps (k + 1)
              have hfl0 := flat_take_le ps k
              have hsu : (flat (ps.take (k + 1))).length = (flat (ps.take k)).length + (ps[k]'hlt).n := by rw [flat_take_succ ps k hlt, List.length_append, hp.len k hlt]
              have hb1 : (flat (ps.take k)).length + (ps[k]'hlt).n ≤ (flat ps).length := by omega
              have hbl' : bf.length + (ps[k]'hlt).n ≤ 65507 := by rw [HBF.out, List.length_append]; omega
              have HSU := Lib.hid hsu; clear hsu hfl'
              have HR : Hid (Ob wr 0 A' bf.length c' bf) := HW.out.row
              have hq : (bf ++ (ps[k]'hlt).xs).length ≤ 65507 := by rw [List.length_append]; have := HP.out.1.len; omega
              have HQ := Lib.hid hq; clear hq
              go_wp2_with (at_builtin; refine wpl_append_b rfl (.tmp 40) (.tmp 41) rfl rfl HR.out rfl HP.out.1 ?_ (Nat.zero_le _) ?_; omega; intro A2 c2 w2 hown2 hchg2 hin2; have HA := Lib.hid (HW.out.appended hown2 hchg2 hin2 HP.out.1.len rfl HQ.out); have hb2 := Lib.hid (HW.out.blk.chg hchg2 HW.out.ne); have d5 : w2.cell? ⟨p, 5, none⟩ = some (.slice A' bf.length c') := hb2.out.cell 5; have f5 := hb2.out.frozen 5; clear hown2 hchg2; have HIN := Lib.hid hin2; clear hin2)
              go_roundw
              case rel =>
                refine ⟨k + 1, A2, c2, _, by omega, by go_num, ?_, HA.out.1, HC.out.trans HA.out.2 ?_, ?_⟩
                · show _ = _
                  rw [HBF.out, flat_take_succ ps k hlt, List.append_assoc]
                · intro i hi hf
                  rcases hf with rfl | hf
                  · exact .inl rfl
                  · rcases HI.out i hf with h1 | h1
                    · exact .inr h1
                    · omega
                · intro j hj
                  rcases HIN.out j hj with h1 | rfl
                  · exact HI.out j h1
                  · exact .inr HC.out.size
              case measure => simp [intOf]; omega
            · go_wp2
              go_returns
              rw [Fin.out]
              have e1 : bf = s.buf ++ flat ps := by rw [HBF.out, List.take_of_length_le (by omega)]
              subst e1
              exact ⟨rfl, A', c', HW.out, HC.out, HI.out⟩
      · have hob : (own != 0) = true := by simpa using ho
        have fin : s.lay own (flat ps) = { s with bad := true, code := own, at_ := s.buf.length } := by
          unfold WrS.lay
          rw [if_neg (by rw [Hs.out]; simp), if_pos ho]
        have Fin := Lib.hid fin; clear fin
        have FF := Lib.hid (fail_good w.drew p own s.buf.length _ _ h.blk.drew (by show some (Value.bool s.bad) = _; rw [hbad]) (by show 3 < 6; omega)); clear hbad ho
        go_wp2
        go_region_with (go_at_call 133; refine FF.out.mono ?_; rintro e w' ⟨rfl, rfl⟩)
        all_goals
          go_wp2
          go_returns
          rw [Fin.out]
          exact ⟨rfl, A, c, (h.failed own _).drew, (chg_failed w p own _ A).drew, fun k hk => .inl hk⟩
end Go.Proofs.YtbhmnkpbaeemeaaDoor

/-! # W5 -/
namespace Go.Proofs.YtbhmnkpbaeemeaaDoor
open Go.RowKit

theorem lay_any (w : World) (p : Nat) (A : Option Addr) (c : Nat) (s : WrS) (h : Wr w p A c s) (own : Int) (P : Option Addr) (ps : List Part) (hp : Parts w (wrF p A) P ps)
    (hl : (flat ps).length ≤ 1000000000) :
    Calls Tryd.prog 65 #[.pointer (some ⟨p, 0, none⟩), .int .i64 own, .slice P ps.length ps.length] w fun e w' => e = .returned (.tuple #[]) ∧ WrPost w w' p A (s.lay own (flat ps)) := by
  by_cases hs : (!s.made || s.bad) = true
  · refine (lay_stuck w p A c s h own P _ _ hs).mono ?_
    rintro e w' ⟨rfl, rfl⟩
    refine ⟨rfl, A, c, ?_, Chg.refl _ _, fun k hk => .inl hk⟩
    rw [show s.lay own (flat ps) = s by unfold WrS.lay; rw [if_pos hs]]
    exact h
  · exact lay_live w p A c s h own P ps hp hl (by simpa using hs)

theorem Parts.none {w : World} {F : Nat → Prop} : Parts w F none [] := ⟨fun _ => rfl, .inl rfl, fun _ h => by simp at h, by simp⟩
theorem Parts.one {w : World} {F : Nat → Prop} {q : Nat} {A : Option Addr} {n c : Nat} {xs : List UInt8} (hb : Blk w q #[.slice A n c] 22) (hq : ¬ F q) (hr : Rd w A n c xs) (hF : 0 < n → ∀ k, inA A k → ¬ F k) :
    Parts w F (some ⟨q, 0, Option.none⟩) [⟨A, n, c, xs⟩] :=
  ⟨(fun e => by cases e), .inr ⟨q, rfl, hq, hb⟩, (fun p hp => by simp at hp; subst hp; exact ⟨hr, hF⟩), by simp⟩
theorem Parts.two {w : World} {F : Nat → Prop} {q : Nat} {A A' : Option Addr} {n c n' c' : Nat} {xs ys : List UInt8} (hb : Blk w q #[.slice A n c, .slice A' n' c'] 22) (hq : ¬ F q) (hr : Rd w A n c xs) (hF : 0 < n → ∀ k, inA A k → ¬ F k) (hr' : Rd w A' n' c' ys) (hF' : 0 < n' → ∀ k, inA A' k → ¬ F k) :
    Parts w F (some ⟨q, 0, Option.none⟩) [⟨A, n, c, xs⟩, ⟨A', n', c', ys⟩] :=
  ⟨(fun e => by cases e), .inr ⟨q, rfl, hq, hb⟩, (fun p hp => by
    simp at hp
    rcases hp with rfl | rfl
    · exact ⟨hr, hF⟩
    · exact ⟨hr', hF'⟩), by simp⟩

/-- A number as so many bytes, the high one first. -/
def big2 (v : Int) : List UInt8 := [u8of (v / 256), u8of (v % 256)]
def big4 (v : Int) : List UInt8 := [u8of (v / 16777216), u8of (v / 65536 % 256), u8of (v / 256 % 256), u8of (v % 256)]
def big8 (v : Int) : List UInt8 := [u8of (v / 72057594037927936), u8of (v / 281474976710656 % 256), u8of (v / 1099511627776 % 256), u8of (v / 4294967296 % 256), u8of (v / 16777216 % 256), u8of (v / 65536 % 256), u8of (v / 256 % 256), u8of (v % 256)]


theorem make2 : ∀ w : World, (Instr.makeSlice 22 (.int .i64 2) (.int .i64 2)).run Tryd.prog w = .ok (.slice (some ⟨w.heap.size, 0, none⟩) 2 2) (w.alloc (.cells #[.int .u8 0, .int .u8 0] 5)) := fun _ => by kernel_rfl
set_option maxRecDepth 100000 in
theorem high2 (v : Int) (w : World) (h0 : 0 ≤ v) (h1 : v ≤ 65535) :
    Calls Tryd.prog 131 #[.int .u64 v, .int .i64 2] w fun e w' => e = .returned (.slice (some ⟨w.heap.size, 0, none⟩) 2 2) ∧ w' = w.alloc (.cells (bs (big2 v)).toArray 5) := by
  have hmk := make2
  go_enter Tryd.func131, Tryd.ntmps131
  go_wp2
  go_rounds 3
  go_returns
  refine ⟨rfl, ?_⟩
  rw [show bs (big2 v) = _ by simp only [bs, big2, List.map_cons, List.map_nil]; rw [bs_u8of (by omega) (by omega), bs_u8of (by omega) (by omega)]]

theorem make4 : ∀ w : World, (Instr.makeSlice 22 (.int .i64 4) (.int .i64 4)).run Tryd.prog w = .ok (.slice (some ⟨w.heap.size, 0, none⟩) 4 4) (w.alloc (.cells #[.int .u8 0, .int .u8 0, .int .u8 0, .int .u8 0] 5)) := fun _ => by kernel_rfl
set_option maxRecDepth 100000 in
theorem high4 (v : Int) (w : World) (h0 : 0 ≤ v) (h1 : v ≤ 4294967295) :
    Calls Tryd.prog 131 #[.int .u64 v, .int .i64 4] w fun e w' => e = .returned (.slice (some ⟨w.heap.size, 0, none⟩) 4 4) ∧ w' = w.alloc (.cells (bs (big4 v)).toArray 5) := by
  have hmk := make4
  go_enter Tryd.func131, Tryd.ntmps131
  go_wp2
  go_rounds 5
  go_returns
  refine ⟨rfl, ?_⟩
  rw [show bs (big4 v) = _ by simp only [bs, big4, List.map_cons, List.map_nil]; rw [bs_u8of (by omega) (by omega), bs_u8of (by omega) (by omega), bs_u8of (by omega) (by omega), bs_u8of (by omega) (by omega)]]

theorem make8 : ∀ w : World, (Instr.makeSlice 22 (.int .i64 8) (.int .i64 8)).run Tryd.prog w = .ok (.slice (some ⟨w.heap.size, 0, none⟩) 8 8) (w.alloc (.cells #[.int .u8 0, .int .u8 0, .int .u8 0, .int .u8 0, .int .u8 0, .int .u8 0, .int .u8 0, .int .u8 0] 5)) := fun _ => by kernel_rfl
set_option maxRecDepth 100000 in
theorem high8 (v : Int) (w : World) (h0 : 0 ≤ v) (h1 : v ≤ 18446744073709551615) :
    Calls Tryd.prog 131 #[.int .u64 v, .int .i64 8] w fun e w' => e = .returned (.slice (some ⟨w.heap.size, 0, none⟩) 8 8) ∧ w' = w.alloc (.cells (bs (big8 v)).toArray 5) := by
  have hmk := make8
  go_enter Tryd.func131, Tryd.ntmps131
  go_wp2
  go_rounds 9
  go_returns
  refine ⟨rfl, ?_⟩
  rw [show bs (big8 v) = _ by simp only [bs, big8, List.map_cons, List.map_nil]; rw [bs_u8of (by omega) (by omega), bs_u8of (by omega) (by omega), bs_u8of (by omega) (by omega), bs_u8of (by omega) (by omega), bs_u8of (by omega) (by omega), bs_u8of (by omega) (by omega), bs_u8of (by omega) (by omega), bs_u8of (by omega) (by omega)]]
end Go.Proofs.YtbhmnkpbaeemeaaDoor

/-! # W6 -/
namespace Go.Proofs.YtbhmnkpbaeemeaaDoor
open Go.RowKit

theorem WrPost.after {w w1 w2 : World} {p : Nat} {A : Option Addr} {s' : WrS} (hb : Below w.heap.size w w1) (h : WrPost w1 w2 p A s') : WrPost w w2 p A s' := by
  obtain ⟨A', c', h1, h2, h3⟩ := h
  refine ⟨A', c', h1, (Chg.ofBelow hb _).trans' h2, fun k hk => ?_⟩
  rcases h3 k hk with h | h
  · exact .inl h
  · exact .inr (Nat.le_trans hb.size h)

theorem lay_none {w : World} {p : Nat} {A : Option Addr} {c : Nat} {s : WrS} (h : Wr w p A c s) (own : Int) :
    Calls Tryd.prog 65 #[.pointer (some ⟨p, 0, none⟩), .int .i64 own, .slice none 0 0] w fun e w' => e = .returned (.tuple #[]) ∧ WrPost w w' p A (s.lay own []) :=
  lay_any w p A c s h own none [] Parts.none (by simp [flat])

theorem lay_one {w w1 : World} {p : Nat} {A : Option Addr} {c : Nat} {s : WrS} (h : Wr w p A c s) (hb : Below w.heap.size w w1) {A1 : Option Addr} {n1 c1 : Nat} {xs : List UInt8} (hr : Rd w1 A1 n1 c1 xs)
    (hF : 0 < n1 → ∀ k, inA A1 k → ¬ wrF p A k) (hl : xs.length ≤ 1000000000) :
    Calls Tryd.prog 65 #[.pointer (some ⟨p, 0, none⟩), .int .i64 0, .slice (some ⟨w1.heap.size, 0, none⟩) 1 1] (w1.alloc (.cells #[.slice A1 n1 c1] 22)) fun e w' => e = .returned (.tuple #[]) ∧ WrPost w w' p A (s.lay 0 xs) := by
  have hb' : Below w.heap.size w (w1.alloc (.cells #[.slice A1 n1 c1] 22)) := hb.alloc hb.size _
  have hp : Parts (w1.alloc (.cells #[.slice A1 n1 c1] 22)) (wrF p A) (some ⟨w1.heap.size, 0, none⟩) [⟨A1, n1, c1, xs⟩] :=
    Parts.one (Blk.new _ _ _) (fun hk => by have := h.lt hk; have := hb.size; omega) (hr.alloc _) hF
  have := lay_any _ p A c s (h.below hb') 0 _ _ hp (by simpa [flat] using hl)
  refine this.mono fun e w' hq => ⟨hq.1, ?_⟩
  have h2 := hq.2
  rw [show flat [(⟨A1, n1, c1, xs⟩ : Part)] = xs by simp [flat]] at h2
  exact h2.after hb'

theorem lay_two {w w1 : World} {p : Nat} {A : Option Addr} {c : Nat} {s : WrS} (h : Wr w p A c s) (hb : Below w.heap.size w w1) {A1 : Option Addr} {n1 c1 : Nat} {xs : List UInt8} (hr : Rd w1 A1 n1 c1 xs)
    (hF : 0 < n1 → ∀ k, inA A1 k → ¬ wrF p A k) {A2 : Option Addr} {n2 c2 : Nat} {ys : List UInt8} (hr2 : Rd w1 A2 n2 c2 ys)
    (hF2 : 0 < n2 → ∀ k, inA A2 k → ¬ wrF p A k) (hl : xs.length + ys.length ≤ 1000000000) :
    Calls Tryd.prog 65 #[.pointer (some ⟨p, 0, none⟩), .int .i64 0, .slice (some ⟨w1.heap.size, 0, none⟩) 2 2] (w1.alloc (.cells #[.slice A1 n1 c1, .slice A2 n2 c2] 22)) fun e w' => e = .returned (.tuple #[]) ∧ WrPost w w' p A (s.lay 0 (xs ++ ys)) := by
  have hb' : Below w.heap.size w (w1.alloc (.cells #[.slice A1 n1 c1, .slice A2 n2 c2] 22)) := hb.alloc hb.size _
  have hp : Parts (w1.alloc (.cells #[.slice A1 n1 c1, .slice A2 n2 c2] 22)) (wrF p A) (some ⟨w1.heap.size, 0, none⟩) [⟨A1, n1, c1, xs⟩, ⟨A2, n2, c2, ys⟩] :=
    Parts.two (Blk.new _ _ _) (fun hk => by have := h.lt hk; have := hb.size; omega) (hr.alloc _) hF (hr2.alloc _) hF2
  have := lay_any _ p A c s (h.below hb') 0 _ _ hp (by simpa [flat] using hl)
  refine this.mono fun e w' hq => ⟨hq.1, ?_⟩
  have h2 := hq.2
  rw [show flat [(⟨A1, n1, c1, xs⟩ : Part), ⟨A2, n2, c2, ys⟩] = xs ++ ys by simp [flat]] at h2
  exact h2.after hb'

theorem inA_some {b o : Nat} {k : Nat} : inA (some ⟨b, o, none⟩) k ↔ b = k := by
  constructor
  · rintro ⟨a, e, h⟩
    cases e
    exact h
  · rintro rfl
    exact ⟨_, rfl, rfl⟩
theorem Wr.fresh {w : World} {p : Nat} {A : Option Addr} {c : Nat} {s : WrS} (h : Wr w p A c s) {A1 : Option Addr} (hf : ∀ k, inA A1 k → w.heap.size ≤ k) : ∀ k, inA A1 k → ¬ wrF p A k := fun k hk hw => by
  have := h.lt hw
  have := hf k hk
  omega

/-! ### numbers in as few bytes as they need -/
def contB (y : Nat) : UInt8 := UInt8.ofNat (y % 128 + 128)
theorem contB_toNat (y : Nat) : (contB y).toNat = y % 128 + 128 := by
  unfold contB
  rw [UInt8.toNat_ofNat']
  exact Nat.mod_eq_of_lt (by omega)
set_option maxRecDepth 100000 in
theorem or128 : ∀ z, z < 256 → z ||| 128 = z % 128 + 128 := by decide
theorem bits_or128 (y : Nat) : bits .or .u8 ((y : Int) % 256) 128 = ((contB y).toNat : Int) := by
  rw [u8_or _ _ (by omega) (by omega) (by omega) (by omega), contB_toNat, show (128 : Int).toNat = 128 from rfl, or128 _ (by omega)]
  omega
def lastB (y : Nat) : UInt8 := UInt8.ofNat y
theorem lastB_toNat (y : Nat) (h : y < 256) : (lastB y).toNat = y := by
  unfold lastB
  rw [UInt8.toNat_ofNat']
  exact Nat.mod_eq_of_lt (by omega)

def numB (v : Nat) : List UInt8 := if v < 128 then [lastB v] else contB v :: numB (v / 128)
termination_by v

theorem numB_len (v : Nat) (k : Nat) (h : v < 128 ^ k) (hk : 0 < k) : (numB v).length ≤ k := by
  induction k generalizing v with
  | zero => omega
  | succ k ih =>
    rw [numB]
    split
    · simp
    · simp only [List.length_cons]
      have hk0 : 0 < k := by
        rcases Nat.eq_zero_or_pos k with rfl | h0
        · simp at h; omega
        · exact h0
      have := ih (v / 128) (by rw [Nat.pow_succ] at h; exact Nat.div_lt_of_lt_mul (by rw [Nat.mul_comm]; exact h)) hk0
      omega
theorem numB_len64 (v : Nat) (h : v < 18446744073709551616) : (numB v).length ≤ 10 := numB_len v 10 (Nat.lt_trans h (by decide)) (by omega)
theorem numB_ge (v : Nat) (h : 128 ≤ v) : numB v = contB v :: numB (v / 128) := by rw [numB, if_neg (by omega)]
theorem numB_lt (v : Nat) (h : v < 128) : numB v = [lastB v] := by rw [numB, if_pos h]

theorem below_of {w0 w w1 : World} {A : Option Addr} {n c : Nat} {xs : List UInt8} (h : Below w0.heap.size w0 w) (ho : Ob w w0.heap.size A n c xs) (hc : Chg w w1 (inA A)) : Below w0.heap.size w0 w1 :=
  h.trans (hc.below h.size fun i hi hA => by have := (ho.lt hA).1; omega)

set_option maxRecDepth 100000 in
theorem number_any (v : Nat) (w : World) (hv : v < 18446744073709551616) :
    Calls Tryd.prog 136 #[.int .u64 (v : Int)] w fun e w' => ∃ A' c', e = .returned (.slice A' (numB v).length c') ∧ Ob w' w.heap.size A' (numB v).length c' (numB v) ∧ Below w.heap.size w w' := by
  have hlen := numB_len64 v hv
  go_enter Tryd.func136, Tryd.ntmps136
  go_wp2
  go_loopw [0, 3] (fun x b wr => ∃ (y : Nat) (pre : List UInt8) (A : Option Addr) (c n : Nat), y < 18446744073709551616 ∧ x = .int .u64 (y : Int) ∧ b = .slice A n c ∧ Hid (pre.length = n) ∧ Hid (numB v = pre ++ numB y) ∧ Hid (Ob wr w.heap.size A n c pre) ∧ Hid (Below w.heap.size w wr)) (fun x _ _ => (intOf x).toNat)
  case atStart => exact ⟨v, [], none, 0, 0, hv, rfl, rfl, rfl, rfl, Ob.nil _ _, Below.refl _ _⟩
  case round =>
    obtain ⟨y, pre, A, c, n, hy, rfl, rfl, HN, HP, HO, HB⟩ := hrel
    have hpl : n ≤ 10 := by rw [← HN.out]; have := HP.out; rw [this, List.length_append] at hlen; omega
    by_cases hlt : 128 ≤ y
    · have hbit := bits_or128 y
      go_wp2_with (at_builtin; refine wpl_append_1 rfl (.tmp 6) (.tmp 10) rfl rfl HO.out rfl (contB y) rfl (by omega) HB.out.size ?_; intro A2 c2 w2 hown2 hchg2 hin2; have HA := Lib.hid (And.intro hown2 (And.intro hchg2 hin2)); clear hown2 hchg2 hin2)
      go_roundw
      case rel => 
        refine ⟨y / 128, pre ++ [contB y], A2, c2, n + 1, by omega, by go_num, rfl, ?_, ?_, HA.out.1, ?_⟩
        · show _ = _
          rw [List.length_append, HN.out]; rfl
        · show _ = _
          rw [HP.out, numB_ge y hlt, List.append_assoc]; rfl
        · exact below_of HB.out HO.out HA.out.2.1
      case measure => simp [intOf]; omega
    · have hn1 := numB_lt y (by omega)
      have Hn1 := Lib.hid hn1; clear hn1
      have Hlb : Hid ((y : Int) = ((lastB y).toNat : Int)) := by show _ = _; rw [lastB_toNat y (by omega)]
      go_wp2_with (at_builtin; refine wpl_append_1 rfl (.tmp 14) (.tmp 17) rfl rfl HO.out rfl (lastB y) Hlb.out (by omega) HB.out.size ?_; intro A2 c2 w2 hown2 hchg2 hin2; have HA := Lib.hid (And.intro hown2 (And.intro hchg2 hin2)); clear hown2 hchg2 hin2)
      go_ret
      have e1 : pre ++ [lastB y] = numB v := by rw [HP.out, Hn1.out]
      have e2 : n + 1 = (numB v).length := by rw [← e1, List.length_append, HN.out]; rfl
      rw [e1, e2] at HA
      rw [e2]
      exact ⟨A2, c2, rfl, HA.out.1, below_of HB.out HO.out HA.out.2.1⟩
end Go.Proofs.YtbhmnkpbaeemeaaDoor

/-! # W7 -/
namespace Go.Proofs.YtbhmnkpbaeemeaaDoor
open Go.RowKit

section
variable {w : World} {p : Nat} {A : Option Addr} {c : Nat} {s : WrS}

theorem below1 (w : World) (o : Obj) : Below w.heap.size w (w.alloc o) := (Below.refl _ _).alloc (Nat.le_refl _) _

theorem U8_any (h : Wr w p A c s) (v : UInt8) :
    Calls Tryd.prog 63 #[.pointer (some ⟨p, 0, none⟩), .int .u8 (v.toNat : Int)] w fun e w' => e = .returned (.tuple #[]) ∧ WrPost w w' p A (s.lay 0 [v]) := by
  have hb : Blk (w.alloc (.cells #[.int .u8 (v.toNat : Int)] 5)) w.heap.size (bs [v]).toArray 5 := Blk.new _ _ _
  have hL := Lib.hid (lay_one h (below1 w (.cells #[.int .u8 (v.toNat : Int)] 5)) (Rd.ofBlk hb (by simp)) (fun _ => h.fresh fun k hk => by rw [inA_some] at hk; omega) (by simp))
  clear hb h
  simp only [World.size_alloc] at hL
  go_enter Tryd.func63, Tryd.ntmps63
  go_wp2_with (go_at_call 65; refine hL.out.mono ?_; rintro e w' ⟨rfl, hq⟩)
  go_returns
  exact ⟨rfl, hq⟩

theorem U16_any (h : Wr w p A c s) (v : Int) (h0 : 0 ≤ v) (h1 : v ≤ 65535) :
    Calls Tryd.prog 62 #[.pointer (some ⟨p, 0, none⟩), .int .u16 v] w fun e w' => e = .returned (.tuple #[]) ∧ WrPost w w' p A (s.lay 0 (big2 v)) := by
  have hb : Blk (w.alloc (.cells (bs (big2 v)).toArray 5)) w.heap.size (bs (big2 v)).toArray 5 := Blk.new _ _ _
  have hL := Lib.hid (lay_one h (below1 w (.cells (bs (big2 v)).toArray 5)) (Rd.ofBlk hb (by simp [big2])) (fun _ => h.fresh fun k hk => by rw [inA_some] at hk; omega) (by simp [big2]))
  clear hb h
  simp only [World.size_alloc] at hL
  have hH := Lib.hid (high2 v w h0 h1)
  go_enter Tryd.func62, Tryd.ntmps62
  go_wp2_with first | (go_at_call 131; refine hH.out.mono ?_; rintro e w' ⟨rfl, rfl⟩) | (go_at_call 65; refine hL.out.mono ?_; rintro e w' ⟨rfl, hq⟩)
  go_returns
  exact ⟨rfl, hq⟩

theorem U32_any (h : Wr w p A c s) (v : Int) (h0 : 0 ≤ v) (h1 : v ≤ 4294967295) :
    Calls Tryd.prog 64 #[.pointer (some ⟨p, 0, none⟩), .int .u32 v] w fun e w' => e = .returned (.tuple #[]) ∧ WrPost w w' p A (s.lay 0 (big4 v)) := by
  have hb : Blk (w.alloc (.cells (bs (big4 v)).toArray 5)) w.heap.size (bs (big4 v)).toArray 5 := Blk.new _ _ _
  have hL := Lib.hid (lay_one h (below1 w (.cells (bs (big4 v)).toArray 5)) (Rd.ofBlk hb (by simp [big4])) (fun _ => h.fresh fun k hk => by rw [inA_some] at hk; omega) (by simp [big4]))
  clear hb h
  simp only [World.size_alloc] at hL
  have hH := Lib.hid (high4 v w h0 h1)
  go_enter Tryd.func64, Tryd.ntmps64
  go_wp2_with first | (go_at_call 131; refine hH.out.mono ?_; rintro e w' ⟨rfl, rfl⟩) | (go_at_call 65; refine hL.out.mono ?_; rintro e w' ⟨rfl, hq⟩)
  go_returns
  exact ⟨rfl, hq⟩

theorem U64_any (h : Wr w p A c s) (v : Int) (h0 : 0 ≤ v) (h1 : v ≤ 18446744073709551615) :
    Calls Tryd.prog 74 #[.pointer (some ⟨p, 0, none⟩), .int .u64 v] w fun e w' => e = .returned (.tuple #[]) ∧ WrPost w w' p A (s.lay 0 (big8 v)) := by
  have hb : Blk (w.alloc (.cells (bs (big8 v)).toArray 5)) w.heap.size (bs (big8 v)).toArray 5 := Blk.new _ _ _
  have hL := Lib.hid (lay_one h (below1 w (.cells (bs (big8 v)).toArray 5)) (Rd.ofBlk hb (by simp [big8])) (fun _ => h.fresh fun k hk => by rw [inA_some] at hk; omega) (by simp [big8]))
  clear hb h
  simp only [World.size_alloc] at hL
  have hH := Lib.hid (high8 v w h0 h1)
  go_enter Tryd.func74, Tryd.ntmps74
  go_wp2_with first | (go_at_call 131; refine hH.out.mono ?_; rintro e w' ⟨rfl, rfl⟩) | (go_at_call 65; refine hL.out.mono ?_; rintro e w' ⟨rfl, hq⟩)
  go_returns
  exact ⟨rfl, hq⟩

theorem Num_any (h : Wr w p A c s) (v : Nat) (hv : v < 18446744073709551616) :
    Calls Tryd.prog 75 #[.pointer (some ⟨p, 0, none⟩), .int .u64 (v : Int)] w fun e w' => e = .returned (.tuple #[]) ∧ WrPost w w' p A (s.lay 0 (numB v)) := by
  have hN := Lib.hid (number_any v w hv)
  have hl := numB_len64 v hv
  go_enter Tryd.func75, Tryd.ntmps75
  go_wp2_with first | (go_at_call 136; refine hN.out.mono ?_; rintro e w1 ⟨A1, c1, rfl, ho, hb⟩) | (go_at_call 65; refine (lay_one h hb ho.rd (fun _ => h.fresh fun k hk => (ho.lt hk).1) (by omega)).mono ?_; rintro e w' ⟨rfl, hq⟩)
  go_returns
  exact ⟨rfl, hq⟩

theorem Flag_any (h : Wr w p A c s) (v : Bool) :
    Calls Tryd.prog 77 #[.pointer (some ⟨p, 0, none⟩), .bool v] w fun e w' => e = .returned (.tuple #[]) ∧ WrPost w w' p A (s.lay 0 [if v then 1 else 0]) := by
  have hL : ∀ v : UInt8, Hid (Calls Tryd.prog 65 #[.pointer (some ⟨p, 0, none⟩), .int .i64 0, .slice (some ⟨w.heap.size + 1, 0, none⟩) 1 1] ((w.alloc (.cells #[.int .u8 (v.toNat : Int)] 5)).alloc (.cells #[.slice (some ⟨w.heap.size, 0, none⟩) 1 1] 22)) fun e w' => e = .returned (.tuple #[]) ∧ WrPost w w' p A (s.lay 0 [v])) := by
    intro v
    have hb : Blk (w.alloc (.cells #[.int .u8 (v.toNat : Int)] 5)) w.heap.size (bs [v]).toArray 5 := Blk.new _ _ _
    have := lay_one h (below1 w (.cells #[.int .u8 (v.toNat : Int)] 5)) (Rd.ofBlk hb (by simp)) (fun _ => h.fresh fun k hk => by rw [inA_some] at hk; omega) (by simp)
    exact Lib.hid (by simpa using this)
  cases v
  · have hL0 := hL 0
    clear hL h
    go_enter Tryd.func77, Tryd.ntmps77
    go_wp2_with (go_at_call 65; refine hL0.out.mono ?_; rintro e w' ⟨rfl, hq⟩)
    go_returns
    exact ⟨rfl, hq⟩
  · have hL0 := hL 1
    clear hL h
    go_enter Tryd.func77, Tryd.ntmps77
    go_wp2_with (go_at_call 65; refine hL0.out.mono ?_; rintro e w' ⟨rfl, hq⟩)
    go_returns
    exact ⟨rfl, hq⟩

/-- A list's length: refused, or laid down as a number. -/
def WrS.count (s : WrS) (n most : Int) : WrS := if n < 0 ∨ most < n then s.lay 21 [] else s.lay 0 (numB n.toNat)

theorem Count_any (h : Wr w p A c s) (n most : Int) (hn : n ≤ 9223372036854775807) :
    Calls Tryd.prog 79 #[.pointer (some ⟨p, 0, none⟩), .int .i64 n, .int .i64 most] w fun e w' => e = .returned (.tuple #[]) ∧ WrPost w w' p A (s.count n most) := by
  have hL := Lib.hid (lay_none h 21)
  by_cases hn0 : n < 0
  · have fin : s.count n most = s.lay 21 [] := by unfold WrS.count; rw [if_pos (.inl hn0)]
    have Fin := Lib.hid fin; clear fin
    go_enter Tryd.func79, Tryd.ntmps79
    go_wp2_with (go_at_call 65; refine hL.out.mono ?_; rintro e w' ⟨rfl, hq⟩)
    go_returns
    exact ⟨rfl, by rw [Fin.out]; exact hq⟩
  · by_cases hm : most < n
    · have fin : s.count n most = s.lay 21 [] := by unfold WrS.count; rw [if_pos (.inr hm)]
      have Fin := Lib.hid fin; clear fin
      go_enter Tryd.func79, Tryd.ntmps79
      go_wp2_with (go_at_call 65; refine hL.out.mono ?_; rintro e w' ⟨rfl, hq⟩)
      go_returns
      exact ⟨rfl, by rw [Fin.out]; exact hq⟩
    · have fin : s.count n most = s.lay 0 (numB n.toNat) := by unfold WrS.count; rw [if_neg (by omega)]
      have Fin := Lib.hid fin; clear fin hL
      obtain ⟨m, rfl⟩ := Int.eq_ofNat_of_zero_le (Int.not_lt.1 hn0)
      rw [Int.toNat_natCast] at Fin
      have hN := Lib.hid (number_any m w (by omega))
      have hl := numB_len64 m (by omega)
      go_enter Tryd.func79, Tryd.ntmps79
      go_wp2_with first | (go_at_call 136; refine hN.out.mono ?_; rintro e w1 ⟨A1, c1, rfl, ho, hb⟩) | (go_at_call 65; refine (lay_one h hb ho.rd (fun _ => h.fresh fun k hk => (ho.lt hk).1) (by omega)).mono ?_; rintro e w' ⟨rfl, hq⟩)
      go_returns
      exact ⟨rfl, by rw [Fin.out]; exact hq⟩

/-- Bytes with their number ahead, or refused. -/
def WrS.blob (s : WrS) (b : List UInt8) (most : Int) : WrS := if most < b.length then s.lay 21 [] else s.lay 0 (numB b.length ++ b)

theorem Blob_any (h : Wr w p A c s) (Ab : Option Addr) (n cb : Nat) (b : List UInt8) (most : Int) (hr : Rd w Ab n cb b) (hF : 0 < n → ∀ k, inA Ab k → ¬ wrF p A k) (hn : n ≤ 999999000) :
    Calls Tryd.prog 81 #[.pointer (some ⟨p, 0, none⟩), .slice Ab n cb, .int .i64 most] w fun e w' => e = .returned (.tuple #[]) ∧ WrPost w w' p A (s.blob b most) := by
  have hL := Lib.hid (lay_none h 21)
  have hlen := hr.len
  by_cases hm : most < n
  · have fin : s.blob b most = s.lay 21 [] := by unfold WrS.blob; rw [if_pos (by omega)]
    have Fin := Lib.hid fin; clear fin hlen
    go_enter Tryd.func81, Tryd.ntmps81
    go_wp2_with (go_at_call 65; refine hL.out.mono ?_; rintro e w' ⟨rfl, hq⟩)
    go_returns
    exact ⟨rfl, by rw [Fin.out]; exact hq⟩
  · have fin : s.blob b most = s.lay 0 (numB n ++ b) := by unfold WrS.blob; rw [if_neg (by omega), hlen]
    have Fin := Lib.hid fin; clear fin hL
    have hN := Lib.hid (number_any n w (by omega))
    have hl := numB_len64 n (by omega)
    have Hlen := Lib.hid hlen; clear hlen
    go_enter Tryd.func81, Tryd.ntmps81
    go_wp2_with first | (go_at_call 136; refine hN.out.mono ?_; rintro e w1 ⟨A1, c1, rfl, ho, hb⟩) | (go_at_call 65; refine (lay_two h hb ho.rd (fun _ => h.fresh fun k hk => (ho.lt hk).1) (hr.below hb) hF (by rw [Hlen.out]; omega)).mono ?_; rintro e w' ⟨rfl, hq⟩)
    go_returns
    exact ⟨rfl, by rw [Fin.out]; exact hq⟩

theorem Len_any (h : Wr w p A c s) :
    Calls Tryd.prog 27 #[.pointer (some ⟨p, 0, none⟩)] w fun e w' => e = .returned (.int .i64 (s.buf.length : Int)) ∧ w = w' := by
  have c5 : w.cell? ⟨p, 5, none⟩ = some (.slice A s.buf.length c) := h.blk.cell 5
  clear h
  go_enter Tryd.func27, Tryd.ntmps27
  go_wp2
  go_ret
  exact ⟨rfl, rfl⟩

/-- What Bytes tells: an error, or the bytes. -/
theorem Bytes_unmade (h : Wr w p A c s) (hm : s.made = false) :
    Calls Tryd.prog 38 #[.pointer (some ⟨p, 0, none⟩)] w fun e w' => ∃ b, e = .returned (.tuple #[.slice none 0 0, .iface 129 (.pointer (some ⟨b, 0, none⟩))]) ∧ w.heap.size ≤ b ∧ ErrAt w' b 3 0 ∧ Below w.heap.size w w' := by
  have c0 : w.cell? ⟨p, 0, none⟩ = some (.bool s.made) := h.blk.cell 0
  rw [hm] at c0
  have hT := Lib.hid (told_unmade w p c0)
  clear hm h
  go_enter Tryd.func38, Tryd.ntmps38
  go_wp2_with (go_at_call 98; refine hT.out.mono ?_; rintro e w1 ⟨b, rfl, h1, h2, h3⟩)
  go_ret2
  exact ⟨b, rfl, h1, h2, h3⟩

theorem Bytes_bad (h : Wr w p A c s) (hm : s.made = true) (hb : s.bad = true) :
    Calls Tryd.prog 38 #[.pointer (some ⟨p, 0, none⟩)] w fun e w' => ∃ b, e = .returned (.tuple #[.slice none 0 0, .iface 129 (.pointer (some ⟨b, 0, none⟩))]) ∧ w.heap.size ≤ b ∧ ErrAt w' b s.code s.at_ ∧ Below w.heap.size w w' := by
  have c0 : w.cell? ⟨p, 0, none⟩ = some (.bool s.made) := h.blk.cell 0
  have c1 : w.cell? ⟨p, 1, none⟩ = some (.bool s.bad) := h.blk.cell 1
  rw [hm] at c0
  rw [hb] at c1
  have hT := Lib.hid (told_bad w p s.code s.at_ c0 c1 (h.blk.cell 2) (h.blk.cell 3))
  clear hm hb h
  go_enter Tryd.func38, Tryd.ntmps38
  go_wp2_with (go_at_call 98; refine hT.out.mono ?_; rintro e w1 ⟨b, rfl, h1, h2, h3⟩)
  go_ret2
  exact ⟨b, rfl, h1, h2, h3⟩

theorem Bytes_good (h : Wr w p A c s) (hm : s.made = true) (hb : s.bad = false) :
    Calls Tryd.prog 38 #[.pointer (some ⟨p, 0, none⟩)] w fun e w' => ∃ A', e = .returned (.tuple #[.slice A' s.buf.length s.buf.length, .nilIface]) ∧ Ob w' w.heap.size A' s.buf.length s.buf.length s.buf ∧ Below w.heap.size w w' := by
  have c0 : w.cell? ⟨p, 0, none⟩ = some (.bool s.made) := h.blk.cell 0
  have c1 : w.cell? ⟨p, 1, none⟩ = some (.bool s.bad) := h.blk.cell 1
  have c5 : w.cell? ⟨p, 5, none⟩ = some (.slice A s.buf.length c) := h.blk.cell 5
  rw [hm] at c0
  rw [hb] at c1
  have hT := Lib.hid (told_good w p c0 c1)
  have hsm := h.small
  clear hm hb
  go_enter Tryd.func38, Tryd.ntmps38
  go_wp2_with first | (go_at_call 98; refine hT.out.mono ?_; rintro e w1 ⟨rfl, rfl⟩) | (go_at_call 71; refine (twin_any _ _ _ _ s.buf h.row.rd (by omega)).mono ?_; rintro e w1 ⟨A', rfl, ho, hb⟩)
  go_ret2
  exact ⟨A', rfl, ho, hb⟩
end
end Go.Proofs.YtbhmnkpbaeemeaaDoor

/-! # W8 -/
namespace Go.Proofs.YtbhmnkpbaeemeaaDoor
open Go.RowKit

/-- The table of the sixteen half bytes, where the program has it. -/
def Tab (w : World) : Prop := ∀ j, j < 16 → w.cell? ⟨0, j, none⟩ = some (.int .u32 (Crc.tabN j : Int))
theorem Tab.below {w w' : World} (h : Tab w) {B : Nat} (hb : Below B w w') (h0 : 0 < B) : Tab w' := fun j hj => (hb.cell h0).trans (h j hj)
theorem Tab.lt {w : World} (h : Tab w) : 0 < w.heap.size := World.block_lt_of_cell? w _ (h 0 (by omega))

theorem half (C X : Nat) (hC : C < 4294967296) (hX : X < 4294967296) : ∃ M N T C1 : Nat, bits .xor .u32 (C : Int) (X : Int) = (M : Int) ∧ bits .and .u32 (M : Int) 15 = (N : Int) ∧ N < 16 ∧ T = Crc.tabN N ∧ bits .xor .u32 (T : Int) ((C : Int) / 16) = (C1 : Int) ∧ C1 < 4294967296 ∧ C1 = Crc.nib C X := by
  have hM : C ^^^ X < 4294967296 := Nat.xor_lt_two_pow (n := 32) hC hX
  refine ⟨C ^^^ X, (C ^^^ X) % 16, _, Crc.nib C X, u32_xor_nat C X hC hX, ?_, by omega, rfl, ?_, Crc.nib_lt C X hC, rfl⟩
  · rw [u32_and _ _ (by omega) (by omega) (by omega) (by omega), Int.toNat_natCast, show (15 : Int).toNat = 15 from rfl, nat_mask4]
  · rw [u32_xor _ _ (by omega) (by have := Crc.tabN_lt ((C ^^^ X) % 16); omega) (by omega) (by omega), Int.toNat_natCast, show ((C : Int) / 16).toNat = C / 16 by omega]
    rfl

theorem Sum_any (w : World) (A : Option Addr) (n c : Nat) (xs : List UInt8) (hx : Rd w A n c xs) (hT : Tab w) :
    Calls Tryd.prog 14 #[.slice A n c] w fun e w' => e = .returned (.int .u32 (Crc.sum xs : Int)) ∧ w = w' := by
  have hl := hx.len
  have hle := hx.le
  have hmx := hx.max
  have ha := hx.at_
  subst hl
  have Ha := Lib.hid ha; clear ha hx
  have HT := Lib.hid hT; clear hT
  go_enter Tryd.func14, Tryd.ntmps14
  go_wp2
  go_loop [3, 8] (fun s i => ∃ (k C : Nat), k ≤ xs.length ∧ i = .int .i64 k ∧ s = .int .u32 (C : Int) ∧ C < 4294967296 ∧ Hid (C = Crc.raw 4294967295 (xs.take k))) (fun _ i => xs.length - (intOf i).toNat)
  case atStart => exact ⟨0, 4294967295, Nat.zero_le _, rfl, rfl, by omega, rfl⟩
  case round =>
    obtain ⟨k, C, hk, rfl, rfl, hC, HC⟩ := hrel
    by_cases hlt : k < xs.length
    · obtain ⟨b, o, rfl, hc⟩ := Ha.out k hlt
      have hX : (xs[k]'hlt).toNat < 256 := (xs[k]'hlt).toNat_lt
      generalize hxk : (xs[k]'hlt).toNat = X at hc hX
      have HX := Lib.hid hxk; clear hxk
      obtain ⟨M1, N1, T1, C1, e1, e2, hN1, hT1, e3, hC1, hD1⟩ := half C X hC (by omega)
      obtain ⟨M2, N2, T2, C2, e4, e5, hN2, hT2, e6, hC2, hD2⟩ := half C1 (X / 16) hC1 (by omega)
      rw [show ((X / 16 : Nat) : Int) = (X : Int) / 16 from rfl] at e4
      have t1 : w.cell? ⟨0, N1, none⟩ = some (.int .u32 (T1 : Int)) := by rw [hT1]; exact HT.out N1 hN1
      have t2 : w.cell? ⟨0, N2, none⟩ = some (.int .u32 (T2 : Int)) := by rw [hT2]; exact HT.out N2 hN2
      have HD : Hid (C2 = Crc.sumStep C (xs[k]'hlt)) := by
        show _ = _
        unfold Crc.sumStep
        rw [hD2, hD1, HX.out]
      clear hT1 hT2 hD1 hD2
      go_wp2
      go_round
      case rel =>
        refine ⟨k + 1, C2, by omega, by go_num, rfl, hC2, ?_⟩
        show _ = _
        rw [List.take_succ_eq_append_getElem hlt, Crc.raw_snoc, ← HC.out, HD.out]
      case measure => simp [intOf]; omega
    · go_wp2
      go_ret
      refine ⟨?_, rfl⟩
      show Ending.returned (.int .u32 (bits .xor .u32 IntKind.u32.max (C : Int))) = _
      rw [show IntKind.u32.max = ((4294967295 : Nat) : Int) from by decide, u32_xor_nat _ _ (by omega) hC, HC.out, List.take_of_length_le (by omega)]
      rfl

theorem bitAnd1 (Y : Nat) (h : Y < 4294967296) : bits .and .u32 (Y : Int) 1 = ((Y % 2 : Nat) : Int) := by
  rw [u32_and _ _ (by omega) (by omega) (by omega) (by omega), Int.toNat_natCast, show (1 : Int).toNat = 1 from rfl, nat_mask1]

theorem bitShr (X j : Nat) (hX : X < 256) : bits .and .u32 ((X : Int) / 2 ^ j % 4294967296) 1 = ((X / 2 ^ j % 2 : Nat) : Int) := by
  have e : (X : Int) / 2 ^ j = ((X / 2 ^ j : Nat) : Int) := by
    rw [Int.natCast_ediv, Int.natCast_pow]
    rfl
  have h2 : X / 2 ^ j ≤ X := Nat.div_le_self _ _
  rw [e]
  generalize X / 2 ^ j = q at h2
  rw [Int.emod_eq_of_lt (by omega) (by omega)]
  exact bitAnd1 _ (by omega)

/-- One bit of the document's sum: what the walk reckons, and what it is. -/
theorem refBit (D X j : Nat) (hD : D < 4294967296) (hX : X < 256) : ∃ β δ γ D2 : Nat, bits .and .u32 ((X : Int) / 2 ^ j % 4294967296) 1 = (β : Int) ∧ bits .and .u32 (D : Int) 1 = (δ : Int) ∧ bits .xor .u32 (δ : Int) (β : Int) = (γ : Int) ∧
    bits .xor .u32 ((D : Int) / 2) 2197175160 = (D2 : Int) ∧ D2 < 4294967296 ∧ Crc.bitStep D (X / 2 ^ j % 2) = (if γ = 1 then D2 else D / 2) := by
  refine ⟨X / 2 ^ j % 2, D % 2, D % 2 ^^^ X / 2 ^ j % 2, D / 2 ^^^ 2197175160, bitShr X j hX, bitAnd1 D hD, u32_xor_nat _ _ (by omega) (by omega), ?_, Nat.xor_lt_two_pow (n := 32) (by omega) (by decide), rfl⟩
  rw [u32_xor _ _ (by omega) (by omega) (by omega) (by omega), show ((D : Int) / 2).toNat = D / 2 by omega]
  rfl

theorem refSum_any (w : World) (A : Option Addr) (n c : Nat) (xs : List UInt8) (hx : Rd w A n c xs) :
    Calls Tryd.prog 15 #[.slice A n c] w fun e w' => e = .returned (.int .u32 (Crc.sum xs : Int)) ∧ w = w' := by
  have hl := hx.len
  have hle := hx.le
  have hmx := hx.max
  have ha := hx.at_
  subst hl
  have Ha := Lib.hid ha; clear ha hx
  go_enter Tryd.func15, Tryd.ntmps15
  go_wp2
  go_loop [3, 4] (fun s i => ∃ (k C : Nat), k ≤ xs.length ∧ i = .int .i64 k ∧ s = .int .u32 (C : Int) ∧ C < 4294967296 ∧ Hid (C = Crc.raw 4294967295 (xs.take k))) (fun _ i => xs.length - (intOf i).toNat)
  case atStart => exact ⟨0, 4294967295, Nat.zero_le _, rfl, rfl, by omega, rfl⟩
  case round =>
    obtain ⟨k, C, hk, rfl, rfl, hC, HC⟩ := hrel
    by_cases hlt : k < xs.length
    · obtain ⟨b, o, rfl, hc⟩ := Ha.out k hlt
      have hX : (xs[k]'hlt).toNat < 256 := (xs[k]'hlt).toNat_lt
      generalize hxk : (xs[k]'hlt).toNat = X at hc hX
      have HX := Lib.hid hxk; clear hxk
      go_wp2
      go_loop [3, 5] (fun s i => ∃ (j D : Nat), j ≤ 8 ∧ i = .int .i64 j ∧ s = .int .u32 (D : Int) ∧ D < 4294967296 ∧ Hid (D = Crc.bits C X j)) (fun _ i => 8 - (intOf i).toNat)
      case atStart => exact ⟨0, C, by omega, rfl, rfl, hC, rfl⟩
      case round =>
        obtain ⟨j, D, hj, rfl, rfl, hD, HD⟩ := hrel
        by_cases hjt : j < 8
        · obtain ⟨β, δ, γ, D2, e1, e2, e3, e4, hD2, hst⟩ := refBit D X j hD hX
          have HST : Hid (Crc.bits C X (j + 1) = if γ = 1 then D2 else D / 2) := by
            show _ = _
            rw [← hst, HD.out]
            rfl
          clear hst
          by_cases hg : γ = 1
          · have hgb : ((γ : Int) == 1) = true := by subst hg; rfl
            have HG := Lib.hid hg; clear hg
            go_wp2
            go_round
            case rel => exact ⟨j + 1, D2, by omega, by go_num, rfl, hD2, (by show _ = _; rw [HST.out, if_pos HG.out])⟩
            case measure => simp [intOf]; omega
          · have hgb : ((γ : Int) == 1) = false := by simp; omega
            have HG := Lib.hid hg; clear hg
            go_wp2
            go_round
            case rel => exact ⟨j + 1, D / 2, by omega, by go_num, by go_num, by omega, (by show _ = _; rw [HST.out, if_neg HG.out])⟩
            case measure => simp [intOf]; omega
        · go_wp2
          go_round
          case rel =>
            refine ⟨k + 1, D, by omega, by go_num, rfl, hD, ?_⟩
            show _ = _
            rw [List.take_succ_eq_append_getElem hlt, Crc.raw_snoc, ← HC.out, HD.out, show j = 8 by omega, ← HX.out, Crc.bits8]
          case measure => simp [intOf]; omega
    · go_wp2
      go_ret
      refine ⟨?_, rfl⟩
      show Ending.returned (.int .u32 (bits .xor .u32 (C : Int) 4294967295)) = _
      rw [show (4294967295 : Int) = ((4294967295 : Nat) : Int) from rfl, u32_xor_nat _ _ hC (by omega), HC.out, List.take_of_length_le (by omega), Nat.xor_comm]
      rfl
end Go.Proofs.YtbhmnkpbaeemeaaDoor

/-! # W9 -/
namespace Go.Proofs.YtbhmnkpbaeemeaaDoor
open Go.RowKit

theorem take_snoc {xs : List UInt8} {k : Nat} (h : k < xs.length) : xs.take (k + 1) = xs.take k ++ [xs[k]'h] := List.take_succ_eq_append_getElem h

theorem Copy_any (w : World) (A : Option Addr) (n c : Nat) (xs : List UInt8) (hx : Rd w A n c xs) (hn : n ≤ 1000000000) :
    Calls Tryd.prog 86 #[.slice A n c] w fun e w' => ∃ A' c', e = .returned (.slice A' n c') ∧ Ob w' w.heap.size A' n c' xs ∧ Below w.heap.size w w' := by
  have HX := Lib.hid hx
  have hl := hx.len
  subst hl
  clear hx
  go_enter Tryd.func86, Tryd.ntmps86
  go_wp2
  go_loopw [3, 4] (fun b i wr => ∃ (k : Nat) (A' : Option Addr) (c' : Nat), k ≤ xs.length ∧ i = .int .i64 k ∧ b = .slice A' k c' ∧ Hid (Ob wr w.heap.size A' k c' (xs.take k)) ∧ Hid (Below w.heap.size w wr)) (fun _ i _ => xs.length - (intOf i).toNat)
  case atStart => exact ⟨0, none, 0, Nat.zero_le _, rfl, rfl, Ob.nil _ _, Below.refl _ _⟩
  case round =>
    obtain ⟨k, A', c', hk, rfl, rfl, HO, HB⟩ := hrel
    by_cases hlt : k < xs.length
    · obtain ⟨b, o, rfl, hc⟩ := (HX.out.below HB.out).at_ k hlt
      go_wp2_with (at_builtin; refine wpl_append_1 rfl (.tmp 11) (.tmp 16) rfl rfl HO.out rfl (xs[k]'hlt) rfl (by omega) HB.out.size ?_; intro A2 c2 w2 hown2 hchg2 hin2; have HA := Lib.hid (And.intro hown2 (And.intro hchg2 hin2)); clear hown2 hchg2 hin2)
      go_roundw
      case rel => exact ⟨k + 1, A2, c2, by omega, by go_num, rfl, by rw [take_snoc hlt]; exact HA.out.1, below_of HB.out HO.out HA.out.2.1⟩
      case measure => simp [intOf]; omega
    · go_wp2
      go_ret
      obtain rfl : k = xs.length := by omega
      rw [List.take_length] at HO
      exact ⟨A', c', rfl, HO.out, HB.out⟩

theorem Join_any (w : World) (A : Option Addr) (n c : Nat) (xs : List UInt8) (hx : Rd w A n c xs) (A1 : Option Addr) (m c1 : Nat) (ys : List UInt8) (hy : Rd w A1 m c1 ys) (hn : n + m ≤ 1000000000) :
    Calls Tryd.prog 59 #[.slice A n c, .slice A1 m c1] w fun e w' => ∃ A' c', e = .returned (.slice A' (n + m) c') ∧ Ob w' w.heap.size A' (n + m) c' (xs ++ ys) ∧ Below w.heap.size w w' := by
  have HY := Lib.hid hy
  have hl := hy.len
  subst hl
  clear hy
  have HC := Lib.hid (Copy_any w A n c xs hx (by omega))
  go_enter Tryd.func59, Tryd.ntmps59
  go_wp2_with (go_at_call 86; refine HC.out.mono ?_; rintro e w1 ⟨A0, c0, rfl, ho, hb⟩)
  have HO := Lib.hid ho
  have HB := Lib.hid hb
  clear ho hb
  go_loopw [5, 6] (fun b i wr => ∃ (k : Nat) (A' : Option Addr) (c' l : Nat), k ≤ ys.length ∧ i = .int .i64 k ∧ l = n + k ∧ b = .slice A' l c' ∧ Hid (Ob wr w.heap.size A' l c' (xs ++ ys.take k)) ∧ Hid (Below w.heap.size w wr)) (fun _ i _ => ys.length - (intOf i).toNat)
  case atStart => exact ⟨0, A0, c0, n, Nat.zero_le _, rfl, rfl, rfl, by simpa using HO, HB⟩
  case round =>
    obtain ⟨k, A', c', l, hk, rfl, hl, rfl, HO, HB⟩ := hrel
    have hll : l ≤ 1000000000 := by omega
    have HL := Lib.hid hl; clear hl
    by_cases hlt : k < ys.length
    · obtain ⟨b, o, rfl, hc⟩ := (HY.out.below HB.out).at_ k hlt
      go_wp2_with (at_builtin; refine wpl_append_1 rfl (.tmp 15) (.tmp 20) rfl rfl HO.out rfl (ys[k]'hlt) rfl (by omega) HB.out.size ?_; intro A2 c2 w2 hown2 hchg2 hin2; have HA := Lib.hid (And.intro hown2 (And.intro hchg2 hin2)); clear hown2 hchg2 hin2)
      go_roundw
      case rel => exact ⟨k + 1, A2, c2, l + 1, by omega, by go_num, by have := HL.out; omega, rfl, by rw [take_snoc hlt, ← List.append_assoc]; exact HA.out.1, below_of HB.out HO.out HA.out.2.1⟩
      case measure => simp [intOf]; omega
    · go_wp2
      go_ret
      obtain rfl : k = ys.length := by omega
      rw [List.take_length] at HO
      obtain rfl := HL.out
      exact ⟨A', c', rfl, HO.out, HB.out⟩

/-- The high bytes first, by digits. -/
def bigR (v : Nat) : Nat → List UInt8
  | 0 => []
  | n + 1 => lastB (v / 256 ^ n % 256) :: bigR v n
theorem bigR_length (v n : Nat) : (bigR v n).length = n := by
  induction n with
  | zero => rfl
  | succ n ih => simp [bigR, ih]

theorem shr8 (v k : Nat) : (v : Int) / 2 ^ (8 * k) % 256 = ((lastB (v / 256 ^ k % 256)).toNat : Int) := by
  rw [lastB_toNat _ (by omega)]
  have e : (v : Int) / 2 ^ (8 * k) = ((v / 2 ^ (8 * k) : Nat) : Int) := by
    rw [Int.natCast_ediv, Int.natCast_pow]
    rfl
  rw [e, Nat.pow_mul]
  rfl

theorem Big_any (w : World) (v n : Nat) (hv : v < 18446744073709551616) (hn : n ≤ 8) :
    Calls Tryd.prog 60 #[.int .u64 (v : Int), .int .i64 (n : Int)] w fun e w' => ∃ A' c', e = .returned (.slice A' n c') ∧ Ob w' w.heap.size A' n c' (bigR v n) ∧ Below w.heap.size w w' := by
  go_enter Tryd.func60, Tryd.ntmps60
  go_wp2
  go_loopw [5, 6] (fun b i wr => ∃ (k : Nat) (A' : Option Addr) (c' l : Nat) (acc : List UInt8), k ≤ n ∧ i = .int .i64 ((k : Int) - 1) ∧ l + k = n ∧ b = .slice A' l c' ∧ Hid (bigR v n = acc ++ bigR v k) ∧ Hid (Ob wr w.heap.size A' l c' acc) ∧ Hid (Below w.heap.size w wr)) (fun _ i _ => (intOf i + 1).toNat)
  case atStart => exact ⟨n, none, 0, 0, [], Nat.le_refl _, by go_num, by omega, rfl, rfl, Ob.nil _ _, Below.refl _ _⟩
  case round =>
    obtain ⟨k, A', c', l, acc, hk, rfl, hl, rfl, HV, HO, HB⟩ := hrel
    have hll : l ≤ 8 := by omega
    have HL := Lib.hid hl; clear hl
    by_cases hlt : 0 < k
    · obtain ⟨k, rfl⟩ : ∃ m, k = m + 1 := ⟨k - 1, by omega⟩
      have HZ := Lib.hid (shr8 v k)
      go_wp2_with (at_builtin; refine wpl_append_1 rfl (.tmp 13) (.tmp 20) rfl rfl HO.out rfl (lastB (v / 256 ^ k % 256)) HZ.out (by omega) HB.out.size ?_; intro A2 c2 w2 hown2 hchg2 hin2; have HA := Lib.hid (And.intro hown2 (And.intro hchg2 hin2)); clear hown2 hchg2 hin2)
      go_roundw
      case rel =>
        refine ⟨k, A2, c2, l + 1, acc ++ [lastB (v / 256 ^ k % 256)], by omega, by go_num, by have := HL.out; omega, rfl, ?_, HA.out.1, below_of HB.out HO.out HA.out.2.1⟩
        show _ = _
        rw [HV.out, List.append_assoc]
        rfl
      case measure => simp [intOf]
    · obtain rfl : k = 0 := by omega
      go_wp2
      go_ret
      obtain rfl : l = n := by have := HL.out; omega
      have e : acc = bigR v l := by rw [HV.out]; simp [bigR]
      subst e
      exact ⟨A', c', rfl, HO.out, HB.out⟩
end Go.Proofs.YtbhmnkpbaeemeaaDoor

/-! # W10 -/
namespace Go.Proofs.YtbhmnkpbaeemeaaDoor
open Go.RowKit

theorem make_cap (n : Nat) (hn : n ≤ 1000000000) (W : World) : (Instr.makeSlice 22 (.int .i64 0) (.int .i64 ((n : Int) + 4))).run Tryd.prog W = .ok (.slice (some ⟨W.heap.size, 0, none⟩) 0 (n + 4)) (W.alloc (.cells (madeCells #[.int .u8 0] (n + 4)) 5)) := by
  obtain ⟨i0, hi, hz0, hz1, hz2⟩ := info_parts info5
  have := run_make (P := Tryd.prog) W 22 5 i0 (.int .u8 0) Tryd.underlying22 hi hz0 .i64 .i64 0 ((n : Int) + 4) (by omega) (by omega) (by rw [hz2]; omega) (by omega)
  rw [hz1, Nat.mul_one, show ((n : Int) + 4).toNat = n + 4 by omega] at this
  exact this
theorem Ob.made (W : World) (B n : Nat) (hB : B ≤ W.heap.size) (hn : n ≤ 1000000000) : Ob (W.alloc (.cells (madeCells #[.int .u8 0] n) 5)) B (some ⟨W.heap.size, 0, none⟩) 0 n [] :=
  World.ownsRow_made W _ n hB (by unfold maxLen; omega) (by rw [size_madeCells, Nat.mul_one])

def marks : List UInt8 := [160, 161, 162, 163]

theorem marks_get (k : Nat) (h : k < marks.length) : ((marks[k]'h).toNat : Int) = 160 + k := by
  have : k = 0 ∨ k = 1 ∨ k = 2 ∨ k = 3 := by simp [marks] at h; omega
  rcases this with rfl | rfl | rfl | rfl <;> rfl

theorem Rd.front {w : World} {A : Option Addr} {n m c : Nat} {xs ys : List UInt8} (h : Rd w A m c (xs ++ ys)) (hn : xs.length = n) : Rd w A n c xs :=
  ⟨hn, by have h1 := h.len; have h2 := h.le; rw [List.length_append] at h1; omega, h.max, h.nil, fun i hi => by
    obtain ⟨b, o, e, hc⟩ := h.at_ i (by rw [List.length_append]; omega)
    refine ⟨b, o, e, ?_⟩
    rw [hc, List.getElem_append_left hi]⟩

theorem lend_any (w : World) (A : Option Addr) (n c : Nat) (xs : List UInt8) (hx : Rd w A n c xs) (hn : n ≤ 999999000) :
    Calls Tryd.prog 13 #[.slice A n c] w fun e w' => ∃ A' c', e = .returned (.slice A' n c') ∧ Ob w' w.heap.size A' (n + 4) c' (xs ++ marks) ∧ Below w.heap.size w w' := by
  have HX := Lib.hid hx
  have hl := hx.len
  subst hl
  clear hx
  have hmk := make_cap xs.length (by omega)
  go_enter Tryd.func13, Tryd.ntmps13
  go_wp2
  clear hmk
  go_loopw [3, 4] (fun b i wr => ∃ (k : Nat) (A' : Option Addr) (c' : Nat), k ≤ xs.length ∧ i = .int .i64 k ∧ b = .slice A' k c' ∧ Hid (Ob wr w.heap.size A' k c' (xs.take k)) ∧ Hid (Below w.heap.size w wr)) (fun _ i _ => xs.length - (intOf i).toNat)
  case atStart => exact ⟨0, _, _, Nat.zero_le _, rfl, rfl, Ob.made w _ _ (Nat.le_refl _) (by omega), below1 w _⟩
  case round =>
    obtain ⟨k, A', c', hk, rfl, rfl, HO, HB⟩ := hrel
    by_cases hlt : k < xs.length
    · obtain ⟨b, o, rfl, hc⟩ := (HX.out.below HB.out).at_ k hlt
      go_wp2_with (at_builtin; refine wpl_append_1 rfl (.tmp 16) (.tmp 21) rfl rfl HO.out rfl (xs[k]'hlt) rfl (by omega) HB.out.size ?_; intro A2 c2 w2 hown2 hchg2 hin2; have HA := Lib.hid (And.intro hown2 (And.intro hchg2 hin2)); clear hown2 hchg2 hin2)
      go_roundw
      case rel => exact ⟨k + 1, A2, c2, by omega, by go_num, rfl, by rw [take_snoc hlt]; exact HA.out.1, below_of HB.out HO.out HA.out.2.1⟩
      case measure => simp [intOf]; omega
    · obtain rfl : k = xs.length := by omega
      rw [List.take_length] at HO
      go_wp2
      go_loopw [3, 5] (fun b i wr => ∃ (k : Nat) (A' : Option Addr) (c' l : Nat), k ≤ 4 ∧ i = .int .i64 k ∧ l = xs.length + k ∧ b = .slice A' l c' ∧ Hid (Ob wr w.heap.size A' l c' (xs ++ marks.take k)) ∧ Hid (Below w.heap.size w wr)) (fun _ i _ => 4 - (intOf i).toNat)
      case atStart => exact ⟨0, A', c', xs.length, Nat.zero_le _, rfl, rfl, rfl, by simpa using HO, HB⟩
      case round =>
        obtain ⟨k, A', c', l, hk, rfl, hl, rfl, HO, HB⟩ := hrel
        have hll : l ≤ 999999004 := by omega
        have HL := Lib.hid hl; clear hl
        by_cases hlt : k < 4
        · have hlm : k < marks.length := hlt
          have HZ : Hid (160 + (k : Int) = ((marks[k]'hlm).toNat : Int)) := (marks_get k hlm).symm
          go_wp2_with (at_builtin; refine wpl_append_1 rfl (.tmp 27) (.tmp 31) rfl rfl HO.out rfl (marks[k]'hlm) HZ.out (by omega) HB.out.size ?_; intro A2 c2 w2 hown2 hchg2 hin2; have HA := Lib.hid (And.intro hown2 (And.intro hchg2 hin2)); clear hown2 hchg2 hin2)
          go_roundw
          case rel => exact ⟨k + 1, A2, c2, l + 1, by omega, by go_num, by have := HL.out; omega, rfl, by rw [take_snoc hlm, ← List.append_assoc]; exact HA.out.1, below_of HB.out HO.out HA.out.2.1⟩
          case measure => simp [intOf]; omega
        · obtain rfl : k = 4 := by omega
          have hlc : xs.length ≤ c' := by have := HO.out.rd.le; have := HL.out; omega
          go_wp2
          go_ret
          obtain rfl := HL.out
          exact ⟨A', c', rfl, HO.out, HB.out⟩

theorem kept_true (w : World) (A : Option Addr) (n c : Nat) (xs : List UInt8) (hx : Rd w A (n + 4) c (xs ++ marks)) (A1 : Option Addr) (c1 : Nat) (hy : Rd w A1 n c1 xs) (hn : n ≤ 999999000) :
    Calls Tryd.prog 16 #[.slice A n c, .slice A1 n c1] w fun e w' => e = .returned (.bool true) ∧ ∃ q, w' = w.drewN q := by
  have HX := Lib.hid hx
  have HY := Lib.hid hy
  have hl := hy.len
  subst hl
  have hcap : xs.length + 4 ≤ c := hx.le
  clear hx hy
  go_enter Tryd.func16, Tryd.ntmps16
  go_wp2
  go_loopw [6] (fun i wr => ∃ k : Nat, k ≤ xs.length + 4 ∧ i = .int .i64 k ∧ ∃ q, wr = w.drewN q) (fun i _ => xs.length + 4 - (intOf i).toNat)
  case atStart => exact ⟨0, Nat.zero_le _, rfl, 0, rfl⟩
  case round =>
    obtain ⟨k, hk, rfl, q, rfl⟩ := hrel
    by_cases hlt : k < xs.length + 4
    · have hkl : k < (xs ++ marks).length := by rw [List.length_append]; exact hlt
      obtain ⟨b, o, rfl, hc⟩ := HX.out.at_ k hkl
      by_cases hlx : k < xs.length
      · obtain ⟨b1, o1, rfl, hc1⟩ := HY.out.at_ k hlx
        rw [List.getElem_append_left hlx] at hc
        have t2b : decide (xs.length ≤ k) = false := by simp; omega
        go_wp2
        go_quiet (fail)
        go_wp2
        go_roundw
        case rel => exact ⟨k + 1, by omega, by go_num, _, rfl⟩
        case measure => simp [intOf]; omega
      · have hm : k - xs.length < marks.length := by show _ < 4; omega
        rw [List.getElem_append_right (by omega)] at hc
        rw [marks_get _ hm] at hc
        have t2b : decide (xs.length ≤ k) = true := by simp; omega
        have t1b : decide (k < xs.length) = false := by simp; omega
        have ht4 : ((160 + ((k - xs.length : Nat) : Int)) != (160 + (k : Int) - (xs.length : Int)) % 256) = false := by
          rw [bne_eq_false_iff_eq]
          omega
        go_wp2
        go_quiet (fail)
        go_wp2
        go_roundw
        case rel => exact ⟨k + 1, by omega, by go_num, _, rfl⟩
        case measure => simp [intOf]; omega
    · go_wp2
      go_ret
      exact ⟨rfl, q, rfl⟩
end Go.Proofs.YtbhmnkpbaeemeaaDoor

/-! # W11 -/
namespace Go.Proofs.YtbhmnkpbaeemeaaDoor
open Go.RowKit

theorem told_nil (w : World) : Calls Tryd.prog 19 #[.nilIface] w fun e w' => e = .returned (.tuple #[.int .i64 0, .int .i64 0]) ∧ w = w' := by
  go_enter Tryd.func19, Tryd.ntmps19
  go_wp2
  go_ret2
  exact ⟨rfl, rfl⟩

set_option maxRecDepth 100000 in
theorem told_err (w : World) (b : Nat) (code at_ : Int) (h : ErrAt w b code at_) (hc : code ≠ 0) :
    Calls Tryd.prog 19 #[.iface 129 (.pointer (some ⟨b, 0, none⟩))] w fun e w' => e = .returned (.tuple #[.int .i64 code, .int .i64 at_]) ∧ ∃ q, w' = w.drewN q := by
  have c0 : w.cell? ⟨b, 0, none⟩ = some (.string wireS) := Blk.cell h 0
  have c1 : w.cell? ⟨b, 1, none⟩ = some (.int .i64 at_) := Blk.cell h 1
  have c2 : w.cell? ⟨b, 2, none⟩ = some (.iface 60 (.int .i64 code)) := Blk.cell h 2
  have hcb : (code == 0) = false := by simpa using hc
  unfold wireS at c0
  clear h hc
  have ta1 : ∀ w : World, (Instr.typeAssert (.iface 129 (.pointer (some ⟨b, 0, none⟩))) 33 129 true).run Tryd.prog w = .ok (.tuple #[.pointer (some ⟨b, 0, none⟩), .bool true]) w := fun _ => by kernel_rfl
  have ta2 : ∀ w : World, (Instr.typeAssert (.iface 60 (.int .i64 code)) 33 60 true).run Tryd.prog w = .ok (.tuple #[.int .i64 code, .bool true]) w := fun _ => by kernel_rfl
  go_enter Tryd.func19, Tryd.ntmps19
  go_wp2
  go_quiet (fail)
  go_wp2
  go_ret2
  exact ⟨rfl, _, rfl⟩

/-! ### The document's datagram -/
def lowR (s n : Nat) : List UInt8 := (List.range n).map fun i => lastB (s / 256 ^ i % 256)
theorem lowR_succ (s n : Nat) : lowR s (n + 1) = lowR s n ++ [lastB (s / 256 ^ n % 256)] := by simp [lowR, List.range_succ]
theorem u8of_nat (z : Nat) : u8of (z : Int) = lastB z := rfl
theorem low4_eq (s : Nat) (h : s < 4294967296) : low4 (s : Int) = lowR s 4 := by
  simp only [lowR_succ]
  simp only [lowR, List.range_zero, List.map_nil, List.nil_append, List.cons_append, low4]
  have h1 : ((s : Int) % 256) = ((s / 256 ^ 0 % 256 : Nat) : Int) := by simp
  have h2 : ((s : Int) / 256 % 256) = ((s / 256 ^ 1 % 256 : Nat) : Int) := by simp
  have h3 : ((s : Int) / 65536 % 256) = ((s / 256 ^ 2 % 256 : Nat) : Int) := by simp
  have h4 : ((s : Int) / 16777216) = ((s / 256 ^ 3 % 256 : Nat) : Int) := by simp; omega
  rw [h1, h2, h3, h4]
  simp only [u8of_nat]

def preL (kind : UInt8) (body : List UInt8) : List UInt8 := [81, 77, 1, kind] ++ bigR body.length 4 ++ body
def frameL (kind : UInt8) (body : List UInt8) : List UInt8 := preL kind body ++ lowR (Crc.sum (preL kind body)) 4
theorem preL_length (kind : UInt8) (body : List UInt8) : (preL kind body).length = 8 + body.length := by simp [preL, bigR_length]; omega

set_option maxRecDepth 100000 in
theorem refFrame_long (w : World) (K : Int) (A : Option Addr) (n c : Nat) (hn : 65495 < n) (hm : n ≤ 1000000000) :
    Calls Tryd.prog 17 #[.int .i64 K, .slice A n c] w fun e w' => e = .returned (.tuple #[.slice none 0 0, .agg #[.int .i64 21, .int .i64 65507]]) ∧ Below w.heap.size w w' := by
  have hb : decide ((65507 : Int) < (n : Int) + 12) = true := by simp; omega
  clear hn
  go_enter Tryd.func17, Tryd.ntmps17
  go_wp2
  go_returns
  exact ⟨rfl, by go_grown⟩

theorem Join_l (w : World) (A : Option Addr) (n c : Nat) (xs : List UInt8) (hx : Rd w A n c xs) (A1 : Option Addr) (m c1 : Nat) (ys : List UInt8) (hy : Rd w A1 m c1 ys) (l : Nat) (hl : n + m = l) (hn : l ≤ 1000000000) :
    Calls Tryd.prog 59 #[.slice A n c, .slice A1 m c1] w fun e w' => ∃ A' c', e = .returned (.slice A' l c') ∧ Ob w' w.heap.size A' l c' (xs ++ ys) ∧ Below w.heap.size w w' := by
  subst hl
  exact Join_any w A n c xs hx A1 m c1 ys hy hn

theorem Big4 (w : World) (v : Nat) (hv : v < 18446744073709551616) :
    Calls Tryd.prog 60 #[.int .u64 (v : Int), .int .i64 4] w fun e w' => ∃ A' c', e = .returned (.slice A' 4 c') ∧ Ob w' w.heap.size A' 4 c' (bigR v 4) ∧ Below w.heap.size w w' := Big_any w v 4 hv (by omega)

set_option maxRecDepth 100000 in
set_option maxHeartbeats 400000 in
theorem refFrame_good (w : World) (K : UInt8) (A : Option Addr) (n c : Nat) (xs : List UInt8) (hx : Rd w A n c xs) (hn : n ≤ 65495) :
    Calls Tryd.prog 17 #[.int .i64 (K.toNat : Int), .slice A n c] w fun e w' => ∃ A' c', e = .returned (.tuple #[.slice A' (n + 12) c', .agg #[.int .i64 0, .int .i64 0]]) ∧ Ob w' w.heap.size A' (n + 12) c' (frameL K xs) ∧ Below w.heap.size w w' := by
  have hK : K.toNat < 256 := K.toNat_lt
  have hl := hx.len
  subst hl
  have HS := Lib.hid (Crc.sum_lt (preL K xs))
  generalize hsm : Crc.sum (preL K xs) = S at HS


  have Hsm := Lib.hid hsm; clear hsm
  have hb : decide ((65507 : Int) < (xs.length : Int) + 12) = false := by simp; omega
  have hm : xs.length ≤ 1000000000 := by omega
  have Hn := Lib.hid hn; clear hn
  go_enter Tryd.func17, Tryd.ntmps17
  go_wp2_with fail
  obtain ⟨wA, hwA⟩ : ∃ wA : World, wA = (w.alloc (Obj.cells #[Value.int IntKind.i64 0, Value.int IntKind.i64 0] 29)).alloc (Obj.cells #[Value.int IntKind.u8 81, Value.int IntKind.u8 77, Value.int IntKind.u8 1, Value.int IntKind.u8 ↑K.toNat] 5) := ⟨_, rfl⟩
  rw [← hwA]
  have bN : Blk wA w.heap.size #[.int .i64 0, .int .i64 0] 29 := by rw [hwA]; exact (Blk.new _ _ _).alloc _
  have bH : Blk wA (w.heap.size + 1) (bs [81, 77, 1, K]).toArray 5 := by
    rw [hwA]
    have := Blk.new (w.alloc (Obj.cells #[Value.int IntKind.i64 0, Value.int IntKind.i64 0] 29)) (bs [81, 77, 1, K]).toArray 5
    rw [World.size_alloc] at this
    exact this
  have hbA : Below w.heap.size w wA := by rw [hwA]; go_grown
  have hxA := hx.below hbA
  clear hwA
  refine (Big4 wA xs.length (by omega)).mono ?_
  rintro e w1 ⟨A1, c1, rfl, o1, b1⟩
  have hb1 := below_then hbA b1
  go_wp2_with fail
  refine (Join_l w1 _ 4 4 [81, 77, 1, K] ((Rd.ofBlk bH (by simp)).below b1) A1 4 c1 _ o1.rd 8 rfl (by omega)).mono ?_
  rintro e w2 ⟨A2, c2, rfl, o2, b2⟩
  have hb2 := below_then hb1 b2
  go_wp2_with fail
  refine (Join_l w2 _ 8 c2 _ o2.rd A xs.length c xs (hx.below hb2) (8 + xs.length) rfl (by have := Hn.out; omega)).mono ?_
  rintro e w3 ⟨A3, c3, rfl, o3, b3⟩
  have hb3 := below_then hb2 b3
  have e3 : [81, 77, 1, K] ++ bigR xs.length 4 ++ xs = preL K xs := rfl
  rw [e3] at o3
  have hr := refSum_any w3 _ _ _ _ o3.rd
  rw [Hsm.out] at hr
  have HR := Lib.hid hr
  clear hr
  have bN3 : Blk w3 w.heap.size #[.int .i64 0, .int .i64 0] 29 := ((bN.kept b1).kept b2).kept b3
  have HO := Lib.hid (o3.up fun k hk => Nat.le_trans hb2.size (o3.lt hk).1 : Ob w3 w.heap.size A3 (8 + xs.length) c3 (preL K xs))
  have HB := Lib.hid hb3
  have HN := Lib.hid bN3
  have hsz : w.heap.size < w2.heap.size := by have := bN.lt; have := b1.size; have := b2.size; omega
  have HA3 : Hid (∀ {k : Nat}, inA A3 k → w2.heap.size ≤ k ∧ k < w3.heap.size) := fun {k} hk => o3.lt hk
  clear bN bH b1 b2 b3 hbA hxA hb1 hb2 hb3 o1 o2 o3 e3 bN3
  have hnA : ¬ inA A3 w.heap.size := fun hk => by have := (HA3.out hk).1; omega
  go_wp2_with (go_at_call 15; refine HR.out.mono ?_; rintro e w4 ⟨rfl, rfl⟩)
  clear HA3
  have HNA := Lib.hid hnA; clear hnA
  go_loopw [6, 8] (fun b i wr => ∃ (k : Nat) (A' : Option Addr) (c' l : Nat), k ≤ 4 ∧ i = .int .i64 k ∧ l = 8 + xs.length + k ∧ b = .slice A' l c' ∧ Hid (Ob wr w.heap.size A' l c' (preL K xs ++ lowR S k)) ∧ Hid (Below w.heap.size w wr) ∧ Hid (Blk wr w.heap.size #[.int .i64 0, .int .i64 0] 29) ∧ Hid (¬ inA A' w.heap.size)) (fun _ i _ => 4 - (intOf i).toNat)
  case atStart => exact ⟨0, A3, c3, 8 + xs.length, Nat.zero_le _, rfl, rfl, rfl, by simpa [lowR] using HO, HB, HN, HNA⟩
  case round =>
    obtain ⟨k, A', c', l, hk, rfl, hl, rfl, HO, HB, HN, HNA⟩ := hrel
    have hll : l ≤ 1000000012 := by omega
    have HL := Lib.hid hl; clear hl
    by_cases hlt : k < 4
    · have HZ := Lib.hid (shr8 S k)
      go_wp2_with (at_builtin; refine wpl_append_1 rfl (.tmp 31) (.tmp 38) rfl rfl HO.out rfl (lastB (S / 256 ^ k % 256)) HZ.out (by omega) HB.out.size ?_; intro A2 c2 w2 hown2 hchg2 hin2; have HA := Lib.hid (And.intro hown2 (And.intro hchg2 hin2)); clear hown2 hchg2 hin2)
      go_roundw
      case rel =>
        refine ⟨k + 1, A2, c2, l + 1, by omega, by go_num, by have := HL.out; omega, rfl, ?_, below_of HB.out HO.out HA.out.2.1, HN.out.chg HA.out.2.1 HNA.out, ?_⟩
        · rw [lowR_succ, ← List.append_assoc]; exact HA.out.1
        · intro hk2
          rcases HA.out.2.2 _ hk2 with h | h
          · exact HNA.out h
          · have := HN.out.lt; omega
      case measure => simp [intOf]; omega
    · obtain rfl : k = 4 := by omega
      have hc0 : wr.cell? ⟨w.heap.size, 0, none⟩ = some (.int .i64 0) := HN.out.cell 0
      have hc1 : wr.cell? ⟨w.heap.size, 1, none⟩ = some (.int .i64 0) := HN.out.cell 1
      have f0 := HN.out.frozen 0
      have f1 := HN.out.frozen 1
      go_wp2
      refine bodyPost_ret (v := .tuple #[.slice A' l c', .agg #[.int .i64 0, .int .i64 0]]) (by simp [results, Tryd.results17, go_sem, hc0, hc1]) rfl ?_
      obtain rfl : l = xs.length + 12 := by have := HL.out; omega
      refine ⟨A', c', rfl, ?_, ?_⟩
      · rw [frameL, Hsm.out]
        refine HO.out.chg (F := (· = w.heap.size)) ?_ fun k hk e => HNA.out (by subst e; exact hk)
        refine Chg.set (Chg.set (Chg.refl _ _) ?_ _) ?_ _ <;> exact fun _ => rfl
      · exact (HB.out.setCell (Nat.le_refl _) _).setCell (Nat.le_refl _) _
end Go.Proofs.YtbhmnkpbaeemeaaDoor

/-! # W12 -/
namespace Go.Proofs.YtbhmnkpbaeemeaaDoor
open Go.RowKit

/-- A writer in good order. -/
def gW (b : List UInt8) : WrS := ⟨true, false, 0, 0, 65507, b⟩
theorem gW_lay (b xs : List UInt8) (h : b.length + xs.length ≤ 65507) : (gW b).lay 0 xs = gW (b ++ xs) := by
  unfold WrS.lay gW
  rw [if_neg (by simp), if_neg (by simp), if_neg (by simp only []; omega)]

/-- A writer of the call's own: all its blocks lie from the call's begin on. -/
structure OwnW (w0 w : World) (p : Nat) (A : Option Addr) (c : Nat) (s : WrS) : Prop where
  wr : Wr w p A c s
  new : ∀ k, wrF p A k → w0.heap.size ≤ k
  bel : Below w0.heap.size w0 w

theorem OwnW.post {w0 w w' : World} {p : Nat} {A : Option Addr} {c : Nat} {s s' : WrS} (h : OwnW w0 w p A c s) (hq : WrPost w w' p A s') : ∃ A' c', OwnW w0 w' p A' c' s' := by
  obtain ⟨A', c', h1, h2, h3⟩ := hq
  refine ⟨A', c', h1, fun k hk => ?_, h.bel.trans (h2.below h.bel.size fun i hi hF => by have := h.new i hF; omega)⟩
  rcases hk with rfl | hk
  · exact h.new _ (.inl rfl)
  · rcases h3 k hk with h3 | h3
    · exact h.new _ (.inr h3)
    · exact Nat.le_trans h.bel.size h3
theorem OwnW.below {w0 w w' : World} {p : Nat} {A : Option Addr} {c : Nat} {s : WrS} (h : OwnW w0 w p A c s) (hb : Below w.heap.size w w') : OwnW w0 w' p A c s := ⟨h.wr.below hb, h.new, below_then h.bel hb⟩
theorem OwnW.rd {w0 w : World} {p : Nat} {A : Option Addr} {c : Nat} {s : WrS} (h : OwnW w0 w p A c s) {A1 : Option Addr} {n1 c1 : Nat} {xs : List UInt8} (hr : Rd w0 A1 n1 c1 xs) : Rd w A1 n1 c1 xs := hr.below h.bel
theorem Rd.in_ {w : World} {A : Option Addr} {n c : Nat} {xs : List UInt8} (h : Rd w A n c xs) (h0 : 0 < n) : ∀ k, inA A k → k < w.heap.size := by
  intro k hk
  obtain ⟨a, rfl, rfl⟩ := hk
  obtain ⟨b, o, e, hc⟩ := h.at_ 0 (by rw [h.len]; exact h0)
  cases e
  exact World.block_lt_of_cell? w _ hc

theorem OwnW.lay_ {w0 w1 w2 : World} {p : Nat} {A1 : Option Addr} {c1 : Nat} {b xs : List UInt8} (h : OwnW w0 w1 p A1 c1 (gW b)) (hq : WrPost w1 w2 p A1 ((gW b).lay 0 xs)) (hl : b.length + xs.length ≤ 65507) : ∃ A2 c2, OwnW w0 w2 p A2 c2 (gW (b ++ xs)) := by
  rw [gW_lay b xs hl] at hq
  exact h.post hq
theorem big4_eq (v : Nat) (h : v < 4294967296) : big4 (v : Int) = bigR v 4 := by
  simp only [big4, bigR]
  have h1 : ((v : Int) % 256) = ((v / 256 ^ 0 % 256 : Nat) : Int) := by simp
  have h2 : ((v : Int) / 256 % 256) = ((v / 256 ^ 1 % 256 : Nat) : Int) := by simp
  have h3 : ((v : Int) / 65536 % 256) = ((v / 256 ^ 2 % 256 : Nat) : Int) := by simp
  have h4 : ((v : Int) / 16777216) = ((v / 256 ^ 3 % 256 : Nat) : Int) := by simp; omega
  rw [h1, h2, h3, h4]
  simp only [u8of_nat]

theorem wframe_long (w : World) (K : Int) (A : Option Addr) (n c : Nat) (hn : 65495 < n) :
    Calls Tryd.prog 18 #[.int .u8 K, .slice A n c] w fun e w' => ∃ b, e = .returned (.tuple #[.slice none 0 0, .iface 129 (.pointer (some ⟨b, 0, none⟩))]) ∧ ErrAt w' b 21 65507 ∧ w.heap.size ≤ b ∧ Below w.heap.size w w' := by
  have hb : decide ((65495 : Int) < (n : Int)) = true := by simp; omega
  clear hn
  go_enter Tryd.func18, Tryd.ntmps18
  go_wp2_with (go_at_call 61; refine (fault_any _ _ _).mono ?_; rintro e w' ⟨rfl, rfl⟩)
  go_ret2
  exact ⟨_, rfl, Blk.new _ _ _, Nat.le_refl _, by go_grown⟩

set_option maxRecDepth 100000 in
set_option maxHeartbeats 400000 in
theorem wframe_good (w : World) (K : UInt8) (A : Option Addr) (n c : Nat) (xs : List UInt8) (hx : Rd w A n c xs) (hn : n ≤ 65495) (hT : Tab w) :
    Calls Tryd.prog 18 #[.int .u8 (K.toNat : Int), .slice A n c] w fun e w' => ∃ A', e = .returned (.tuple #[.slice A' (n + 12) (n + 12), .nilIface]) ∧ Ob w' w.heap.size A' (n + 12) (n + 12) (frameL K xs) ∧ Below w.heap.size w w' := by
  have hb : decide ((65495 : Int) < (n : Int)) = false := by simp; omega
  have hl := hx.len
  have hTl := hT.lt
  have Hn := Lib.hid hn; clear hn
  have Hl := Lib.hid hl; clear hl
  go_enter Tryd.func18, Tryd.ntmps18
  go_wp2_with fail
  refine (newWriter_any 65507 w).mono ?_
  rintro e w1 ⟨rfl, h1, b1⟩
  have o1 : OwnW w w1 w.heap.size none 0 (gW []) := ⟨h1, (fun k hk => by
    rcases hk with rfl | ⟨a, e, _⟩
    · exact Nat.le_refl _
    · cases e), b1⟩
  clear h1 b1
  generalize w.heap.size = p at *
  go_wp2_with fail
  refine (U16_any o1.wr 20813 (by omega) (by omega)).mono ?_
  rintro e w2 ⟨rfl, hq⟩
  obtain ⟨A2, c2, o2⟩ := OwnW.lay_ o1 hq (by simp [big2])
  clear hq
  rw [show [] ++ big2 20813 = [81, 77] by decide] at o2
  go_wp2_with fail
  refine (U8_any o2.wr 1).mono ?_
  rintro e w3 ⟨rfl, hq⟩
  obtain ⟨A3, c3, o3⟩ := OwnW.lay_ o2 hq (by simp)
  clear hq
  go_wp2_with fail
  refine (U8_any o3.wr K).mono ?_
  rintro e w4 ⟨rfl, hq⟩
  obtain ⟨A4, c4, o4⟩ := OwnW.lay_ o3 hq (by simp)
  clear hq
  have hm : (n : Int) ≤ 4294967295 := by have := Hn.out; omega
  go_wp2_with fail
  refine (U32_any o4.wr (n : Int) (by omega) hm).mono ?_
  rintro e w5 ⟨rfl, hq⟩
  rw [big4_eq n (by omega)] at hq
  obtain ⟨A5, c5, o5⟩ := OwnW.lay_ o4 hq (by simp [bigR_length])
  clear hq
  go_wp2_with fail
  refine (lay_one o5.wr (Below.refl _ _) (o5.rd hx) (fun h0 k hk hw => by have := hx.in_ h0 k hk; have := o5.new k hw; omega) (by rw [hx.len]; have := Hn.out; omega)).mono ?_
  rintro e w6 ⟨rfl, hq⟩
  obtain ⟨A6, c6, o6⟩ := OwnW.lay_ o5 hq (by have := Hn.out; have := Hl.out; simp [bigR_length]; omega)
  clear hq
  have e6 : [81, 77] ++ [1] ++ [K] ++ bigR n 4 ++ xs = preL K xs := by rw [preL, Hl.out]; rfl
  rw [e6] at o6
  have hpl : (preL K xs).length = 8 + n := by rw [preL_length, Hl.out]
  have HP := Lib.hid hpl
  have cb : w6.cell? ⟨p, 5, none⟩ = some (.slice A6 (preL K xs).length c6) := o6.wr.blk.cell 5
  rw [hpl] at cb
  have hr6 := o6.wr.row.rd
  rw [show (gW (preL K xs)).buf.length = 8 + n from hpl] at hr6
  have HSum := Lib.hid (Sum_any w6 A6 (8 + n) c6 (preL K xs) hr6 (hT.below o6.bel hT.lt))
  clear hpl hr6 e6
  go_wp2_with fail
  refine HSum.out.mono ?_
  rintro e w7 ⟨rfl, rfl⟩
  have HSL := Lib.hid (Crc.sum_lt (preL K xs))
  have HLW := Lib.hid (low_any (Crc.sum (preL K xs) : Int) w6 (by omega) (by have := HSL.out; omega))
  have bl : Blk (w6.alloc (.cells (bs (low4 (Crc.sum (preL K xs) : Int))).toArray 5)) w6.heap.size (bs (low4 (Crc.sum (preL K xs) : Int))).toArray 5 := Blk.new _ _ _
  have hL := lay_one o6.wr (below1 w6 (.cells (bs (low4 (Crc.sum (preL K xs) : Int))).toArray 5)) (Rd.ofBlk bl (by simp [low4])) (fun _ => o6.wr.fresh fun k hk => by rw [inA_some] at hk; omega) (by simp [low4])
  rw [World.size_alloc] at hL
  have HL := Lib.hid hL
  clear hL bl hTl
  go_wp2_with fail
  refine HLW.out.mono ?_
  rintro e w7 ⟨rfl, rfl⟩
  go_wp2_with fail
  refine HL.out.mono ?_
  rintro e w8 ⟨rfl, hq⟩
  rw [low4_eq _ HSL.out] at hq
  obtain ⟨A8, c8, o8⟩ := OwnW.lay_ o6 hq (by have := HP.out; have := Hn.out; simp [lowR]; omega)
  clear hq
  rw [show preL K xs ++ lowR (Crc.sum (preL K xs)) 4 = frameL K xs from rfl] at o8
  have hlen : (frameL K xs).length = n + 12 := by
    unfold frameL
    rw [List.length_append, HP.out]
    simp [lowR]
    omega
  have HB := Bytes_good o8.wr rfl rfl
  rw [show (gW (frameL K xs)).buf.length = n + 12 from hlen] at HB
  have HB := Lib.hid HB
  go_wp2_with fail
  refine HB.out.mono ?_
  rintro e w9 ⟨A9, rfl, o9, b9⟩
  go_wp2
  go_ret2
  refine ⟨A9, rfl, o9.mono ?_, below_then o8.bel b9⟩
  exact o8.bel.size
end Go.Proofs.YtbhmnkpbaeemeaaDoor
