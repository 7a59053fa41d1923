import Derived.Test.YtbhmnkpbaeemeaaDoorProg
import Derived.WalkKit
import Derived.Outline
import Derived.Handy
import Derived.Below
import Derived.Deep.QuietTactic
import Derived.BigQuiet
import Derived.Lib.Hide
import Derived.Deep.OwnRows
import Derived.Deep.RegionWith
import Derived.Deep.RegionHeld3
import Derived.StillTailTactics
import Derived.Laws.CopyOwn
import Derived.Laws.AppendOwnNone
import Derived.Maps.AppendAt
import Derived.OwnWalk
import Derived.Laws.AppendOwn
import Derived.Laws.CopyRow
set_option linter.unusedVariables false
set_option linter.unusedSimpArgs false
namespace Go.Proofs.YtbhmnkpbaeemeaaDoor
open Go.RowKit

/-! ## What has changed from one world to another: at most the old blocks in F -/
structure Chg (w w' : World) (F : Nat → Prop) : Prop where
  os : w'.os = w.os
  tape : w'.tape = w.tape
  output : w'.output = w.output
  size : w.heap.size ≤ w'.heap.size
  block : ∀ k, k < w.heap.size → ¬ F k → w'.heap[k]? = w.heap[k]?

theorem Chg.refl (w : World) (F : Nat → Prop) : Chg w w F := ⟨rfl, rfl, rfl, Nat.le_refl _, fun _ _ _ => rfl⟩
theorem Chg.trans {w w1 w2 : World} {F F' : Nat → Prop} (h : Chg w w1 F) (k : Chg w1 w2 F') (hF : ∀ i, i < w.heap.size → F' i → F i) : Chg w w2 F :=
  ⟨k.os.trans h.os, k.tape.trans h.tape, k.output.trans h.output, Nat.le_trans h.size k.size, fun i hi hn =>
    (k.block i (Nat.lt_of_lt_of_le hi h.size) (fun hf => hn (hF i hi hf))).trans (h.block i hi hn)⟩
theorem Chg.trans' {w w1 w2 : World} {F : Nat → Prop} (h : Chg w w1 F) (k : Chg w1 w2 F) : Chg w w2 F := h.trans k fun _ _ x => x
theorem Chg.mono {w w1 : World} {F F' : Nat → Prop} (h : Chg w w1 F) (hF : ∀ i, i < w.heap.size → F i → F' i) : Chg w w1 F' :=
  ⟨h.os, h.tape, h.output, h.size, fun i hi hn => h.block i hi fun hf => hn (hF i hi hf)⟩
theorem Chg.ofBelow {w w1 : World} (h : Below w.heap.size w w1) (F : Nat → Prop) : Chg w w1 F := ⟨h.os, h.tape, h.output, h.size, fun i hi _ => h.block i hi⟩
theorem Chg.below {w w1 : World} {F : Nat → Prop} (h : Chg w w1 F) {B : Nat} (hB : B ≤ w.heap.size) (hF : ∀ i, i < B → ¬ F i) : Below B w w1 :=
  ⟨h.os, h.tape, h.output, h.size, fun i hi => h.block i (Nat.lt_of_lt_of_le hi hB) (hF i hi)⟩
theorem Chg.thenBelow {w w1 w2 : World} {F : Nat → Prop} (h : Chg w w1 F) (k : Below w1.heap.size w1 w2) : Chg w w2 F := h.trans' (Chg.ofBelow k F)
theorem Chg.alloc {w w1 : World} {F : Nat → Prop} (h : Chg w w1 F) (o : Obj) : Chg w (w1.alloc o) F := h.thenBelow ((Below.refl _ _).alloc (Nat.le_refl _) _)
theorem Chg.drew {w w1 : World} {F : Nat → Prop} (h : Chg w w1 F) : Chg w w1.drew F := ⟨h.os, h.tape, h.output, h.size, h.block⟩
theorem Chg.drewN {w w1 : World} {F : Nat → Prop} (h : Chg w w1 F) (n : Nat) : Chg w (w1.drewN n) F := ⟨h.os, h.tape, h.output, h.size, h.block⟩
theorem Chg.set {w w1 : World} {F : Nat → Prop} (h : Chg w w1 F) {a : Addr} (ha : a.block < w.heap.size → F a.block) (v : Value) : Chg w (w1.setCell a v) F :=
  ⟨h.os, h.tape, h.output, by simpa [World.setCell] using h.size, fun k hk hn => by
    rw [Below.heap_setCell w1 a v k (fun e => hn (by subst e; exact ha hk)), h.block k hk hn]⟩
theorem Chg.setRow {w w1 : World} {F : Nat → Prop} (h : Chg w w1 F) {g : Nat} (ha : g < w.heap.size → F g) (cs : Array Value) : Chg w (w1.setRow g cs) F :=
  ⟨h.os, h.tape, h.output, by simpa using h.size, fun k hk hn => by
    rw [setRow_other w1 g k cs (fun e => hn (by subst e; exact ha hk)), h.block k hk hn]⟩
theorem Chg.grown {w w1 : World} {row : Option Nat} {F : Nat → Prop} (h : w.grownBy w1 row) (hF : ∀ k, row = some k → F k) : Chg w w1 F :=
  ⟨h.os, h.tape, h.output, h.size, fun k hk hn => h.block k hk fun e => hn (hF k e.symm)⟩
theorem below_drewN {B : Nat} {w w1 : World} (h : Below B w w1) (n : Nat) : Below B w (w1.drewN n) := ⟨h.os, h.tape, h.output, h.size, h.block⟩
theorem below_then {w w1 w2 : World} (h : Below w.heap.size w w1) (k : Below w1.heap.size w1 w2) : Below w.heap.size w w2 := h.trans (k.mono h.size)

/-! ## Blocks: a block of cells that is known whole -/

/-- Block g holds these cells, is of that element type, and nothing of it is frozen. -/
def Blk (w : World) (g : Nat) (cs : Array Value) (e : TypeId) : Prop := w.heap[g]? = some (.cells cs e (0, 0))

section
variable {w w' : World} {g : Nat} {cs : Array Value} {e : TypeId}
theorem Blk.lt (h : Blk w g cs e) : g < w.heap.size := by
  unfold Blk at h
  exact (Array.getElem?_eq_some_iff.1 h).1
theorem Blk.cell (h : Blk w g cs e) (i : Nat) : w.cell? ⟨g, i, none⟩ = cs[i]? := by
  unfold Blk at h
  simp [World.cell?, h]
theorem Blk.frozen (h : Blk w g cs e) (i : Nat) : w.frozen? ⟨g, i, none⟩ = false := by
  unfold Blk at h
  simp [World.frozen?, h]
theorem Blk.below (h : Blk w g cs e) {B : Nat} (hb : Below B w w') (hg : g < B) : Blk w' g cs e := by
  unfold Blk at h ⊢
  rw [hb.block g hg, h]
theorem Blk.kept (h : Blk w g cs e) (hb : Below w.heap.size w w') : Blk w' g cs e := h.below hb h.lt
theorem Blk.chg {F : Nat → Prop} (h : Blk w g cs e) (hb : Chg w w' F) (hF : ¬ F g) : Blk w' g cs e := by
  have hl := h.lt
  unfold Blk at h ⊢
  rw [hb.block g hl hF, h]
theorem Blk.alloc (h : Blk w g cs e) (o : Obj) : Blk (w.alloc o) g cs e := h.kept ((Below.refl _ _).alloc (Nat.le_refl _) _)
theorem Blk.new (w : World) (cs : Array Value) (e : TypeId) : Blk (w.alloc (.cells cs e)) w.heap.size cs e := by
  unfold Blk
  show (w.heap.push _)[w.heap.size]? = _
  simp
theorem Blk.drewN (h : Blk w g cs e) (n : Nat) : Blk (w.drewN n) g cs e := h
theorem Blk.drew (h : Blk w g cs e) : Blk w.drew g cs e := h
theorem Blk.set (h : Blk w g cs e) (i : Nat) (v : Value) : Blk (w.setCell ⟨g, i, none⟩ v) g (cs.setIfInBounds i v) e := by
  unfold Blk at h ⊢
  simp [World.setCell, Array.getElem?_modify, h]
theorem Blk.set_ne (h : Blk w g cs e) {a : Addr} (hne : g ≠ a.block) (v : Value) : Blk (w.setCell a v) g cs e := by
  unfold Blk at h ⊢
  rw [Below.heap_setCell w a v g hne, h]
theorem Blk.inj {cs' : Array Value} {e' : TypeId} (h : Blk w g cs e) (h' : Blk w g cs' e') : cs = cs' := by
  unfold Blk at h h'
  rw [h] at h'
  simp at h'
  exact h'.1
end

/-! ## Bytes -/
def bs (xs : List UInt8) : List Value := xs.map fun b => .int .u8 (b.toNat : Int)
theorem bs_length (xs : List UInt8) : (bs xs).length = xs.length := by simp [bs]
theorem bs_get (xs : List UInt8) (i : Nat) (h : i < xs.length) : (bs xs)[i]? = some (.int .u8 ((xs[i]'h).toNat : Int)) := by
  simp [bs, List.getElem?_eq_getElem h]
theorem bs_append (xs ys : List UInt8) : bs (xs ++ ys) = bs xs ++ bs ys := by simp [bs]
theorem bs_nil : bs [] = [] := rfl
theorem bs_oneCell (xs : List UInt8) : ∀ v ∈ bs xs, v.oneCell' = true := by
  intro v hv
  obtain ⟨b, _, rfl⟩ := List.mem_map.1 hv
  rfl

/-- A number as a byte. -/
def u8of (z : Int) : UInt8 := UInt8.ofNat z.toNat
theorem u8of_toNat {z : Int} (h0 : 0 ≤ z) (h1 : z < 256) : ((u8of z).toNat : Int) = z := by
  unfold u8of
  rw [UInt8.toNat_ofNat']
  have : z.toNat % 2 ^ 8 = z.toNat := Nat.mod_eq_of_lt (by omega)
  omega
theorem bs_u8of {z : Int} (h0 : 0 ≤ z) (h1 : z < 256) : (Value.int .u8 ((u8of z).toNat : Int)) = .int .u8 z := by rw [u8of_toNat h0 h1]

/-- The block in which a slice lies. -/
def inA (A : Option Addr) (k : Nat) : Prop := ∃ a, A = some a ∧ a.block = k
theorem inA_own {A : Option Addr} {n c k : Nat} : (Value.slice A n c).ownBlock = some k ↔ inA A k := by
  cases A <;> simp [Value.ownBlock, inA]

/-- What reads as these bytes: a slice, wherever it lies. -/
structure Rd (w : World) (A : Option Addr) (n c : Nat) (xs : List UInt8) : Prop where
  len : xs.length = n
  le : n ≤ c
  max : c ≤ 9223372036854775807
  nil : A = none → c = 0
  at_ : ∀ i (h : i < xs.length), ∃ b o, A = some ⟨b, o, none⟩ ∧ w.cell? ⟨b, o + i, none⟩ = some (.int .u8 ((xs[i]'h).toNat : Int))

section
variable {w w' : World} {A : Option Addr} {n c : Nat} {xs : List UInt8}
theorem Rd.below (h : Rd w A n c xs) (hb : Below w.heap.size w w') : Rd w' A n c xs :=
  ⟨h.len, h.le, h.max, h.nil, fun i hi => by
    obtain ⟨b, o, e, hc⟩ := h.at_ i hi
    exact ⟨b, o, e, (hb.cell (World.block_lt_of_cell? w _ hc)).trans hc⟩⟩
theorem Rd.chg {F : Nat → Prop} (h : Rd w A n c xs) (hb : Chg w w' F) (hF : 0 < n → ∀ k, inA A k → ¬ F k) : Rd w' A n c xs :=
  ⟨h.len, h.le, h.max, h.nil, fun i hi => by
    obtain ⟨b, o, rfl, hc⟩ := h.at_ i hi
    refine ⟨b, o, rfl, ?_⟩
    rw [← hc]
    exact World.cell?_of_block (hb.block b (World.block_lt_of_cell? w _ hc) (hF (by rw [← h.len]; omega) b ⟨_, rfl, rfl⟩))⟩
theorem Rd.drewN (h : Rd w A n c xs) (k : Nat) : Rd (w.drewN k) A n c xs := ⟨h.len, h.le, h.max, h.nil, h.at_⟩
theorem Rd.drew (h : Rd w A n c xs) : Rd w.drew A n c xs := ⟨h.len, h.le, h.max, h.nil, h.at_⟩
theorem Rd.alloc (h : Rd w A n c xs) (o : Obj) : Rd (w.alloc o) A n c xs := h.below ((Below.refl _ _).alloc (Nat.le_refl _) _)
theorem Rd.nilRd (w : World) : Rd w none 0 0 [] := ⟨rfl, Nat.le_refl _, by omega, fun _ => rfl, fun i hi => by simp at hi⟩
theorem Rd.src (h : Rd w A n c xs) (h0 : 0 < n) : ∃ ad : Addr, A = some ad ∧ ad.spot = none ∧ ∀ (j : Nat) (v : Value), (bs xs)[j]? = some v → w.cell? (ad.add j) = some v := by
  obtain ⟨hl, _, _, _, ha⟩ := h
  obtain ⟨b, o, rfl, _⟩ := ha 0 (by omega)
  refine ⟨⟨b, o, none⟩, rfl, rfl, fun j v hv => ?_⟩
  have hj : j < xs.length := by have := (List.getElem?_eq_some_iff.1 hv).1; simpa [bs] using this
  obtain ⟨b', o', e, hc⟩ := ha j hj
  cases e
  rw [bs_get xs j hj] at hv
  cases hv
  have ea : (⟨b, o, none⟩ : Addr).add j = ⟨b, o + j, none⟩ := by unfold Addr.add; split <;> simp_all
  rw [ea, hc]
theorem Rd.ofBlk {g : Nat} (h : Blk w g (bs xs).toArray 5) (hm : xs.length ≤ 1000000000000) : Rd w (some ⟨g, 0, none⟩) xs.length xs.length xs :=
  ⟨rfl, Nat.le_refl _, by omega, (fun e => by cases e), fun i hi => ⟨g, 0, rfl, by rw [Nat.zero_add, h.cell i]; simpa using bs_get xs i hi⟩⟩
end

/-- A row of bytes of the call's own: from block B on. -/
def Ob (w : World) (B : Nat) (A : Option Addr) (n c : Nat) (xs : List UInt8) : Prop := w.ownsRow B 5 1 (.slice A n c) n (bs xs)

section
variable {w w' : World} {B : Nat} {A : Option Addr} {n c : Nat} {xs : List UInt8}
theorem Ob.nil (w : World) (B : Nat) : Ob w B none 0 0 [] := World.ownsRow_nil w B _ _
theorem Ob.rd (h : Ob w B A n c xs) : Rd w A n c xs := by
  obtain ⟨hl, h2⟩ := h
  rw [bs_length, Nat.mul_one] at hl
  rcases h2 with ⟨e, h0⟩ | ⟨g, cap, cur, e, _, hg, h1, h3, h4, h5⟩
  · cases e
    exact ⟨hl, Nat.le_refl _, by omega, fun _ => rfl, fun i hi => by omega⟩
  · cases e
    unfold maxLen at h3
    refine ⟨hl, h1, by omega, (fun e => by cases e), fun i hi => ⟨g, 0, rfl, ?_⟩⟩
    have e : cur[i]? = (bs xs)[i]? := by
      rw [← h5, Nat.mul_one, List.getElem?_take_of_lt (by omega), Array.getElem?_toList]
    simp only [World.cell?, hg, Nat.zero_add, Option.isSome_none, Bool.false_eq_true, if_false]
    rw [e, bs_get xs i hi]
theorem Ob.below (h : Ob w B A n c xs) (hb : Below w.heap.size w w') : Ob w' B A n c xs :=
  World.ownsRow.kept h ⟨hb.os, hb.tape, hb.output, hb.size, fun k hk _ => hb.block k hk⟩ (by cases (Value.slice A n c).ownBlock <;> simp) (row := none)
theorem Ob.chg {F : Nat → Prop} (h : Ob w B A n c xs) (hb : Chg w w' F) (hF : ∀ k, inA A k → ¬ F k) : Ob w' B A n c xs := by
  have hlt := World.ownsRow.lt h
  obtain ⟨h1, h2⟩ := h
  refine ⟨h1, ?_⟩
  rcases h2 with h2 | ⟨g, cap, cur, e, hg, hh, r⟩
  · exact .inl h2
  · cases e
    refine .inr ⟨g, _, cur, rfl, hg, ?_, r⟩
    rw [hb.block g (hlt g rfl).2 (hF g ⟨_, rfl, rfl⟩), hh]
theorem Ob.drewN (h : Ob w B A n c xs) (k : Nat) : Ob (w.drewN k) B A n c xs := h
theorem Ob.alloc (h : Ob w B A n c xs) (o : Obj) : Ob (w.alloc o) B A n c xs := World.ownsRow.alloc h o
theorem Ob.lt (h : Ob w B A n c xs) {k : Nat} (hk : inA A k) : B ≤ k ∧ k < w.heap.size := World.ownsRow.lt h k (inA_own.2 hk)
theorem Ob.mono (h : Ob w B A n c xs) {B' : Nat} (hB : B' ≤ B) : Ob w B' A n c xs := by
  obtain ⟨h1, h2⟩ := h
  refine ⟨h1, ?_⟩
  rcases h2 with h2 | ⟨g, cap, cur, e, hg, r⟩
  · exact .inl h2
  · exact .inr ⟨g, cap, cur, e, by omega, r⟩
theorem Ob.up (h : Ob w B A n c xs) {B' : Nat} (hB : ∀ k, inA A k → B' ≤ k) : Ob w B' A n c xs := by
  obtain ⟨h1, h2⟩ := h
  refine ⟨h1, ?_⟩
  rcases h2 with h2 | ⟨g, cap, cur, e, hg, r⟩
  · exact .inl h2
  · cases e
    exact .inr ⟨g, _, cur, rfl, hB g ⟨_, rfl, rfl⟩, r⟩
theorem Ob.ofBlk {g : Nat} (h : Blk w g (bs xs).toArray 5) (hg : B ≤ g) (hm : xs.length ≤ maxLen) : Ob w B (some ⟨g, 0, none⟩) xs.length xs.length xs :=
  ⟨by simp [bs], .inr ⟨g, xs.length, _, rfl, hg, h, Nat.le_refl _, hm, by simp [bs], by simp only [Nat.mul_one]; exact List.take_of_length_le (by simp [bs])⟩⟩
end

/-! ## append onto bytes of one's own -/
theorem info5 : (Tryd.prog.info? 5).map (fun i => (i.zero, i.size, i.bytes)) = some (some (.int .u8 0), 1, 1) := by kernel_rfl
theorem size5 : (Tryd.prog.info? 5).map (·.size) = some 1 := by kernel_rfl

theorem wpl_append_b {w : World} {ops : Array Oper} {rest : List Oper} {o : Oper} {a : Act} {Q : Exit → Act → World → Prop} (hgd : o.guard = none) (s x : Operand)
    (ho : o.op = .call { callee := .builtin .append, args := #[s, x], argTypes := #[22, 22] })
    {B : Nat} {A : Option Addr} {n c : Nat} {xs : List UInt8} (hs : a.eval s = .slice A n c) (hown : Ob w B A n c xs)
    {A2 : Option Addr} {n2 c2 : Nat} {ys : List UInt8} (hx : a.eval x = .slice A2 n2 c2) (hr : Rd w A2 n2 c2 ys)
    (hlen : n + n2 ≤ 1000000000000) (hB : B ≤ w.heap.size)
    (h : ∀ A' c' w', Ob w' B A' (n + n2) c' (xs ++ ys) → Chg w w' (inA A) → (∀ k, inA A' k → inA A k ∨ k = w.heap.size) → wpList Tryd.prog ops Q rest (a.put o.dst (.slice A' (n + n2) c')) w') :
    wpList Tryd.prog ops Q (o :: rest) a w := by
  obtain ⟨i0, hi, hz0, hz1, hz2⟩ := info_parts info5
  cases A2 with
  | none =>
    have hc := hr.nil rfl
    subst hc
    have h0 : n2 = 0 := by have := hr.le; omega
    subst h0
    have hy : ys = [] := List.eq_nil_of_length_eq_zero hr.len
    subst hy
    refine wpList_append_own_none hgd s x _ ho B 5 i0 1 Tryd.underlying22 hi _ n (bs xs) hs hown hx ?_
    have := h A c w (by simpa using hown) (Chg.refl _ _) (fun k hk => .inl hk)
    simpa using this
  | some ad =>
    have hl := hr.len
    refine wpList_append_own_at w hgd s x _ ho B 5 i0 (.int .u8 0) 1 1 Tryd.underlying22 hi hz0 hz1 hz2 rfl (by decide) _ n (bs xs) hs hown ad n2 c2 (bs ys) hx (by rw [bs_length]; omega) ?_ (bs_oneCell ys) (by unfold maxLen; omega) (by omega) hB ?_
    · intro j u hu
      rcases Nat.eq_zero_or_pos n2 with h0 | h0
      · have : ys = [] := List.eq_nil_of_length_eq_zero (by omega)
        subst this
        simp [bs] at hu
      · obtain ⟨ad', e, _, hsrc⟩ := hr.src h0
        cases e
        exact hsrc j u hu
    · intro v' w' hown' hg _ hat
      have hsl : ∃ A' c', v' = .slice A' (n + n2) c' := by
        rcases hown'.2 with ⟨rfl, h0⟩ | ⟨g, cap, cur, rfl, _⟩
        · exact ⟨none, 0, by rw [h0]⟩
        · exact ⟨_, cap, rfl⟩
      obtain ⟨A', c', rfl⟩ := hsl
      refine h A' c' w' (by unfold Ob; rw [bs_append]; exact hown') (Chg.grown hg fun k hk => inA_own.1 hk) fun k hk => ?_
      rcases hat with hat | hat
      · left
        rw [← inA_own (n := n) (c := c), ← hat]
        exact inA_own.2 hk
      · right
        rw [inA_own.2 hk] at hat
        exact Option.some.inj hat

/-- 'append(b, x)' of one byte: x lies in a box of its own. -/
theorem wpl_append_1 {W : World} {ops : Array Oper} {rest : List Oper} {o : Oper} {a : Act} {Q : Exit → Act → World → Prop} (hgd : o.guard = none) (s x : Operand)
    (ho : o.op = .call { callee := .builtin .append, args := #[s, x], argTypes := #[22, 22] })
    {B : Nat} {A : Option Addr} {n c : Nat} {xs : List UInt8} (hs : a.eval s = .slice A n c) (hown : Ob W B A n c xs)
    (hx : a.eval x = .slice (some ⟨W.heap.size, 0, none⟩) 1 1) {z : Int} (b : UInt8) (hz : z = (b.toNat : Int))
    (hlen : n + 1 ≤ 1000000000000) (hB : B ≤ W.heap.size)
    (h : ∀ A' c' w', Ob w' B A' (n + 1) c' (xs ++ [b]) → Chg W w' (inA A) → (∀ k, inA A' k → inA A k ∨ W.heap.size ≤ k) → wpList Tryd.prog ops Q rest (a.put o.dst (.slice A' (n + 1) c')) w') :
    wpList Tryd.prog ops Q (o :: rest) a (W.alloc (.cells #[.int .u8 z] 5)) := by
  subst hz
  have hr : Rd (W.alloc (.cells #[.int .u8 (b.toNat : Int)] 5)) (some ⟨W.heap.size, 0, none⟩) 1 1 [b] := Rd.ofBlk (xs := [b]) (Blk.new W _ _) (by simp)
  refine wpl_append_b hgd s x ho hs (hown.alloc _) hx hr hlen (by simp; omega) fun A' c' w' h1 h2 h3 => h A' c' w' h1 ((Chg.ofBelow ((Below.refl _ _).alloc (Nat.le_refl _) _) _).trans' h2) fun k hk => ?_
  rcases h3 k hk with h3 | h3
  · exact .inl h3
  · exact .inr (by simp at h3; omega)

end Go.Proofs.YtbhmnkpbaeemeaaDoor
