import Derived.Test.YtbhmnkpbaeemeaaDoorW20
import Derived.Test.YtbhmnkpbaeemeaaDoorW18
set_option linter.unusedVariables false
set_option linter.unusedSimpArgs false
namespace Go.Proofs.YtbhmnkpbaeemeaaDoor
open Go.RowKit

theorem UnfErr.no {b : List UInt8} {c a : Nat} (h : UnfErr b c a) : ¬ UnfOk b := by
  intro k
  have h1 := k.max
  have h2 := k.min
  have h3 := k.magic
  have h4 := k.version
  have h5 := k.size
  have h6 := k.sum
  cases h <;> first | omega | contradiction
theorem UnfErr.det {b : List UInt8} {c a c' a' : Nat} (h : UnfErr b c a) (k : UnfErr b c' a') : c = c' ∧ a = a' := by
  cases h <;> cases k <;> first | exact ⟨rfl, rfl⟩ | (exfalso; omega) | (exfalso; contradiction)
theorem UnfErr.ne {b : List UInt8} {c a : Nat} (h : UnfErr b c a) : (c : Int) ≠ 0 := by cases h <;> decide
theorem UnfErr.le {b : List UInt8} {c a : Nat} (h : UnfErr b c a) : c ≤ 28 := by cases h <;> decide

/-- What an error of the program's says. -/
def ErrIs (w : World) (err : Value) (code at_ : Int) : Prop :=
  (err = .nilIface ∧ code = 0 ∧ at_ = 0) ∨ (∃ p, err = .iface 129 (.pointer (some ⟨p, 0, none⟩)) ∧ ErrAt w p code at_ ∧ code ≠ 0)
theorem ErrIs.below {w w' : World} {err : Value} {code at_ : Int} (h : ErrIs w err code at_) (hb : Below w.heap.size w w') : ErrIs w' err code at_ := by
  rcases h with h | ⟨p, h1, h2, h3⟩
  · exact .inl h
  · exact .inr ⟨p, h1, Blk.kept h2 hb, h3⟩
theorem told_any (w : World) (err : Value) (code at_ : Int) (h : ErrIs w err code at_) :
    Calls Tryd.prog 19 #[err] w fun e w' => e = .returned (.tuple #[.int .i64 code, .int .i64 at_]) ∧ ∃ q, w' = w.drewN q := by
  rcases h with ⟨rfl, rfl, rfl⟩ | ⟨p, rfl, h2, h3⟩
  · exact (told_nil w).mono fun e w' ⟨h1, h2⟩ => ⟨h1, 0, h2.symm⟩
  · exact told_err w p code at_ h2 h3

theorem wunframe_any (w : World) (A : Option Addr) (n c : Nat) (b : List UInt8) (hx : Rd w A n c b) (hn : n ≤ 1000000000) (hT : Tab w) :
    Calls Tryd.prog 23 #[.slice A n c] w fun e w' => UnfBad w w' e b ∨ UnfGood w w' e b := by
  by_cases hs : 65507 < n ∨ n < 12
  · exact (wunframe_size w A n c b hx hn hs).mono fun e w' h => .inl h
  · exact wunframe_main w A n c b hx (by omega) (by omega) hT
theorem runframe_any (w : World) (A : Option Addr) (n c : Nat) (b : List UInt8) (hx : Rd w A n c b) (hn : n ≤ 1000000000) :
    Calls Tryd.prog 67 #[.slice A n c] w fun e w' => RUnfBad w w' e b ∨ RUnfGood w w' e b := by
  by_cases hs : 65507 < n ∨ n < 12
  · exact (runframe_size w A n c b hx hn hs).mono fun e w' h => .inl h
  · by_cases hk : UnfOk b
    · exact (runframe_good w A n c b hx hk).mono fun e w' h => .inr h
    · exact (runframe_bad w A n c b hx (by omega) (by omega) hk).mono fun e w' h => .inl h

/-- What both Unframes give at the same bytes. -/
def UnfW (w w' : World) (e : Ending) (kv : Nat) (body : List UInt8) (code at_ : Int) : Prop :=
  ∃ A m c err, e = .returned (.tuple #[.int .u8 (kv : Int), .slice A m c, err]) ∧ Ob w' w.heap.size A m c body ∧ ErrIs w' err code at_ ∧ Below w.heap.size w w'
def UnfR (w w' : World) (e : Ending) (kv : Nat) (body : List UInt8) (code at_ : Int) : Prop :=
  ∃ A m c, e = .returned (.tuple #[.int .i64 (kv : Int), .slice A m c, .agg #[.int .i64 code, .int .i64 at_]]) ∧ Ob w' w.heap.size A m c body ∧ Below w.heap.size w w'

theorem unf_both (b : List UInt8) (hb : b.length ≤ 1000000000) : ∃ (kv : Nat) (body : List UInt8) (code at_ : Int), kv < 256 ∧
    (∀ w A c, Rd w A b.length c b → Tab w → Calls Tryd.prog 23 #[.slice A b.length c] w fun e w' => UnfW w w' e kv body code at_) ∧
    (∀ w A c, Rd w A b.length c b → Calls Tryd.prog 67 #[.slice A b.length c] w fun e w' => UnfR w w' e kv body code at_) ∧ (UnfOk b → code = 0 ∧ kv = kd b ∧ body = bodyOf b) ∧ (¬ UnfOk b → code ≠ 0) ∧ body.length ≤ 65507 := by
  by_cases hk : UnfOk b
  · refine ⟨kd b, bodyOf b, 0, 0, kd_lt b, ?_, ?_, fun _ => ⟨rfl, rfl, rfl⟩, fun h => absurd hk h, by have := hk.max; unfold bodyOf; rw [List.length_take]; omega⟩
    · intro w A c hx hT
      refine (wunframe_any w A _ c b hx hb hT).mono ?_
      rintro e w' (⟨code, at_, p, hE, _⟩ | ⟨A', m, _, rfl, ho, hbl⟩)
      · exact absurd hk hE.no
      · exact ⟨A', m, m, .nilIface, rfl, ho, .inl ⟨rfl, rfl, rfl⟩, hbl⟩
    · intro w A c hx
      refine (runframe_any w A _ c b hx hb).mono ?_
      rintro e w' (⟨code, at_, hE, _⟩ | ⟨A', m, c', _, rfl, ho, hbl⟩)
      · exact absurd hk hE.no
      · exact ⟨A', m, c', rfl, ho, hbl⟩
  · obtain ⟨code, at_, hE⟩ : ∃ code at_, UnfErr b code at_ := by
      by_cases h1 : 65507 < b.length
      · exact ⟨_, _, .long h1⟩
      by_cases h2 : b.length < 12
      · exact ⟨_, _, .short h2⟩
      by_cases h3 : hd2 b ≠ 20813
      · exact ⟨_, _, .magic (by omega) (by omega) h3⟩
      replace h3 := Decidable.not_not.1 h3
      by_cases h4 : ver b ≠ 1
      · exact ⟨_, _, .version (by omega) (by omega) h3 h4⟩
      replace h4 := Decidable.not_not.1 h4
      by_cases h5 : b.length < 12 + sz b
      · exact ⟨_, _, .less (by omega) (by omega) h3 h4 h5⟩
      by_cases h6 : 12 + sz b < b.length
      · exact ⟨_, _, .more (by omega) (by omega) h3 h4 h6⟩
      by_cases h7 : sumOk b
      · exact absurd ⟨by omega, by omega, h3, h4, by omega, h7⟩ hk
      · exact ⟨_, _, .sum (by omega) (by omega) h3 h4 (by omega) h7⟩
    refine ⟨0, [], code, at_, by decide, ?_, ?_, fun h => absurd h hk, fun _ => hE.ne, by simp⟩
    · intro w A c hx hT
      refine (wunframe_any w A _ c b hx hb hT).mono ?_
      rintro e w' (⟨code', at', p, hE', rfl, he, hp, hbl⟩ | ⟨A', m, hok, _⟩)
      · obtain ⟨rfl, rfl⟩ := hE.det hE'
        exact ⟨none, 0, 0, _, rfl, Ob.nil _ _, .inr ⟨p, rfl, he, hE.ne⟩, hbl⟩
      · exact absurd hok hk
    · intro w A c hx
      refine (runframe_any w A _ c b hx hb).mono ?_
      rintro e w' (⟨code', at', hE', rfl, hbl⟩ | ⟨A', m, c', hok, _⟩)
      · obtain ⟨rfl, rfl⟩ := hE.det hE'
        exact ⟨none, 0, 0, rfl, Ob.nil _ _, hbl⟩
      · exact absurd hok hk

/-- What both Frames give at the same kind and bytes. -/
def FrmW (w w' : World) (e : Ending) (out : List UInt8) (code at_ : Int) : Prop :=
  ∃ A m c err, e = .returned (.tuple #[.slice A m c, err]) ∧ Ob w' w.heap.size A m c out ∧ ErrIs w' err code at_ ∧ Below w.heap.size w w'
def FrmR (w w' : World) (e : Ending) (out : List UInt8) (code at_ : Int) : Prop :=
  ∃ A m c, e = .returned (.tuple #[.slice A m c, .agg #[.int .i64 code, .int .i64 at_]]) ∧ Ob w' w.heap.size A m c out ∧ Below w.heap.size w w'
theorem frm_both (K : UInt8) (b : List UInt8) (hb : b.length ≤ 1000000000) : ∃ (out : List UInt8) (code at_ : Int),
    (∀ w A c, Rd w A b.length c b → Tab w → Calls Tryd.prog 18 #[.int .u8 (K.toNat : Int), .slice A b.length c] w fun e w' => FrmW w w' e out code at_) ∧
    (∀ w A c, Rd w A b.length c b → Calls Tryd.prog 17 #[.int .i64 (K.toNat : Int), .slice A b.length c] w fun e w' => FrmR w w' e out code at_) ∧ out.length ≤ 65507 ∧ (b.length ≤ 65495 → out = frameL K b ∧ code = 0) := by
  by_cases hl : 65495 < b.length
  · refine ⟨[], 21, 65507, ?_, ?_, by simp, fun h => absurd h (by omega)⟩
    · intro w A c hx hT
      refine (wframe_long w _ A _ c hl).mono ?_
      rintro e w' ⟨p, rfl, he, hp, hbl⟩
      exact ⟨none, 0, 0, _, rfl, Ob.nil _ _, .inr ⟨p, rfl, he, by decide⟩, hbl⟩
    · intro w A c hx
      refine (refFrame_long w _ A _ c hl hb).mono ?_
      rintro e w' ⟨rfl, hbl⟩
      exact ⟨none, 0, 0, rfl, Ob.nil _ _, hbl⟩
  · refine ⟨frameL K b, 0, 0, ?_, ?_, ?_, fun _ => ⟨rfl, rfl⟩⟩
    · intro w A c hx hT
      refine (wframe_good w K A _ c b hx (by omega) hT).mono ?_
      rintro e w' ⟨A', rfl, ho, hbl⟩
      exact ⟨A', _, _, _, rfl, ho, .inl ⟨rfl, rfl, rfl⟩, hbl⟩
    · intro w A c hx
      refine (refFrame_good w K A _ c b hx (by omega)).mono ?_
      rintro e w' ⟨A', c', rfl, ho, hbl⟩
      exact ⟨A', _, c', rfl, ho, hbl⟩
    · rw [frameL, List.length_append, preL_length, show (lowR (Crc.sum (preL K b)) 4).length = 4 by simp [lowR]]
      omega
end Go.Proofs.YtbhmnkpbaeemeaaDoor
