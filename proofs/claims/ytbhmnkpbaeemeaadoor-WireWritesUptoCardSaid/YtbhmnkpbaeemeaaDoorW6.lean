import Derived.Test.YtbhmnkpbaeemeaaDoorW5
import Derived.Laws.BitsAllLaws
set_option linter.unusedVariables false
set_option linter.unusedSimpArgs false
namespace Go.Proofs.YtbhmnkpbaeemeaaDoor
open Go.RowKit

theorem WrPost.after {w w1 w2 : World} {p : Nat} {A : Option Addr} {s' : WrS} (hb : Below w.heap.size w w1) (h : WrPost w1 w2 p A s') : WrPost w w2 p A s' := by
  obtain ⟨A', c', h1, h2, h3⟩ := h
  refine ⟨A', c', h1, (Chg.ofBelow hb _).trans' h2, fun k hk => ?_⟩
  rcases h3 k hk with h | h
  · exact .inl h
  · exact .inr (Nat.le_trans hb.size h)

theorem lay_none {w : World} {p : Nat} {A : Option Addr} {c : Nat} {s : WrS} (h : Wr w p A c s) (own : Int) :
    Calls Tryd.prog 65 #[.pointer (some ⟨p, 0, none⟩), .int .i64 own, .slice none 0 0] w fun e w' => e = .returned (.tuple #[]) ∧ WrPost w w' p A (s.lay own []) :=
  lay_any w p A c s h own none [] Parts.none (by simp [flat])

theorem lay_one {w w1 : World} {p : Nat} {A : Option Addr} {c : Nat} {s : WrS} (h : Wr w p A c s) (hb : Below w.heap.size w w1) {A1 : Option Addr} {n1 c1 : Nat} {xs : List UInt8} (hr : Rd w1 A1 n1 c1 xs)
    (hF : 0 < n1 → ∀ k, inA A1 k → ¬ wrF p A k) (hl : xs.length ≤ 1000000000) :
    Calls Tryd.prog 65 #[.pointer (some ⟨p, 0, none⟩), .int .i64 0, .slice (some ⟨w1.heap.size, 0, none⟩) 1 1] (w1.alloc (.cells #[.slice A1 n1 c1] 22)) fun e w' => e = .returned (.tuple #[]) ∧ WrPost w w' p A (s.lay 0 xs) := by
  have hb' : Below w.heap.size w (w1.alloc (.cells #[.slice A1 n1 c1] 22)) := hb.alloc hb.size _
  have hp : Parts (w1.alloc (.cells #[.slice A1 n1 c1] 22)) (wrF p A) (some ⟨w1.heap.size, 0, none⟩) [⟨A1, n1, c1, xs⟩] :=
    Parts.one (Blk.new _ _ _) (fun hk => by have := h.lt hk; have := hb.size; omega) (hr.alloc _) hF
  have := lay_any _ p A c s (h.below hb') 0 _ _ hp (by simpa [flat] using hl)
  refine this.mono fun e w' hq => ⟨hq.1, ?_⟩
  have h2 := hq.2
  rw [show flat [(⟨A1, n1, c1, xs⟩ : Part)] = xs by simp [flat]] at h2
  exact h2.after hb'

theorem lay_two {w w1 : World} {p : Nat} {A : Option Addr} {c : Nat} {s : WrS} (h : Wr w p A c s) (hb : Below w.heap.size w w1) {A1 : Option Addr} {n1 c1 : Nat} {xs : List UInt8} (hr : Rd w1 A1 n1 c1 xs)
    (hF : 0 < n1 → ∀ k, inA A1 k → ¬ wrF p A k) {A2 : Option Addr} {n2 c2 : Nat} {ys : List UInt8} (hr2 : Rd w1 A2 n2 c2 ys)
    (hF2 : 0 < n2 → ∀ k, inA A2 k → ¬ wrF p A k) (hl : xs.length + ys.length ≤ 1000000000) :
    Calls Tryd.prog 65 #[.pointer (some ⟨p, 0, none⟩), .int .i64 0, .slice (some ⟨w1.heap.size, 0, none⟩) 2 2] (w1.alloc (.cells #[.slice A1 n1 c1, .slice A2 n2 c2] 22)) fun e w' => e = .returned (.tuple #[]) ∧ WrPost w w' p A (s.lay 0 (xs ++ ys)) := by
  have hb' : Below w.heap.size w (w1.alloc (.cells #[.slice A1 n1 c1, .slice A2 n2 c2] 22)) := hb.alloc hb.size _
  have hp : Parts (w1.alloc (.cells #[.slice A1 n1 c1, .slice A2 n2 c2] 22)) (wrF p A) (some ⟨w1.heap.size, 0, none⟩) [⟨A1, n1, c1, xs⟩, ⟨A2, n2, c2, ys⟩] :=
    Parts.two (Blk.new _ _ _) (fun hk => by have := h.lt hk; have := hb.size; omega) (hr.alloc _) hF (hr2.alloc _) hF2
  have := lay_any _ p A c s (h.below hb') 0 _ _ hp (by simpa [flat] using hl)
  refine this.mono fun e w' hq => ⟨hq.1, ?_⟩
  have h2 := hq.2
  rw [show flat [(⟨A1, n1, c1, xs⟩ : Part), ⟨A2, n2, c2, ys⟩] = xs ++ ys by simp [flat]] at h2
  exact h2.after hb'

theorem inA_some {b o : Nat} {k : Nat} : inA (some ⟨b, o, none⟩) k ↔ b = k := by
  constructor
  · rintro ⟨a, e, h⟩
    cases e
    exact h
  · rintro rfl
    exact ⟨_, rfl, rfl⟩
theorem Wr.fresh {w : World} {p : Nat} {A : Option Addr} {c : Nat} {s : WrS} (h : Wr w p A c s) {A1 : Option Addr} (hf : ∀ k, inA A1 k → w.heap.size ≤ k) : ∀ k, inA A1 k → ¬ wrF p A k := fun k hk hw => by
  have := h.lt hw
  have := hf k hk
  omega

/-! ### numbers in as few bytes as they need -/
def contB (y : Nat) : UInt8 := UInt8.ofNat (y % 128 + 128)
theorem contB_toNat (y : Nat) : (contB y).toNat = y % 128 + 128 := by
  unfold contB
  rw [UInt8.toNat_ofNat']
  exact Nat.mod_eq_of_lt (by omega)
set_option maxRecDepth 100000 in
theorem or128 : ∀ z, z < 256 → z ||| 128 = z % 128 + 128 := by decide
theorem bits_or128 (y : Nat) : bits .or .u8 ((y : Int) % 256) 128 = ((contB y).toNat : Int) := by
  rw [u8_or _ _ (by omega) (by omega) (by omega) (by omega), contB_toNat, show (128 : Int).toNat = 128 from rfl, or128 _ (by omega)]
  omega
def lastB (y : Nat) : UInt8 := UInt8.ofNat y
theorem lastB_toNat (y : Nat) (h : y < 256) : (lastB y).toNat = y := by
  unfold lastB
  rw [UInt8.toNat_ofNat']
  exact Nat.mod_eq_of_lt (by omega)

def numB (v : Nat) : List UInt8 := if v < 128 then [lastB v] else contB v :: numB (v / 128)
termination_by v

theorem numB_len (v : Nat) (k : Nat) (h : v < 128 ^ k) (hk : 0 < k) : (numB v).length ≤ k := by
  induction k generalizing v with
  | zero => omega
  | succ k ih =>
    rw [numB]
    split
    · simp
    · simp only [List.length_cons]
      have hk0 : 0 < k := by
        rcases Nat.eq_zero_or_pos k with rfl | h0
        · simp at h; omega
        · exact h0
      have := ih (v / 128) (by rw [Nat.pow_succ] at h; exact Nat.div_lt_of_lt_mul (by rw [Nat.mul_comm]; exact h)) hk0
      omega
theorem numB_len64 (v : Nat) (h : v < 18446744073709551616) : (numB v).length ≤ 10 := numB_len v 10 (Nat.lt_trans h (by decide)) (by omega)
theorem numB_ge (v : Nat) (h : 128 ≤ v) : numB v = contB v :: numB (v / 128) := by rw [numB, if_neg (by omega)]
theorem numB_lt (v : Nat) (h : v < 128) : numB v = [lastB v] := by rw [numB, if_pos h]

theorem below_of {w0 w w1 : World} {A : Option Addr} {n c : Nat} {xs : List UInt8} (h : Below w0.heap.size w0 w) (ho : Ob w w0.heap.size A n c xs) (hc : Chg w w1 (inA A)) : Below w0.heap.size w0 w1 :=
  h.trans (hc.below h.size fun i hi hA => by have := (ho.lt hA).1; omega)

set_option maxRecDepth 100000 in
theorem number_any (v : Nat) (w : World) (hv : v < 18446744073709551616) :
    Calls Tryd.prog 136 #[.int .u64 (v : Int)] w fun e w' => ∃ A' c', e = .returned (.slice A' (numB v).length c') ∧ Ob w' w.heap.size A' (numB v).length c' (numB v) ∧ Below w.heap.size w w' := by
  have hlen := numB_len64 v hv
  go_enter Tryd.func136, Tryd.ntmps136
  go_wp2
  go_loopw [0, 3] (fun x b wr => ∃ (y : Nat) (pre : List UInt8) (A : Option Addr) (c n : Nat), y < 18446744073709551616 ∧ x = .int .u64 (y : Int) ∧ b = .slice A n c ∧ Hid (pre.length = n) ∧ Hid (numB v = pre ++ numB y) ∧ Hid (Ob wr w.heap.size A n c pre) ∧ Hid (Below w.heap.size w wr)) (fun x _ _ => (intOf x).toNat)
  case atStart => exact ⟨v, [], none, 0, 0, hv, rfl, rfl, rfl, rfl, Ob.nil _ _, Below.refl _ _⟩
  case round =>
    obtain ⟨y, pre, A, c, n, hy, rfl, rfl, HN, HP, HO, HB⟩ := hrel
    have hpl : n ≤ 10 := by rw [← HN.out]; have := HP.out; rw [this, List.length_append] at hlen; omega
    by_cases hlt : 128 ≤ y
    · have hbit := bits_or128 y
      go_wp2_with (at_builtin; refine wpl_append_1 rfl (.tmp 6) (.tmp 10) rfl rfl HO.out rfl (contB y) rfl (by omega) HB.out.size ?_; intro A2 c2 w2 hown2 hchg2 hin2; have HA := Lib.hid (And.intro hown2 (And.intro hchg2 hin2)); clear hown2 hchg2 hin2)
      go_roundw
      case rel => 
        refine ⟨y / 128, pre ++ [contB y], A2, c2, n + 1, by omega, by go_num, rfl, ?_, ?_, HA.out.1, ?_⟩
        · show _ = _
          rw [List.length_append, HN.out]; rfl
        · show _ = _
          rw [HP.out, numB_ge y hlt, List.append_assoc]; rfl
        · exact below_of HB.out HO.out HA.out.2.1
      case measure => simp [intOf]; omega
    · have hn1 := numB_lt y (by omega)
      have Hn1 := Lib.hid hn1; clear hn1
      have Hlb : Hid ((y : Int) = ((lastB y).toNat : Int)) := by show _ = _; rw [lastB_toNat y (by omega)]
      go_wp2_with (at_builtin; refine wpl_append_1 rfl (.tmp 14) (.tmp 17) rfl rfl HO.out rfl (lastB y) Hlb.out (by omega) HB.out.size ?_; intro A2 c2 w2 hown2 hchg2 hin2; have HA := Lib.hid (And.intro hown2 (And.intro hchg2 hin2)); clear hown2 hchg2 hin2)
      go_ret
      have e1 : pre ++ [lastB y] = numB v := by rw [HP.out, Hn1.out]
      have e2 : n + 1 = (numB v).length := by rw [← e1, List.length_append, HN.out]; rfl
      rw [e1, e2] at HA
      rw [e2]
      exact ⟨A2, c2, rfl, HA.out.1, below_of HB.out HO.out HA.out.2.1⟩
end Go.Proofs.YtbhmnkpbaeemeaaDoor
