import Derived.Test.YtbhmnkpbaeemeaaDoorW20
import Derived.Test.YtbhmnkpbaeemeaaDoorW15
set_option linter.unusedVariables false
set_option linter.unusedSimpArgs false
namespace Go.Proofs.YtbhmnkpbaeemeaaDoor
namespace Crc

/-- Whether the first n bits of a number are odd in number. -/
def par : Nat → Nat → Bool
  | 0, _ => false
  | n + 1, x => (x % 2 == 1) ^^ par n (x / 2)

theorem par_zero (n : Nat) : par n 0 = false := by
  induction n with
  | zero => rfl
  | succ n ih => simp [par, ih]
theorem par_xor (n a b : Nat) : par n (a ^^^ b) = (par n a ^^ par n b) := by
  induction n generalizing a b with
  | zero => rfl
  | succ n ih =>
    simp only [par]
    rw [xor_mod2, xor_div2, ih]
    have ha : a % 2 = 0 ∨ a % 2 = 1 := by omega
    have hb : b % 2 = 0 ∨ b % 2 = 1 := by omega
    rcases ha with ha | ha <;> rcases hb with hb | hb <;> rw [ha, hb] <;> cases par n (a / 2) <;> cases par n (b / 2) <;> rfl
theorem par_more (n x : Nat) (h : x < 2 ^ n) : par (n + 1) x = par n x := by
  induction n generalizing x with
  | zero =>
    have : x = 0 := by simpa using h
    subst this
    rfl
  | succ n ih =>
    show ((x % 2 == 1) ^^ par (n + 1) (x / 2)) = ((x % 2 == 1) ^^ par n (x / 2))
    rw [ih (x / 2) (by rw [Nat.pow_succ] at h; omega)]
theorem par_split (m n x : Nat) : par (m + n) x = (par m x ^^ par n (x / 2 ^ m)) := by
  induction m generalizing x with
  | zero => simp [par]
  | succ m ih =>
    rw [show m + 1 + n = (m + n) + 1 by omega]
    simp only [par]
    rw [ih, Nat.div_div_eq_div_mul, ← Nat.pow_succ', Bool.xor_assoc]
theorem par_mod (n x : Nat) : par n (x % 2 ^ n) = par n x := by
  induction n generalizing x with
  | zero => rfl
  | succ n ih =>
    simp only [par]
    have h1 : x % 2 ^ (n + 1) % 2 = x % 2 := by
      rw [Nat.pow_succ, Nat.mul_comm]
      exact Nat.mod_mul_right_mod x 2 (2 ^ n)
    have h2 : x % 2 ^ (n + 1) / 2 = x / 2 % 2 ^ n := by
      rw [Nat.pow_succ, Nat.mul_comm]
      exact Nat.mod_mul_right_div_self x 2 (2 ^ n)
    rw [h1, h2, ih]
theorem par_f (c : Nat) (h : c < 4294967296) : par 32 (f c) = par 32 c := by
  unfold f
  rw [par_xor, par_more 31 (c / 2) (by omega)]
  show _ = ((c % 2 == 1) ^^ par 31 (c / 2))
  by_cases hc : c % 2 = 1
  · rw [if_pos hc, hc, show par 32 2197175160 = true by decide, Bool.xor_comm]
    rfl
  · rw [if_neg hc, par_zero, show (c % 2 == 1) = false by simpa using hc]
    simp
def pk (X : Nat) : Nat → Bool
  | 0 => false
  | k + 1 => pk X k ^^ (X / 2 ^ k % 2 == 1)
theorem par_bit (b : Nat) (h : b < 2) : par 32 b = (b == 1) := by
  have : b = 0 ∨ b = 1 := by omega
  rcases this with rfl | rfl <;> decide
theorem par_bits (c X : Nat) (hc : c < 4294967296) (k : Nat) : par 32 (bits c X k) = (par 32 c ^^ pk X k) := by
  induction k with
  | zero => simp [bits, pk]
  | succ k ih =>
    have hl := bits_lt c X hc k
    show par 32 (bitStep _ _) = (_ ^^ (pk X k ^^ _))
    rw [bitStep_eq _ _ (by omega), par_f _ (Nat.xor_lt_two_pow (n := 32) hl (by omega)), par_xor, par_bit (X / 2 ^ k % 2) (by omega), ih, Bool.xor_assoc]
set_option maxRecDepth 100000 in
theorem pk8 : ∀ X, X < 256 → pk X 8 = par 8 X := by decide
theorem par_sumStep (c : Nat) (x : UInt8) (hc : c < 4294967296) : par 32 (sumStep c x) = (par 32 c ^^ par 8 x.toNat) := by
  rw [← bits8, par_bits _ _ hc, pk8 _ x.toNat_lt]
/-- Whether the bits of these bytes are odd in number. -/
def parL : List UInt8 → Bool
  | [] => false
  | x :: xs => par 8 x.toNat ^^ parL xs
theorem parL_append (xs ys : List UInt8) : parL (xs ++ ys) = (parL xs ^^ parL ys) := by
  induction xs with
  | nil => simp [parL]
  | cons x xs ih => simp only [List.cons_append, parL, ih, Bool.xor_assoc]
theorem par_raw (xs : List UInt8) (c : Nat) (hc : c < 4294967296) : par 32 (raw c xs) = (par 32 c ^^ parL xs) := by
  induction xs generalizing c with
  | nil => simp [raw, parL]
  | cons x xs ih =>
    show par 32 (raw (sumStep c x) xs) = _
    rw [ih _ (sumStep_lt c x hc), par_sumStep _ _ hc, parL, Bool.xor_assoc]
theorem par_sum (xs : List UInt8) : par 32 (sum xs) = parL xs := by
  unfold sum
  rw [par_xor, par_raw _ _ (by decide), show par 32 4294967295 = false by decide]
  simp
end Crc
open Crc

theorem lastB_toNat' (z : Nat) : (lastB z).toNat = z % 256 := by
  unfold lastB
  rw [UInt8.toNat_ofNat']
theorem par_lowR (s : Nat) (h : s < 4294967296) : parL (lowR s 4) = par 32 s := by
  have e : lowR s 4 = [lastB (s / 256 ^ 0 % 256), lastB (s / 256 ^ 1 % 256), lastB (s / 256 ^ 2 % 256), lastB (s / 256 ^ 3 % 256)] := by
    simp only [lowR, List.range_succ, List.range_zero, List.nil_append, List.map_append, List.map_cons, List.map_nil, List.append_assoc, List.cons_append]
  rw [e]
  simp only [parL, lastB_toNat', Nat.mod_mod]
  have m : ∀ x, par 8 (x % 256) = par 8 x := fun x => par_mod 8 x
  rw [m, m, m, m, par_split 8 24 s, par_split 8 16 (s / 2 ^ 8), par_split 8 8 (s / 2 ^ 8 / 2 ^ 8)]
  simp only [Nat.div_div_eq_div_mul, Nat.reducePow, Nat.reduceMul, Nat.div_one, Bool.xor_false]

theorem even_of_ok (b : List UInt8) (h : UnfOk b) : parL b = false := by
  have hs := h.sum
  have hz := h.size
  unfold sumOk at hs
  have e : b = b.take (8 + sz b) ++ (b.drop (8 + sz b)).take 4 := by
    rw [List.take_of_length_le (l := b.drop (8 + sz b)) (by rw [List.length_drop]; omega), List.take_append_drop]
  rw [e, parL_append, hs, par_lowR _ (sum_lt _), par_sum]
  simp
theorem parL_set (xs : List UInt8) (j : Nat) (hj : j < xs.length) (v : UInt8) : parL (xs.set j v) = (parL xs ^^ (par 8 (xs[j]).toNat ^^ par 8 v.toNat)) := by
  induction xs generalizing j with
  | nil => simp at hj
  | cons x xs ih =>
    cases j with
    | zero =>
      simp only [List.set_cons_zero, parL, List.getElem_cons_zero]
      cases par 8 x.toNat <;> cases par 8 v.toNat <;> cases parL xs <;> rfl
    | succ j =>
      simp only [List.set_cons_succ, parL, List.getElem_cons_succ]
      rw [ih j (by simpa using hj), Bool.xor_assoc]
theorem par_pow : ∀ r, r < 8 → par 8 (2 ^ r) = true := by decide
theorem parL_flip (xs : List UInt8) (k : Nat) (hk : k < 8 * xs.length) : parL (flipB xs k) = !parL xs := by
  have hj : k / 8 < xs.length := by omega
  have hl : xs[k / 8].toNat ^^^ 2 ^ (k % 8) < 256 := Nat.xor_lt_two_pow (n := 8) (xs[k / 8]).toNat_lt (pow8 (k % 8) (by omega))
  unfold flipB
  rw [parL_set _ _ hj, show xs.getD (k / 8) 0 = xs[k / 8] by rw [List.getD_eq_getElem?_getD, List.getElem?_eq_getElem hj]; rfl]
  rw [UInt8.toNat_ofNat', Nat.mod_eq_of_lt hl, par_xor, par_pow _ (by omega)]
  cases par 8 (xs[k / 8]).toNat <;> cases parL xs <;> rfl
theorem odd_bad (b b' : List UInt8) (n : Nat) (h : parL b = false) (hp : parL b' = (parL b ^^ (n % 2 == 1))) (hn : n % 2 = 1) : ¬ UnfOk b' := by
  intro k
  rw [even_of_ok b' k, h, hn] at hp
  simp at hp
end Go.Proofs.YtbhmnkpbaeemeaaDoor
