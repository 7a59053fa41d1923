/-! The sum, by bits and by half bytes: plain numbers. -/
namespace Go.Proofs.YtbhmnkpbaeemeaaDoor.Crc

def tabN (j : Nat) : Nat := [0, 274646895, 549293790, 820201905, 1098587580, 1361435347, 1640403810, 1905808397, 2197175160, 2460548119, 2722870694, 2987750089, 3280807620, 3553878443, 3811616794, 4084100981].getD j 0

/-- One bit's step. -/
def f (c : Nat) : Nat := c / 2 ^^^ (if c % 2 = 1 then 2197175160 else 0)
/-- The document's step: a bit comes in. -/
def bitStep (x b : Nat) : Nat := if (x % 2 ^^^ b) = 1 then x / 2 ^^^ 2197175160 else x / 2
/-- The program's half step. -/
def nib (c x : Nat) : Nat := tabN ((c ^^^ x) % 16) ^^^ (c / 16)
def sumStep (c : Nat) (x : UInt8) : Nat := nib (nib c x.toNat) (x.toNat / 16)
def raw (c : Nat) (xs : List UInt8) : Nat := xs.foldl sumStep c
def sum (xs : List UInt8) : Nat := 4294967295 ^^^ raw 4294967295 xs

theorem tabN_lt16 : ∀ j, j < 16 → tabN j < 4294967296 := by decide
theorem tabN_lt (j : Nat) : tabN j < 4294967296 := by
  rcases Nat.lt_or_ge j 16 with h | h
  · exact tabN_lt16 j h
  · unfold tabN
    rw [List.getD_eq_getElem?_getD, List.getElem?_eq_none (by simpa using h)]
    decide
theorem nib_lt (c x : Nat) (hc : c < 4294967296) : nib c x < 4294967296 := by
  unfold nib
  exact Nat.xor_lt_two_pow (n := 32) (tabN_lt _) (by omega)
theorem sumStep_lt (c : Nat) (x : UInt8) (hc : c < 4294967296) : sumStep c x < 4294967296 := nib_lt _ _ (nib_lt _ _ hc)
theorem raw_lt (xs : List UInt8) (c : Nat) (hc : c < 4294967296) : raw c xs < 4294967296 := by
  induction xs generalizing c with
  | nil => exact hc
  | cons x xs ih => exact ih _ (sumStep_lt c x hc)
theorem raw_snoc (c : Nat) (xs : List UInt8) (x : UInt8) : raw c (xs ++ [x]) = sumStep (raw c xs) x := by simp [raw]
theorem raw_append (c : Nat) (xs ys : List UInt8) : raw c (xs ++ ys) = raw (raw c xs) ys := by simp [raw]
theorem sum_lt (xs : List UInt8) : sum xs < 4294967296 := Nat.xor_lt_two_pow (n := 32) (by decide) (raw_lt xs _ (by decide))

theorem xor_mod2 (a b : Nat) : (a ^^^ b) % 2 = a % 2 ^^^ b % 2 := Nat.xor_mod_two_pow (n := 1)
theorem xor_mod16 (a b : Nat) : (a ^^^ b) % 16 = a % 16 ^^^ b % 16 := Nat.xor_mod_two_pow (n := 4)
theorem xor_div2 (a b : Nat) : (a ^^^ b) / 2 = a / 2 ^^^ b / 2 := Nat.xor_div_two_pow (n := 1)
theorem xor_div16 (a b : Nat) : (a ^^^ b) / 16 = a / 16 ^^^ b / 16 := Nat.xor_div_two_pow (n := 4)

theorem f_xor (a b : Nat) : f (a ^^^ b) = f a ^^^ f b := by
  unfold f
  rw [xor_div2, xor_mod2]
  have ha : a % 2 = 0 ∨ a % 2 = 1 := by omega
  have hb : b % 2 = 0 ∨ b % 2 = 1 := by omega
  rcases ha with ha | ha <;> rcases hb with hb | hb
  · rw [ha, hb]; simp
  · rw [ha, hb]; simp [Nat.xor_assoc]
  · rw [ha, hb]
    simp only [Nat.xor_zero, if_true, Nat.zero_ne_one, if_false]
    ac_rfl
  · rw [ha, hb]
    simp only [Nat.xor_self, if_true, Nat.zero_ne_one, if_false, Nat.xor_zero]
    rw [show (a / 2 ^^^ 2197175160) ^^^ (b / 2 ^^^ 2197175160) = (a / 2 ^^^ b / 2) ^^^ (2197175160 ^^^ 2197175160) by ac_rfl, Nat.xor_self, Nat.xor_zero]
theorem f_even (m : Nat) : f (2 * m) = m := by
  unfold f
  rw [if_neg (by omega), Nat.xor_zero]
  omega
def f4 (c : Nat) : Nat := f (f (f (f c)))
theorem f4_xor (a b : Nat) : f4 (a ^^^ b) = f4 a ^^^ f4 b := by simp only [f4, f_xor]
theorem f4_16 (m : Nat) : f4 (16 * m) = m := by
  unfold f4
  rw [show 16 * m = 2 * (2 * (2 * (2 * m))) by omega, f_even, f_even, f_even, f_even]
theorem f4_small : ∀ j, j < 16 → f4 j = tabN j := by decide
theorem split16 (c : Nat) : c = 16 * (c / 16) ^^^ c % 16 := by
  have : 16 * (c / 16) ^^^ c % 16 = 16 * (c / 16) ||| c % 16 := by
    apply Nat.eq_of_testBit_eq
    intro i
    rw [Nat.testBit_xor, Nat.testBit_or]
    rw [show 16 * (c / 16) = 2 ^ 4 * (c / 16) from rfl, show c % 16 = c % 2 ^ 4 from rfl, Nat.testBit_two_pow_mul, Nat.testBit_mod_two_pow]
    by_cases h : i < 4
    · simp [h, Nat.not_le.2 h]
    · simp [h]
  rw [this]
  have := Nat.two_pow_add_eq_or_of_lt (i := 4) (b := c % 16) (by omega) (c / 16)
  rw [show (16 : Nat) = 2 ^ 4 from rfl] at *
  rw [← this]
  omega
theorem f4_eq (c : Nat) : f4 c = tabN (c % 16) ^^^ c / 16 := by
  conv => lhs; rw [split16 c]
  rw [f4_xor, f4_16, f4_small _ (by omega), Nat.xor_comm]

theorem nib_eq (c x : Nat) : nib c x = f4 (c ^^^ x % 16) := by
  unfold nib
  rw [f4_eq, xor_mod16, xor_mod16 c (x % 16), xor_div16]
  rw [show x % 16 % 16 = x % 16 by omega, show x % 16 / 16 = 0 by omega, Nat.xor_zero]

theorem bitStep_eq (x b : Nat) (hb : b < 2) : bitStep x b = f (x ^^^ b) := by
  unfold bitStep f
  rw [xor_div2, xor_mod2, show b / 2 = 0 by omega, show b % 2 = b by omega, Nat.xor_zero]
  split
  · rfl
  · rw [Nat.xor_zero]
theorem f_bit (y b : Nat) : f y ^^^ b = f (y ^^^ 2 * b) := by rw [f_xor, f_even]

/-- The first k bits of a byte, one behind the other. -/
def bits (c X : Nat) : Nat → Nat
  | 0 => c
  | k + 1 => bitStep (bits c X k) (X / 2 ^ k % 2)

set_option maxRecDepth 100000 in
theorem low_bits : ∀ x, x < 256 → x % 16 = x / 1 % 2 ^^^ 2 * (x / 2 % 2) ^^^ 4 * (x / 4 % 2) ^^^ 8 * (x / 8 % 2) := by decide
theorem bits4 (c a0 a1 a2 a3 : Nat) (h0 : a0 < 2) (h1 : a1 < 2) (h2 : a2 < 2) (h3 : a3 < 2) :
    bitStep (bitStep (bitStep (bitStep c a0) a1) a2) a3 = f4 (c ^^^ (a0 ^^^ 2 * a1 ^^^ 4 * a2 ^^^ 8 * a3)) := by
  rw [bitStep_eq _ _ h0, bitStep_eq _ _ h1, bitStep_eq _ _ h2, bitStep_eq _ _ h3]
  unfold f4
  rw [f_bit, f_bit, f_bit, f_bit, f_bit, f_bit]
  congr 4
  rw [show 2 * (2 * (2 * a3)) = 8 * a3 by omega, show 2 * (2 * a2) = 4 * a2 by omega]
  ac_rfl
theorem bits8 (c : Nat) (x : UInt8) : bits c x.toNat 8 = sumStep c x := by
  have hx : x.toNat < 256 := x.toNat_lt
  unfold sumStep
  rw [nib_eq, nib_eq, low_bits _ hx, low_bits (x.toNat / 16) (by omega)]
  rw [← bits4 c _ _ _ _ (by omega) (by omega) (by omega) (by omega), ← bits4 _ _ _ _ _ (by omega) (by omega) (by omega) (by omega)]
  simp only [bits, Nat.pow_zero, Nat.reducePow, Nat.div_div_eq_div_mul, Nat.reduceMul]
theorem bits_lt (c X : Nat) (hc : c < 4294967296) (k : Nat) : bits c X k < 4294967296 := by
  induction k with
  | zero => exact hc
  | succ k ih =>
    show bitStep _ _ < _
    unfold bitStep
    split
    · exact Nat.xor_lt_two_pow (n := 32) (by omega) (by decide)
    · omega
end Go.Proofs.YtbhmnkpbaeemeaaDoor.Crc
