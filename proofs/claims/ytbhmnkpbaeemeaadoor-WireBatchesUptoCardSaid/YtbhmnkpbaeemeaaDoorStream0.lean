import Derived.Test.YtbhmnkpbaeemeaaDoorK5
import Derived.Test.YtbhmnkpbaeemeaaDoorOps
set_option linter.unusedVariables false
set_option linter.unusedSimpArgs false
namespace Go.Proofs.YtbhmnkpbaeemeaaDoor
open Go.RowKit

/-! ## One field and its bytes -/
def ascB (l : List UInt8) : Bool := l.all fun x => decide (x.toNat < 128)
def encO (o : OpV) : List UInt8 :=
  if o.kind = 1 then [u8of ((o.num : Int) % 256)]
  else if o.kind = 2 then big2 ((o.num : Int) % 65536)
  else if o.kind = 3 then big4 ((o.num : Int) % 4294967296)
  else if o.kind = 4 then big8 (o.num : Int)
  else if o.kind = 5 then numB o.num
  else if o.kind = 6 then [if o.num % 2 = 1 then 1 else 0]
  else if o.kind = 7 then numB o.int.toNat
  else if o.kind = 8 then numB o.b.length ++ o.b
  else if o.kind = 9 then numB o.s.size ++ o.s.data.toList
  else []
def okO (o : OpV) : Bool :=
  if o.kind = 7 then decide (0 ≤ o.int ∧ o.int ≤ o.most)
  else if o.kind = 8 then decide ((o.b.length : Int) ≤ o.most)
  else if o.kind = 9 then decide ((o.s.size : Int) ≤ o.most) && ascB o.s.data.toList
  else true
def sizeO (o : OpV) : Int := if okO o then ((encO o).length : Int) else -1

theorem groups_len (v : Nat) : v ≥ 128 → (numB v).length = (numB (v / 128)).length + 1 := fun h => by rw [numB_ge v h]; rfl
theorem groups_one (v : Nat) (h : v < 128) : (numB v).length = 1 := by rw [numB_lt v h]; rfl
theorem asc_valid (l : List UInt8) (h : ascB l = true) : Lib.validD l = true := by
  unfold ascB at h
  rw [List.all_eq_true] at h
  rw [Lib.validD_ascii l.length l (fun b hb => by simpa using h b (List.mem_of_mem_take hb)), List.drop_length]
  rfl
theorem u8of_nat' (z : Int) (h0 : 0 ≤ z) (h1 : z < 256) : (u8of z).toNat = z.toNat := by have := u8of_toNat h0 h1; omega
theorem beV_1 (z : Int) (h0 : 0 ≤ z) (h1 : z < 256) : (beV [u8of z] : Int) = z := by
  simp only [beV, List.foldl_cons, List.foldl_nil]
  rw [u8of_nat' z h0 h1]; omega
theorem beV_2 (z : Int) (h0 : 0 ≤ z) (h1 : z < 65536) : (beV (big2 z) : Int) = z := by
  simp only [beV, big2, List.foldl_cons, List.foldl_nil]
  rw [u8of_nat' (z / 256) (by omega) (by omega), u8of_nat' (z % 256) (by omega) (by omega)]; omega
theorem beV_4 (z : Int) (h0 : 0 ≤ z) (h1 : z < 4294967296) : (beV (big4 z) : Int) = z := by
  simp only [beV, big4, List.foldl_cons, List.foldl_nil]
  rw [u8of_nat' (z / 16777216) (by omega) (by omega), u8of_nat' (z / 65536 % 256) (by omega) (by omega), u8of_nat' (z / 256 % 256) (by omega) (by omega), u8of_nat' (z % 256) (by omega) (by omega)]; omega
theorem beV_foldl (l : List UInt8) : ∀ a : Nat, l.foldl (fun v x => v * 256 + x.toNat) a = a * 256 ^ l.length + beV l := by
  induction l with
  | nil => intro a; simp [beV]
  | cons x l ih =>
    intro a
    simp only [List.foldl_cons, List.length_cons, beV]
    rw [ih, ih (0 * 256 + x.toNat), Nat.pow_succ, Nat.add_mul, Nat.zero_mul, Nat.zero_add, Nat.mul_comm (256 ^ l.length), Nat.mul_assoc, Nat.add_assoc]
theorem beV_cons (x : UInt8) (l : List UInt8) : beV (x :: l) = x.toNat * 256 ^ l.length + beV l := by
  show List.foldl _ (0 * 256 + x.toNat) l = _
  rw [beV_foldl, Nat.zero_mul, Nat.zero_add]
theorem beV_bigR (v n : Nat) : beV (bigR v n) = v % 256 ^ n := by
  induction n with
  | zero => simp [bigR, beV, Nat.mod_one]
  | succ n ih =>
    rw [show bigR v (n + 1) = lastB (v / 256 ^ n % 256) :: bigR v n from rfl, beV_cons, ih, bigR_length, lastB_toNat _ (Nat.mod_lt _ (by omega)), Nat.mod_pow_succ, Nat.add_comm, Nat.mul_comm]
theorem big8_eq' (v : Nat) (h : v < 18446744073709551616) : big8 (v : Int) = bigR v 8 := by
  simp only [bigR, big8]
  rw [show (v : Int) / 72057594037927936 = ((v / 256 ^ 7 % 256 : Nat) : Int) by simp; omega, show (v : Int) / 281474976710656 % 256 = ((v / 256 ^ 6 % 256 : Nat) : Int) by simp,
    show (v : Int) / 1099511627776 % 256 = ((v / 256 ^ 5 % 256 : Nat) : Int) by simp, show (v : Int) / 4294967296 % 256 = ((v / 256 ^ 4 % 256 : Nat) : Int) by simp,
    show (v : Int) / 16777216 % 256 = ((v / 256 ^ 3 % 256 : Nat) : Int) by simp, show (v : Int) / 65536 % 256 = ((v / 256 ^ 2 % 256 : Nat) : Int) by simp,
    show (v : Int) / 256 % 256 = ((v / 256 ^ 1 % 256 : Nat) : Int) by simp, show (v : Int) % 256 = ((v / 256 ^ 0 % 256 : Nat) : Int) by simp]
  rfl
theorem beV_8 (v : Nat) (h : v < 18446744073709551616) : beV (big8 (v : Int)) = v := by
  rw [big8_eq' v h, beV_bigR]
  exact Nat.mod_eq_of_lt (by simpa using h)

section
variable {s : RdS} {rest : List UInt8}
theorem sum_of (hs : s.stuck = false) (hle : s.off ≤ s.buf.length) {xs : List UInt8} (n : Nat) (hd : s.buf.drop s.off = xs ++ rest) (hl : xs.length = n) : s.sumV n = beV xs ∧ s.sumS n = s.step n := by
  have h1 : ¬ s.buf.length < s.off + n := by
    have := congrArg List.length hd
    simp at this
    omega
  refine ⟨?_, by simp [RdS.sumS, hs, h1]⟩
  simp only [RdS.sumV, hs, Bool.false_eq_true, if_false, if_neg h1]
  rw [hd, List.take_left' hl]
theorem num_of (hs : s.stuck = false) (v : Nat) (hv : v < 18446744073709551616) (hd : s.buf.drop s.off = numB v ++ rest) : s.pk = (v, (numB v).length, 0) ∧ s.numV = v ∧ s.numS = s.step (numB v).length := by
  have hp : s.pk = (v, (numB v).length, 0) := by
    unfold RdS.pk
    rw [hd, peek_num rest v v 0 0 (Nat.le_refl _) (by simpa using hv) (.inl rfl) (by omega)]
    simp
  exact ⟨hp, by simp [RdS.numV, hs, hp], by simp [RdS.numS, hs, hp]⟩
theorem flag_of (hs : s.stuck = false) (hle : s.off ≤ s.buf.length) (b : Bool) (hd : s.buf.drop s.off = [if b then 1 else 0] ++ rest) : s.flagV = b ∧ s.flagS = s.step 1 := by
  obtain ⟨h1, h2⟩ := sum_of hs hle 1 hd rfl
  have hl : s.off < s.buf.length := by
    have := congrArg List.length hd
    simp at this
    omega
  have hx : s.buf[s.off]'hl = if b then 1 else 0 := by
    have := List.drop_eq_getElem_cons hl
    rw [hd] at this
    exact (List.cons.inj this).1.symm
  have hf : s.flagNo = false := by
    rw [flagNo_iff hl, hx]
    cases b <;> decide
  cases b
  · simp [RdS.flagV, RdS.flagS, hs, hf, h1, h2, beV]
  · simp [RdS.flagV, RdS.flagS, hs, hf, h1, h2, beV]
theorem count_of (hs : s.stuck = false) (v : Nat) (hv : v < 18446744073709551616) (m : Int) (hm : (v : Int) ≤ m) (hd : s.buf.drop s.off = numB v ++ rest) : s.countV m = v ∧ s.countS m = s.step (numB v).length := by
  obtain ⟨hp, _, _⟩ := num_of hs v hv hd
  have hmu : ¬ m < (v : Int) := by omega
  exact ⟨by simp [RdS.countV, RdS.much, hs, hp, hmu], by simp [RdS.countS, RdS.much, hs, hp, hmu]⟩
theorem blob_of (hs : s.stuck = false) (b : List UInt8) (hv : b.length < 18446744073709551616) (m : Int) (hm : (b.length : Int) ≤ m) (hd : s.buf.drop s.off = (numB b.length ++ b) ++ rest) :
    s.blobV m = b ∧ s.blobS m = s.step (numB b.length ++ b).length ∧ s.body = b ∧ s.fits m = true := by
  rw [List.append_assoc] at hd
  obtain ⟨hp, _, _⟩ := num_of hs _ hv hd
  have hmu : ¬ m < (b.length : Int) := by omega
  have hr : s.rest = b ++ rest := by
    unfold RdS.rest
    rw [hp, ← List.drop_drop, hd, List.drop_left]
  have hb : s.body = b := by unfold RdS.body; rw [hr, hp]; exact List.take_left
  have hl : s.lacks = false := by unfold RdS.lacks; rw [hr, hp]; simp
  have hmm : s.much m = false := by unfold RdS.much; rw [hp]; simpa using hmu
  have hf : s.fits m = true := by simp [RdS.fits, hp, hmm, hl]
  exact ⟨by simp [RdS.blobV, hs, hf, hb], by simp [RdS.blobS, hs, hp, hmm, hl], hb, hf⟩
theorem text_of (hs : s.stuck = false) (b : List UInt8) (hv : b.length < 18446744073709551616) (m : Int) (hm : (b.length : Int) ≤ m) (hd : s.buf.drop s.off = (numB b.length ++ b) ++ rest) (ha : Lib.validD b = true) :
    s.textV m = b ∧ s.textS m = s.step (numB b.length ++ b).length := by
  obtain ⟨h1, h2, h3, h4⟩ := blob_of hs b hv m hm hd
  rw [List.append_assoc] at hd
  obtain ⟨hp, _, _⟩ := num_of hs _ hv hd
  have hmm : s.much m = false := by simp [RdS.fits] at h4; exact h4.1.2
  have hl : s.lacks = false := by simp [RdS.fits] at h4; exact h4.2
  exact ⟨by simp [RdS.textV, RdS.textOk, hs, h4, h3, ha], by simp [RdS.textS, hs, hp, hmm, hl, h3, ha]⟩
end
end Go.Proofs.YtbhmnkpbaeemeaaDoor
