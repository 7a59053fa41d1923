import Derived.Test.YtbhmnkpbaeemeaaDoorW19
import Derived.Laws.OwnMore
set_option linter.unusedVariables false
set_option linter.unusedSimpArgs false
namespace Go.Proofs.YtbhmnkpbaeemeaaDoor
open Go.RowKit

theorem take_succ_eq {xs ys : List UInt8} {k : Nat} (hx : k < xs.length) (hy : k < ys.length) (h : xs.take k = ys.take k) (he : xs[k] = ys[k]) : xs.take (k + 1) = ys.take (k + 1) := by
  rw [List.take_succ_eq_append_getElem hx, List.take_succ_eq_append_getElem hy, h, he]
theorem ret_bool' {a b : Bool} (h : a = b) : Ending.returned (.bool a) = .returned (.bool b) := by rw [h]

theorem sameBytes_any (w : World) (A : Option Addr) (n c : Nat) (xs : List UInt8) (A' : Option Addr) (n' c' : Nat) (ys : List UInt8) (hx : Rd w A n c xs) (hy : Rd w A' n' c' ys) :
    Calls Tryd.prog 20 #[.slice A n c, .slice A' n' c'] w fun e w' => e = .returned (.bool (decide (xs = ys))) ∧ ∃ q, w' = w.drewN q := by
  have e1 := hx.len
  have e2 := hy.len
  subst e1 e2
  have hm := hx.le
  have hm1 := hx.max
  have hm' := hy.le
  have hm1' := hy.max
  have Ha := Lib.hid hx.at_
  have Ha' := Lib.hid hy.at_
  clear hx hy
  by_cases hl : xs.length = ys.length
  · have hlb : ((xs.length : Int) != (ys.length : Int)) = false := by rw [hl]; simp
    have Hl := Lib.hid hl; clear hl
    go_enter Tryd.func20, Tryd.ntmps20
    go_wp2
    go_loopw [5] (fun i wr => ∃ k : Nat, k ≤ xs.length ∧ i = .int .i64 k ∧ xs.take k = ys.take k ∧ ∃ q, wr = w.drewN q) (fun i _ => xs.length - (intOf i).toNat)
    case atStart => exact ⟨0, Nat.zero_le _, rfl, rfl, 0, rfl⟩
    case round =>
      obtain ⟨k, hk, rfl, ht, q, rfl⟩ := hrel
      have HT := Lib.hid ht; clear ht
      by_cases hlt : k < xs.length
      · have hlt' : k < ys.length := by rw [← Hl.out]; exact hlt
        obtain ⟨b, o, rfl, hc⟩ := Ha.out k hlt
        obtain ⟨b', o', rfl, hc'⟩ := Ha'.out k hlt'
        by_cases he : xs[k] = ys[k]
        · have heb : ((xs[k].toNat : Int) != (ys[k].toNat : Int)) = false := by rw [he]; simp
          have HE := Lib.hid he; clear he
          go_wp2
          go_quiet (fail)
          go_wp2
          go_roundw
          case rel => exact ⟨k + 1, by omega, by go_num, take_succ_eq hlt hlt' HT.out HE.out, _, rfl⟩
          case measure => simp [intOf]; omega
        · have heb : ((xs[k].toNat : Int) != (ys[k].toNat : Int)) = true := by
            simp only [bne_iff_ne, ne_eq, Int.natCast_inj]
            exact fun h => he (UInt8.toNat_inj.1 h)
          have HE := Lib.hid he; clear he
          go_wp2
          go_quiet (fail)
          go_wp2
          go_ret
          exact ⟨ret_bool' (by rw [eq_comm, decide_eq_false_iff_not]; intro h; subst h; exact HE.out rfl), _, World.drewN_drewN _ _ _⟩
      · go_wp2
        go_ret
        have e1 : xs.take k = xs := List.take_of_length_le (by omega)
        have e2 : ys.take k = ys := List.take_of_length_le (by have := Hl.out; omega)
        have e3 : xs = ys := by rw [← e1, ← e2]; exact HT.out
        exact ⟨ret_bool' (by rw [eq_comm]; simpa using e3), _, rfl⟩
  · have hlb : ((xs.length : Int) != (ys.length : Int)) = true := by simpa using (by omega : ¬ (xs.length : Int) = ys.length)
    have Hl := Lib.hid hl; clear hl
    go_enter Tryd.func20, Tryd.ntmps20
    go_wp2
    go_ret
    exact ⟨ret_bool' (by rw [eq_comm, decide_eq_false_iff_not]; intro h; subst h; exact Hl.out rfl), 0, rfl⟩

theorem bs_set (xs : List UInt8) (k : Nat) (v : UInt8) : (bs xs).set k (.int .u8 (v.toNat : Int)) = bs (xs.set k v) := by
  simp [bs, List.map_set]
theorem Ob.put {w : World} {B g n c : Nat} {xs : List UInt8} (h : Ob w B (some ⟨g, 0, none⟩) n c xs) (k : Nat) (v : UInt8) (z : Int) (hz : z = (v.toNat : Int)) :
    Ob (w.setCell ⟨g, k, none⟩ (.int .u8 z)) B (some ⟨g, 0, none⟩) n c (xs.set k v) := by
  subst hz
  have h2 := World.ownsRow.stored h k (.int .u8 (v.toNat : Int))
  unfold Ob
  rw [← bs_set]
  exact h2.1
theorem Ob.frz {w : World} {B g n c : Nat} {xs : List UInt8} (h : Ob w B (some ⟨g, 0, none⟩) n c xs) (k : Nat) : w.frozen? ⟨g, k, none⟩ = false :=
  World.ownsRow.frozenAt h k
theorem Ob.cellX {w : World} {B g n c : Nat} {xs : List UInt8} (h : Ob w B (some ⟨g, 0, none⟩) n c xs) (k : Nat) (hk : k < n) : ∃ z, w.cell? ⟨g, k, none⟩ = some (.int .u8 z) := by
  obtain ⟨b, o, e, hc⟩ := h.rd.at_ k (by have := h.rd.len; omega)
  simp only [Option.some.injEq, Addr.mk.injEq, and_true] at e
  obtain ⟨rfl, rfl⟩ := e
  rw [Nat.zero_add] at hc
  exact ⟨_, hc⟩
theorem xor8 (x K : Nat) (hx : x < 256) (hK : K < 256) : ∃ v : UInt8, bits .xor .u8 (x : Int) (K : Int) = (v.toNat : Int) := by
  refine ⟨UInt8.ofNat (x ^^^ K), ?_⟩
  have : x ^^^ K < 256 := Nat.xor_lt_two_pow (n := 8) hx hK
  rw [u8_xor_nat _ _ hx hK, UInt8.toNat_ofNat', Nat.mod_eq_of_lt this]
theorem or1 (K : Nat) (hK : K < 256) : ∃ q : Nat, q < 256 ∧ bits .or .u8 (K : Int) 1 = (q : Int) := 
  ⟨K ||| 1, Nat.or_lt_two_pow (n := 8) hK (by decide), u8_or_nat K 1 hK (by decide)⟩

theorem spoil_any (w : World) (B : Nat) (A : Option Addr) (n c : Nat) (xs : List UInt8) (h : Ob w B A n c xs) (hn : n ≤ 999999000) (hB : B ≤ w.heap.size) (K : Nat) (hK : K ≤ 200) :
    Calls Tryd.prog 21 #[.slice A n c, .int .u8 (K : Int)] w fun e w' => e = .returned (.tuple #[]) ∧ Chg w w' (inA A) := by
  have HO := Lib.hid h
  have hcap := h.rd.le
  have hmax := h.rd.max
  obtain ⟨q, hq, hqe⟩ := or1 K (by omega)
  have hk1 : ((K : Int) + 1) % 256 = (K : Int) + 1 := by omega
  have hk2 : ((K : Int) + 2) % 256 = (K : Int) + 2 := by omega
  clear h
  go_enter Tryd.func21, Tryd.ntmps21
  go_wp2
  go_loopw [4] (fun i wr => ∃ (k : Nat) (zs : List UInt8), k ≤ n ∧ i = .int .i64 k ∧ Hid (Ob wr B A n c zs) ∧ Hid (Chg w wr (inA A))) (fun i _ => n - (intOf i).toNat)
  case atStart => exact ⟨0, xs, Nat.zero_le _, rfl, HO, Chg.refl _ _⟩
  case round =>
    obtain ⟨k, zs, hk, rfl, HO, HC⟩ := hrel
    by_cases hlt : k < n
    · obtain ⟨g, rfl, hg⟩ := HO.out.form (by omega)
      have hlz := HO.out.rd.len
      obtain ⟨b, o, e, hc⟩ := HO.out.rd.at_ k (by omega)
      simp only [Option.some.injEq, Addr.mk.injEq, and_true] at e
      obtain ⟨rfl, rfl⟩ := e
      rw [Nat.zero_add] at hc
      have hf := HO.out.frz k
      have hx8 : (zs[k]'(by omega)).toNat < 256 := UInt8.toNat_lt _
      generalize (zs[k]'(by omega)).toNat = X at hc hx8
      obtain ⟨v, hv⟩ := xor8 X q hx8 hq
      go_wp2
      go_roundw
      case rel => 
        refine ⟨k + 1, zs.set k v, by omega, by go_num, ?_, ?_⟩
        · exact HO.out.put k v _ rfl
        · exact Chg.set (a := ⟨g, k, none⟩) HC.out (fun _ => ⟨_, rfl, rfl⟩) _
      case measure => simp [intOf]; omega
    · have hlz := HO.out.rd.len
      have HB : Hid (B ≤ (wr.alloc (.cells #[.int .u8 (K : Int), .int .u8 ((K : Int) + 1), .int .u8 ((K : Int) + 2)] 5)).heap.size) := by
        have := HC.out.size
        simp
        show B ≤ _
        omega
      have HR : Hid (Rd (wr.alloc (.cells #[.int .u8 (K : Int), .int .u8 ((K : Int) + 1), .int .u8 ((K : Int) + 2)] 5)) (some ⟨wr.heap.size, 0, none⟩) 3 3 [u8of K, u8of (K + 1), u8of (K + 2)]) := by
        have := Rd.ofBlk (xs := [u8of K, u8of (K + 1), u8of (K + 2)]) (w := wr.alloc (.cells #[.int .u8 (K : Int), .int .u8 ((K : Int) + 1), .int .u8 ((K : Int) + 2)] 5)) (g := wr.heap.size) (by
          have h0 := Blk.new wr #[.int .u8 (K : Int), .int .u8 ((K : Int) + 1), .int .u8 ((K : Int) + 2)] 5
          simp only [bs, List.map_cons, List.map_nil]
          rw [u8of_toNat (by omega) (by omega), u8of_toNat (by omega) (by omega), u8of_toNat (by omega) (by omega)]
          exact h0) (by simp)
        exact this
      have HOA := Lib.hid (HO.out.alloc (.cells #[.int .u8 (K : Int), .int .u8 ((K : Int) + 1), .int .u8 ((K : Int) + 2)] 5))
      go_wp2_with (at_builtin; refine wpl_append_b rfl (.tmp 21) (.tmp 27) rfl rfl HOA.out rfl HR.out (by omega) HB.out ?_; intro A2 c2 w2 hown2 hchg2 hin2; obtain ⟨g2, rfl, hg2⟩ := hown2.form (by omega); have hf2 := hown2.frz (n + 2); obtain ⟨z2, hz2⟩ := hown2.cellX (n + 2) (by omega); have hle2 := hown2.rd.le; have hb2 : g2 < w2.heap.size := (hown2.lt ⟨_, rfl, rfl⟩).2; have HA := Lib.hid (And.intro hown2 (And.intro hchg2 hin2)); clear hown2 hchg2 hin2)
      go_returns
      refine ⟨rfl, ?_⟩
      refine Chg.set (a := ⟨g2, n + 2, none⟩) ((HC.out.alloc _).trans' HA.out.2.1) (fun hlt' => ?_) _
      rcases HA.out.2.2 g2 ⟨_, rfl, rfl⟩ with h | h
      · exact h
      · have h' : g2 < w.heap.size := hlt'
        have := HC.out.size
        simp at h
        omega

/-- One bit turned over. -/
def flipB (xs : List UInt8) (k : Nat) : List UInt8 := xs.set (k / 8) (UInt8.ofNat ((xs.getD (k / 8) 0).toNat ^^^ 2 ^ (k % 8)))
theorem flipB_length (xs : List UInt8) (k : Nat) : (flipB xs k).length = xs.length := by simp [flipB]
theorem pow8 (j : Nat) (h : j < 8) : 2 ^ j < 256 := Nat.pow_lt_pow_right (by decide) h (n := 8)

theorem flip_any (w : World) (B : Nat) (A : Option Addr) (n c : Nat) (xs : List UInt8) (h : Ob w B A n c xs) (k : Nat) (hk : k < 8 * n) (hn : n ≤ 999999000) :
    Calls Tryd.prog 24 #[.slice A n c, .int .i64 (k : Int)] w fun e w' => e = .returned (.tuple #[]) ∧ Ob w' B A n c (flipB xs k) ∧ Chg w w' (inA A) := by
  have HO := Lib.hid h
  obtain ⟨g, rfl, hg⟩ := h.form (by omega)
  have hlz := h.rd.len
  obtain ⟨b, o, e, hc⟩ := h.rd.at_ (k / 8) (by omega)
  simp only [Option.some.injEq, Addr.mk.injEq, and_true] at e
  obtain ⟨rfl, rfl⟩ := e
  rw [Nat.zero_add] at hc
  have hf := h.frz (k / 8)
  have hle := h.rd.le
  clear h
  have hx8 : (xs[k / 8]'(by omega)).toNat < 256 := UInt8.toNat_lt _
  have hX : Hid ((xs.getD (k / 8) 0).toNat = (xs[k / 8]'(by omega)).toNat) := by
    rw [List.getD_eq_getElem?_getD, List.getElem?_eq_getElem (by omega)]
    exact rfl
  generalize (xs[k / 8]'(by omega)).toNat = X at hc hx8 hX
  have hp := pow8 (k % 8) (by omega)
  have hxor : bits .xor .u8 (X : Int) ((2 ^ (k % 8) : Nat) : Int) = ((X ^^^ 2 ^ (k % 8) : Nat) : Int) := u8_xor_nat _ _ hx8 hp
  have hj : k / 8 < n := by omega
  obtain ⟨j, hjd⟩ : ∃ j, j = k / 8 := ⟨_, rfl⟩
  obtain ⟨r, hrd⟩ : ∃ r, r = k % 8 := ⟨_, rfl⟩
  have hr8 : r < 8 := by omega
  have hq : ((k : Int)).tdiv 8 = (j : Int) := by rw [Int.tdiv_eq_ediv_of_nonneg (by omega)]; omega
  have hm : ((k : Int)).tmod 8 = (r : Int) := by rw [Int.tmod_eq_emod_of_nonneg (by omega)]; omega
  rw [← hjd] at hc hf hX hj
  rw [← hrd] at hxor hp
  have HJ := Lib.hid hjd
  have HR := Lib.hid hrd
  clear hjd hrd hk
  go_enter Tryd.func24, Tryd.ntmps24
  go_wp2
  go_returns
  have hpI : ((2 : Int) ^ r % 256) = ((2 ^ r : Nat) : Int) := by
    rw [show (2 : Int) ^ r = ((2 ^ r : Nat) : Int) from (Int.natCast_pow 2 r).symm]
    exact Int.emod_eq_of_lt (Int.natCast_nonneg _) (Int.ofNat_lt.2 hp)
  rw [hpI, hxor]
  have hl : X ^^^ 2 ^ r < 256 := Nat.xor_lt_two_pow (n := 8) hx8 hp
  refine ⟨rfl, ?_, Chg.set (a := ⟨g, j, none⟩) (Chg.refl _ _) (fun _ => ⟨_, rfl, rfl⟩) _⟩
  unfold flipB
  rw [← HJ.out, ← HR.out, hX.out]
  exact HO.out.put j _ _ (by rw [UInt8.toNat_ofNat', Nat.mod_eq_of_lt hl])
end Go.Proofs.YtbhmnkpbaeemeaaDoor
