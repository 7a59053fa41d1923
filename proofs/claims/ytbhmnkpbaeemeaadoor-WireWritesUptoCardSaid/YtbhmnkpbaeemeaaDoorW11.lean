import Derived.Test.YtbhmnkpbaeemeaaDoorW10
set_option linter.unusedVariables false
set_option linter.unusedSimpArgs false
namespace Go.Proofs.YtbhmnkpbaeemeaaDoor
open Go.RowKit

theorem told_nil (w : World) : Calls Tryd.prog 19 #[.nilIface] w fun e w' => e = .returned (.tuple #[.int .i64 0, .int .i64 0]) ∧ w = w' := by
  go_enter Tryd.func19, Tryd.ntmps19
  go_wp2
  go_ret2
  exact ⟨rfl, rfl⟩

set_option maxRecDepth 100000 in
theorem told_err (w : World) (b : Nat) (code at_ : Int) (h : ErrAt w b code at_) (hc : code ≠ 0) :
    Calls Tryd.prog 19 #[.iface 129 (.pointer (some ⟨b, 0, none⟩))] w fun e w' => e = .returned (.tuple #[.int .i64 code, .int .i64 at_]) ∧ ∃ q, w' = w.drewN q := by
  have c0 : w.cell? ⟨b, 0, none⟩ = some (.string wireS) := Blk.cell h 0
  have c1 : w.cell? ⟨b, 1, none⟩ = some (.int .i64 at_) := Blk.cell h 1
  have c2 : w.cell? ⟨b, 2, none⟩ = some (.iface 60 (.int .i64 code)) := Blk.cell h 2
  have hcb : (code == 0) = false := by simpa using hc
  unfold wireS at c0
  clear h hc
  have ta1 : ∀ w : World, (Instr.typeAssert (.iface 129 (.pointer (some ⟨b, 0, none⟩))) 33 129 true).run Tryd.prog w = .ok (.tuple #[.pointer (some ⟨b, 0, none⟩), .bool true]) w := fun _ => by kernel_rfl
  have ta2 : ∀ w : World, (Instr.typeAssert (.iface 60 (.int .i64 code)) 33 60 true).run Tryd.prog w = .ok (.tuple #[.int .i64 code, .bool true]) w := fun _ => by kernel_rfl
  go_enter Tryd.func19, Tryd.ntmps19
  go_wp2
  go_quiet (fail)
  go_wp2
  go_ret2
  exact ⟨rfl, _, rfl⟩

/-! ### The document's datagram -/
def lowR (s n : Nat) : List UInt8 := (List.range n).map fun i => lastB (s / 256 ^ i % 256)
theorem lowR_succ (s n : Nat) : lowR s (n + 1) = lowR s n ++ [lastB (s / 256 ^ n % 256)] := by simp [lowR, List.range_succ]
theorem u8of_nat (z : Nat) : u8of (z : Int) = lastB z := rfl
theorem low4_eq (s : Nat) (h : s < 4294967296) : low4 (s : Int) = lowR s 4 := by
  simp only [lowR_succ]
  simp only [lowR, List.range_zero, List.map_nil, List.nil_append, List.cons_append, low4]
  have h1 : ((s : Int) % 256) = ((s / 256 ^ 0 % 256 : Nat) : Int) := by simp
  have h2 : ((s : Int) / 256 % 256) = ((s / 256 ^ 1 % 256 : Nat) : Int) := by simp
  have h3 : ((s : Int) / 65536 % 256) = ((s / 256 ^ 2 % 256 : Nat) : Int) := by simp
  have h4 : ((s : Int) / 16777216) = ((s / 256 ^ 3 % 256 : Nat) : Int) := by simp; omega
  rw [h1, h2, h3, h4]
  simp only [u8of_nat]

def preL (kind : UInt8) (body : List UInt8) : List UInt8 := [81, 77, 1, kind] ++ bigR body.length 4 ++ body
def frameL (kind : UInt8) (body : List UInt8) : List UInt8 := preL kind body ++ lowR (Crc.sum (preL kind body)) 4
theorem preL_length (kind : UInt8) (body : List UInt8) : (preL kind body).length = 8 + body.length := by simp [preL, bigR_length]; omega

set_option maxRecDepth 100000 in
theorem refFrame_long (w : World) (K : Int) (A : Option Addr) (n c : Nat) (hn : 65495 < n) (hm : n ≤ 1000000000) :
    Calls Tryd.prog 17 #[.int .i64 K, .slice A n c] w fun e w' => e = .returned (.tuple #[.slice none 0 0, .agg #[.int .i64 21, .int .i64 65507]]) ∧ Below w.heap.size w w' := by
  have hb : decide ((65507 : Int) < (n : Int) + 12) = true := by simp; omega
  clear hn
  go_enter Tryd.func17, Tryd.ntmps17
  go_wp2
  go_returns
  exact ⟨rfl, by go_grown⟩

theorem Join_l (w : World) (A : Option Addr) (n c : Nat) (xs : List UInt8) (hx : Rd w A n c xs) (A1 : Option Addr) (m c1 : Nat) (ys : List UInt8) (hy : Rd w A1 m c1 ys) (l : Nat) (hl : n + m = l) (hn : l ≤ 1000000000) :
    Calls Tryd.prog 59 #[.slice A n c, .slice A1 m c1] w fun e w' => ∃ A' c', e = .returned (.slice A' l c') ∧ Ob w' w.heap.size A' l c' (xs ++ ys) ∧ Below w.heap.size w w' := by
  subst hl
  exact Join_any w A n c xs hx A1 m c1 ys hy hn

theorem Big4 (w : World) (v : Nat) (hv : v < 18446744073709551616) :
    Calls Tryd.prog 60 #[.int .u64 (v : Int), .int .i64 4] w fun e w' => ∃ A' c', e = .returned (.slice A' 4 c') ∧ Ob w' w.heap.size A' 4 c' (bigR v 4) ∧ Below w.heap.size w w' := Big_any w v 4 hv (by omega)

set_option maxRecDepth 100000 in
set_option maxHeartbeats 400000 in
theorem refFrame_good (w : World) (K : UInt8) (A : Option Addr) (n c : Nat) (xs : List UInt8) (hx : Rd w A n c xs) (hn : n ≤ 65495) :
    Calls Tryd.prog 17 #[.int .i64 (K.toNat : Int), .slice A n c] w fun e w' => ∃ A' c', e = .returned (.tuple #[.slice A' (n + 12) c', .agg #[.int .i64 0, .int .i64 0]]) ∧ Ob w' w.heap.size A' (n + 12) c' (frameL K xs) ∧ Below w.heap.size w w' := by
  have hK : K.toNat < 256 := K.toNat_lt
  have hl := hx.len
  subst hl
  have HS := Lib.hid (Crc.sum_lt (preL K xs))
  generalize hsm : Crc.sum (preL K xs) = S at HS


  have Hsm := Lib.hid hsm; clear hsm
  have hb : decide ((65507 : Int) < (xs.length : Int) + 12) = false := by simp; omega
  have hm : xs.length ≤ 1000000000 := by omega
  have Hn := Lib.hid hn; clear hn
  go_enter Tryd.func17, Tryd.ntmps17
  go_wp2_with fail
  obtain ⟨wA, hwA⟩ : ∃ wA : World, wA = (w.alloc (Obj.cells #[Value.int IntKind.i64 0, Value.int IntKind.i64 0] 29)).alloc (Obj.cells #[Value.int IntKind.u8 81, Value.int IntKind.u8 77, Value.int IntKind.u8 1, Value.int IntKind.u8 ↑K.toNat] 5) := ⟨_, rfl⟩
  rw [← hwA]
  have bN : Blk wA w.heap.size #[.int .i64 0, .int .i64 0] 29 := by rw [hwA]; exact (Blk.new _ _ _).alloc _
  have bH : Blk wA (w.heap.size + 1) (bs [81, 77, 1, K]).toArray 5 := by
    rw [hwA]
    have := Blk.new (w.alloc (Obj.cells #[Value.int IntKind.i64 0, Value.int IntKind.i64 0] 29)) (bs [81, 77, 1, K]).toArray 5
    rw [World.size_alloc] at this
    exact this
  have hbA : Below w.heap.size w wA := by rw [hwA]; go_grown
  have hxA := hx.below hbA
  clear hwA
  refine (Big4 wA xs.length (by omega)).mono ?_
  rintro e w1 ⟨A1, c1, rfl, o1, b1⟩
  have hb1 := below_then hbA b1
  go_wp2_with fail
  refine (Join_l w1 _ 4 4 [81, 77, 1, K] ((Rd.ofBlk bH (by simp)).below b1) A1 4 c1 _ o1.rd 8 rfl (by omega)).mono ?_
  rintro e w2 ⟨A2, c2, rfl, o2, b2⟩
  have hb2 := below_then hb1 b2
  go_wp2_with fail
  refine (Join_l w2 _ 8 c2 _ o2.rd A xs.length c xs (hx.below hb2) (8 + xs.length) rfl (by have := Hn.out; omega)).mono ?_
  rintro e w3 ⟨A3, c3, rfl, o3, b3⟩
  have hb3 := below_then hb2 b3
  have e3 : [81, 77, 1, K] ++ bigR xs.length 4 ++ xs = preL K xs := rfl
  rw [e3] at o3
  have hr := refSum_any w3 _ _ _ _ o3.rd
  rw [Hsm.out] at hr
  have HR := Lib.hid hr
  clear hr
  have bN3 : Blk w3 w.heap.size #[.int .i64 0, .int .i64 0] 29 := ((bN.kept b1).kept b2).kept b3
  have HO := Lib.hid (o3.up fun k hk => Nat.le_trans hb2.size (o3.lt hk).1 : Ob w3 w.heap.size A3 (8 + xs.length) c3 (preL K xs))
  have HB := Lib.hid hb3
  have HN := Lib.hid bN3
  have hsz : w.heap.size < w2.heap.size := by have := bN.lt; have := b1.size; have := b2.size; omega
  have HA3 : Hid (∀ {k : Nat}, inA A3 k → w2.heap.size ≤ k ∧ k < w3.heap.size) := fun {k} hk => o3.lt hk
  clear bN bH b1 b2 b3 hbA hxA hb1 hb2 hb3 o1 o2 o3 e3 bN3
  have hnA : ¬ inA A3 w.heap.size := fun hk => by have := (HA3.out hk).1; omega
  go_wp2_with (go_at_call 15; refine HR.out.mono ?_; rintro e w4 ⟨rfl, rfl⟩)
  clear HA3
  have HNA := Lib.hid hnA; clear hnA
  go_loopw [6, 8] (fun b i wr => ∃ (k : Nat) (A' : Option Addr) (c' l : Nat), k ≤ 4 ∧ i = .int .i64 k ∧ l = 8 + xs.length + k ∧ b = .slice A' l c' ∧ Hid (Ob wr w.heap.size A' l c' (preL K xs ++ lowR S k)) ∧ Hid (Below w.heap.size w wr) ∧ Hid (Blk wr w.heap.size #[.int .i64 0, .int .i64 0] 29) ∧ Hid (¬ inA A' w.heap.size)) (fun _ i _ => 4 - (intOf i).toNat)
  case atStart => exact ⟨0, A3, c3, 8 + xs.length, Nat.zero_le _, rfl, rfl, rfl, by simpa [lowR] using HO, HB, HN, HNA⟩
  case round =>
    obtain ⟨k, A', c', l, hk, rfl, hl, rfl, HO, HB, HN, HNA⟩ := hrel
    have hll : l ≤ 1000000012 := by omega
    have HL := Lib.hid hl; clear hl
    by_cases hlt : k < 4
    · have HZ := Lib.hid (shr8 S k)
      go_wp2_with (at_builtin; refine wpl_append_1 rfl (.tmp 31) (.tmp 38) rfl rfl HO.out rfl (lastB (S / 256 ^ k % 256)) HZ.out (by omega) HB.out.size ?_; intro A2 c2 w2 hown2 hchg2 hin2; have HA := Lib.hid (And.intro hown2 (And.intro hchg2 hin2)); clear hown2 hchg2 hin2)
      go_roundw
      case rel =>
        refine ⟨k + 1, A2, c2, l + 1, by omega, by go_num, by have := HL.out; omega, rfl, ?_, below_of HB.out HO.out HA.out.2.1, HN.out.chg HA.out.2.1 HNA.out, ?_⟩
        · rw [lowR_succ, ← List.append_assoc]; exact HA.out.1
        · intro hk2
          rcases HA.out.2.2 _ hk2 with h | h
          · exact HNA.out h
          · have := HN.out.lt; omega
      case measure => simp [intOf]; omega
    · obtain rfl : k = 4 := by omega
      have hc0 : wr.cell? ⟨w.heap.size, 0, none⟩ = some (.int .i64 0) := HN.out.cell 0
      have hc1 : wr.cell? ⟨w.heap.size, 1, none⟩ = some (.int .i64 0) := HN.out.cell 1
      have f0 := HN.out.frozen 0
      have f1 := HN.out.frozen 1
      go_wp2
      refine bodyPost_ret (v := .tuple #[.slice A' l c', .agg #[.int .i64 0, .int .i64 0]]) (by simp [results, Tryd.results17, go_sem, hc0, hc1]) rfl ?_
      obtain rfl : l = xs.length + 12 := by have := HL.out; omega
      refine ⟨A', c', rfl, ?_, ?_⟩
      · rw [frameL, Hsm.out]
        refine HO.out.chg (F := (· = w.heap.size)) ?_ fun k hk e => HNA.out (by subst e; exact hk)
        refine Chg.set (Chg.set (Chg.refl _ _) ?_ _) ?_ _ <;> exact fun _ => rfl
      · exact (HB.out.setCell (Nat.le_refl _) _).setCell (Nat.le_refl _) _
end Go.Proofs.YtbhmnkpbaeemeaaDoor
