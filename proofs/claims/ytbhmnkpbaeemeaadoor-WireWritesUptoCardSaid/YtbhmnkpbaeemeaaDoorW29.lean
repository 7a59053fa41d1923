import Derived.Test.YtbhmnkpbaeemeaaDoorW28
import Derived.Test.YtbhmnkpbaeemeaaDoorW21
set_option linter.unusedVariables false
set_option linter.unusedSimpArgs false
namespace Go.Proofs.YtbhmnkpbaeemeaaDoor
open Go.RowKit

/-! ## The methods of a nil writer: nothing is laid -/
section
variable (w : World)
theorem U8_nil (v : Int) : Calls Tryd.prog 63 #[.pointer none, .int .u8 v] w fun e w' => e = .returned (.tuple #[]) ∧ Below w.heap.size w w' := by
  go_enter Tryd.func63, Tryd.ntmps63
  go_wp2_with (go_at_call 65; refine (lay_nil _ _ _ _ _).mono ?_; rintro e w' ⟨rfl, rfl⟩)
  all_goals
    go_returns
    exact ⟨rfl, by go_grown⟩
theorem U16_nil (v : Int) (h0 : 0 ≤ v) (h1 : v ≤ 65535) : Calls Tryd.prog 62 #[.pointer none, .int .u16 v] w fun e w' => e = .returned (.tuple #[]) ∧ Below w.heap.size w w' := by
  go_enter Tryd.func62, Tryd.ntmps62
  go_wp2_with first | (go_at_call 131; refine (high2 v w h0 h1).mono ?_; rintro e w' ⟨rfl, rfl⟩) | (go_at_call 65; refine (lay_nil _ _ _ _ _).mono ?_; rintro e w' ⟨rfl, rfl⟩)
  all_goals
    go_returns
    exact ⟨rfl, by go_grown⟩
theorem U32_nil (v : Int) (h0 : 0 ≤ v) (h1 : v ≤ 4294967295) : Calls Tryd.prog 64 #[.pointer none, .int .u32 v] w fun e w' => e = .returned (.tuple #[]) ∧ Below w.heap.size w w' := by
  go_enter Tryd.func64, Tryd.ntmps64
  go_wp2_with first | (go_at_call 131; refine (high4 v w h0 h1).mono ?_; rintro e w' ⟨rfl, rfl⟩) | (go_at_call 65; refine (lay_nil _ _ _ _ _).mono ?_; rintro e w' ⟨rfl, rfl⟩)
  all_goals
    go_returns
    exact ⟨rfl, by go_grown⟩
theorem U64_nil (v : Int) (h0 : 0 ≤ v) (h1 : v ≤ 18446744073709551615) : Calls Tryd.prog 74 #[.pointer none, .int .u64 v] w fun e w' => e = .returned (.tuple #[]) ∧ Below w.heap.size w w' := by
  go_enter Tryd.func74, Tryd.ntmps74
  go_wp2_with first | (go_at_call 131; refine (high8 v w h0 h1).mono ?_; rintro e w' ⟨rfl, rfl⟩) | (go_at_call 65; refine (lay_nil _ _ _ _ _).mono ?_; rintro e w' ⟨rfl, rfl⟩)
  all_goals
    go_returns
    exact ⟨rfl, by go_grown⟩
theorem Num_nil (v : Nat) (hv : v < 18446744073709551616) : Calls Tryd.prog 75 #[.pointer none, .int .u64 (v : Int)] w fun e w' => e = .returned (.tuple #[]) ∧ Below w.heap.size w w' := by
  go_enter Tryd.func75, Tryd.ntmps75
  go_wp2_with first | (go_at_call 136; refine (number_any _ _ hv).mono ?_; rintro e w1 ⟨A1, c1, rfl, ho, hb⟩) | (go_at_call 65; refine (lay_nil _ _ _ _ _).mono ?_; rintro e w' ⟨rfl, rfl⟩)
  all_goals
    go_returns
    exact ⟨rfl, hb.alloc hb.size _⟩
theorem Flag_nil (v : Bool) : Calls Tryd.prog 77 #[.pointer none, .bool v] w fun e w' => e = .returned (.tuple #[]) ∧ Below w.heap.size w w' := by
  cases v
  all_goals
    go_enter Tryd.func77, Tryd.ntmps77
    go_wp2_with (go_at_call 65; refine (lay_nil _ _ _ _ _).mono ?_; rintro e w' ⟨rfl, rfl⟩)
    go_returns
    exact ⟨rfl, by go_grown⟩
theorem Count_nil (n most : Int) (hn : n ≤ 9223372036854775807) : Calls Tryd.prog 79 #[.pointer none, .int .i64 n, .int .i64 most] w fun e w' => e = .returned (.tuple #[]) ∧ Below w.heap.size w w' := by
  by_cases hn0 : n < 0
  · go_enter Tryd.func79, Tryd.ntmps79
    go_wp2_with (go_at_call 65; refine (lay_nil _ _ _ _ _).mono ?_; rintro e w' ⟨rfl, rfl⟩)
    go_returns
    exact ⟨rfl, Below.refl _ _⟩
  · by_cases hm : most < n
    · go_enter Tryd.func79, Tryd.ntmps79
      go_wp2_with (go_at_call 65; refine (lay_nil _ _ _ _ _).mono ?_; rintro e w' ⟨rfl, rfl⟩)
      go_returns
      exact ⟨rfl, Below.refl _ _⟩
    · obtain ⟨m, rfl⟩ := Int.eq_ofNat_of_zero_le (Int.not_lt.1 hn0)
      have hN := Lib.hid (number_any m w (by omega))
      go_enter Tryd.func79, Tryd.ntmps79
      go_wp2_with first | (go_at_call 136; refine hN.out.mono ?_; rintro e w1 ⟨A1, c1, rfl, ho, hb⟩) | (go_at_call 65; refine (lay_nil _ _ _ _ _).mono ?_; rintro e w' ⟨rfl, rfl⟩)
      go_returns
      exact ⟨rfl, hb.alloc hb.size _⟩
theorem Blob_nil (Ab : Option Addr) (n cb : Nat) (most : Int) (hn : n ≤ 999999000) : Calls Tryd.prog 81 #[.pointer none, .slice Ab n cb, .int .i64 most] w fun e w' => e = .returned (.tuple #[]) ∧ Below w.heap.size w w' := by
  by_cases hm : most < n
  · go_enter Tryd.func81, Tryd.ntmps81
    go_wp2_with (go_at_call 65; refine (lay_nil _ _ _ _ _).mono ?_; rintro e w' ⟨rfl, rfl⟩)
    go_returns
    exact ⟨rfl, Below.refl _ _⟩
  · have hN := Lib.hid (number_any n w (by omega))
    go_enter Tryd.func81, Tryd.ntmps81
    go_wp2_with first | (go_at_call 136; refine hN.out.mono ?_; rintro e w1 ⟨A1, c1, rfl, ho, hb⟩) | (go_at_call 65; refine (lay_nil _ _ _ _ _).mono ?_; rintro e w' ⟨rfl, rfl⟩)
    go_returns
    exact ⟨rfl, hb.alloc hb.size _⟩
set_option maxRecDepth 100000 in
theorem Text_nil (t : ByteArray) (most : Int) (hT : U8T w) (hn : t.size ≤ 800000000) : Calls Tryd.prog 83 #[.pointer none, .string t, .int .i64 most] w fun e w' => e = .returned (.tuple #[]) ∧ Below w.heap.size w w' := by
  have hR := Lib.hid (runes_any t w (by omega) hT)
  by_cases hm : most < t.size
  · go_enter Tryd.func83, Tryd.ntmps83
    go_wp2_with (go_at_call 65; refine (lay_nil _ _ _ _ _).mono ?_; rintro e w' ⟨rfl, rfl⟩)
    go_returns
    exact ⟨rfl, Below.refl _ _⟩
  · cases hv : Lib.validD t.data.toList
    · rw [hv] at hR
      go_enter Tryd.func83, Tryd.ntmps83
      go_wp2_with first | (go_at_call 138; refine hR.out.mono ?_; rintro e w1 ⟨rfl, hb⟩) | (go_at_call 65; refine (lay_nil _ _ _ _ _).mono ?_; rintro e w' ⟨rfl, rfl⟩)
      go_returns
      exact ⟨rfl, hb⟩
    · rw [hv] at hR
      go_enter Tryd.func83, Tryd.ntmps83
      go_wp2_with first | (go_at_call 138; refine hR.out.mono ?_; rintro e w1 ⟨rfl, hb⟩; have HB1 := Lib.hid hb; clear hb) | (go_at_call 136; refine (number_any t.size _ (by omega)).mono ?_; rintro e w2 ⟨A2, c2, rfl, ho, hb⟩; have HO := Lib.hid ho; have HB := Lib.hid hb; clear ho hb; obtain ⟨cap, w3, hcv, hrd, hbl⟩ := strConv w2 t (by omega); have HBL := Lib.hid hbl; clear hrd hbl) | (go_at_call 65; refine (lay_nil _ _ _ _ _).mono ?_; rintro e w' ⟨rfl, rfl⟩)
      go_returns
      exact ⟨rfl, (below_then (below_then HB1.out HB.out) HBL.out).alloc (below_then (below_then HB1.out HB.out) HBL.out).size _⟩
theorem Len_nil : Calls Tryd.prog 27 #[.pointer none] w fun e w' => e = .returned (.int .i64 0) ∧ w = w' := by
  go_enter Tryd.func27, Tryd.ntmps27
  go_wp2
  go_ret
  exact ⟨rfl, rfl⟩
theorem Bytes_nil : Calls Tryd.prog 38 #[.pointer none] w fun e w' => ∃ b, e = .returned (.tuple #[.slice none 0 0, .iface 129 (.pointer (some ⟨b, 0, none⟩))]) ∧ w.heap.size ≤ b ∧ ErrAt w' b 3 0 ∧ Below w.heap.size w w' := by
  go_enter Tryd.func38, Tryd.ntmps38
  go_wp2_with (go_at_call 61; refine (fault_any _ _ _).mono ?_; rintro e w' ⟨rfl, rfl⟩)
  go_ret2
  exact ⟨_, rfl, Nat.le_refl _, Blk.new _ _ _, (Below.refl _ _).alloc (Nat.le_refl _) _⟩
end

/-! ## A writer, nil or not -/
def WN (w : World) (P A : Option Addr) (c : Nat) (s : WrS) : Prop :=
  (P = none ∧ A = none ∧ s.made = false ∧ s.buf = []) ∨ ∃ p, P = some ⟨p, 0, none⟩ ∧ Wr w p A c s
def wnF (P A : Option Addr) (k : Nat) : Prop := inA P k ∨ inA A k
def WNPost (w w' : World) (P A : Option Addr) (s' : WrS) : Prop :=
  ∃ A' c', WN w' P A' c' s' ∧ Chg w w' (wnF P A) ∧ ∀ k, inA A' k → inA A k ∨ w.heap.size ≤ k

section
variable {w w' : World} {P A : Option Addr} {c : Nat} {s s' : WrS}
theorem WN.chg {F : Nat → Prop} (h : WN w P A c s) (hc : Chg w w' F) (hF : ∀ k, wnF P A k → ¬ F k) : WN w' P A c s := by
  rcases h with h | ⟨p, rfl, h⟩
  · exact .inl h
  · refine .inr ⟨p, rfl, h.chg hc fun k hk => hF k ?_⟩
    rcases hk with rfl | hk
    · exact .inl (inA_some.2 rfl)
    · exact .inr hk
theorem WN.lt (h : WN w P A c s) {k : Nat} (hk : wnF P A k) : k < w.heap.size := by
  rcases h with ⟨rfl, rfl, _⟩ | ⟨p, rfl, h⟩
  · rcases hk with ⟨a, e, _⟩ | ⟨a, e, _⟩ <;> cases e
  · refine h.lt ?_
    rcases hk with hk | hk
    · exact .inl (inA_some.1 hk).symm
    · exact .inr hk
theorem WrPost.wn {p : Nat} (h : WrPost w w' p A s') : WNPost w w' (some ⟨p, 0, none⟩) A s' := by
  obtain ⟨A', c', h1, h2, h3⟩ := h
  refine ⟨A', c', .inr ⟨p, rfl, h1⟩, h2.mono fun k _ hk => ?_, h3⟩
  rcases hk with rfl | hk
  · exact .inl (inA_some.2 rfl)
  · exact .inr hk
theorem WNPost.nil (hs : s.made = false) (hb : s.buf = []) (h : Below w.heap.size w w') : WNPost w w' none none s :=
  ⟨none, 0, .inl ⟨rfl, rfl, hs, hb⟩, Chg.ofBelow h _, fun k hk => .inl hk⟩
theorem lay_dead (s : WrS) (h : s.made = false) (own : Int) (xs : List UInt8) : s.lay own xs = s := by
  unfold WrS.lay
  rw [if_pos (by rw [h]; rfl)]
theorem count_dead (s : WrS) (h : s.made = false) (n most : Int) : s.count n most = s := by
  unfold WrS.count
  split <;> exact lay_dead s h _ _
theorem blob_dead (s : WrS) (h : s.made = false) (b : List UInt8) (most : Int) : s.blob b most = s := by
  unfold WrS.blob
  split <;> exact lay_dead s h _ _
theorem text_dead (s : WrS) (h : s.made = false) (b : List UInt8) (most : Int) : s.text b most = s := by
  unfold WrS.text
  split
  · exact lay_dead s h _ _
  · split <;> exact lay_dead s h _ _

theorem U8_wn (h : WN w P A c s) (v : UInt8) : Calls Tryd.prog 63 #[.pointer P, .int .u8 (v.toNat : Int)] w fun e w' => e = .returned (.tuple #[]) ∧ WNPost w w' P A (s.lay 0 [v]) := by
  rcases h with ⟨rfl, rfl, h1, h2⟩ | ⟨p, rfl, h⟩
  · refine (U8_nil w _).mono ?_
    rintro e w' ⟨rfl, hb⟩
    exact ⟨rfl, by rw [lay_dead s h1]; exact WNPost.nil h1 h2 hb⟩
  · refine (U8_any h v).mono ?_
    rintro e w' ⟨rfl, hq⟩
    exact ⟨rfl, hq.wn⟩
theorem U16_wn (h : WN w P A c s) (v : Int) (h0 : 0 ≤ v) (hv : v ≤ 65535) : Calls Tryd.prog 62 #[.pointer P, .int .u16 v] w fun e w' => e = .returned (.tuple #[]) ∧ WNPost w w' P A (s.lay 0 (big2 v)) := by
  rcases h with ⟨rfl, rfl, h1, h2⟩ | ⟨p, rfl, h⟩
  · refine (U16_nil w v h0 hv).mono ?_
    rintro e w' ⟨rfl, hb⟩
    exact ⟨rfl, by rw [lay_dead s h1]; exact WNPost.nil h1 h2 hb⟩
  · refine (U16_any h v h0 hv).mono ?_
    rintro e w' ⟨rfl, hq⟩
    exact ⟨rfl, hq.wn⟩
theorem U32_wn (h : WN w P A c s) (v : Int) (h0 : 0 ≤ v) (hv : v ≤ 4294967295) : Calls Tryd.prog 64 #[.pointer P, .int .u32 v] w fun e w' => e = .returned (.tuple #[]) ∧ WNPost w w' P A (s.lay 0 (big4 v)) := by
  rcases h with ⟨rfl, rfl, h1, h2⟩ | ⟨p, rfl, h⟩
  · refine (U32_nil w v h0 hv).mono ?_
    rintro e w' ⟨rfl, hb⟩
    exact ⟨rfl, by rw [lay_dead s h1]; exact WNPost.nil h1 h2 hb⟩
  · refine (U32_any h v h0 hv).mono ?_
    rintro e w' ⟨rfl, hq⟩
    exact ⟨rfl, hq.wn⟩
theorem U64_wn (h : WN w P A c s) (v : Int) (h0 : 0 ≤ v) (hv : v ≤ 18446744073709551615) : Calls Tryd.prog 74 #[.pointer P, .int .u64 v] w fun e w' => e = .returned (.tuple #[]) ∧ WNPost w w' P A (s.lay 0 (big8 v)) := by
  rcases h with ⟨rfl, rfl, h1, h2⟩ | ⟨p, rfl, h⟩
  · refine (U64_nil w v h0 hv).mono ?_
    rintro e w' ⟨rfl, hb⟩
    exact ⟨rfl, by rw [lay_dead s h1]; exact WNPost.nil h1 h2 hb⟩
  · refine (U64_any h v h0 hv).mono ?_
    rintro e w' ⟨rfl, hq⟩
    exact ⟨rfl, hq.wn⟩
theorem Num_wn (h : WN w P A c s) (v : Nat) (hv : v < 18446744073709551616) : Calls Tryd.prog 75 #[.pointer P, .int .u64 (v : Int)] w fun e w' => e = .returned (.tuple #[]) ∧ WNPost w w' P A (s.lay 0 (numB v)) := by
  rcases h with ⟨rfl, rfl, h1, h2⟩ | ⟨p, rfl, h⟩
  · refine (Num_nil w v hv).mono ?_
    rintro e w' ⟨rfl, hb⟩
    exact ⟨rfl, by rw [lay_dead s h1]; exact WNPost.nil h1 h2 hb⟩
  · refine (Num_any h v hv).mono ?_
    rintro e w' ⟨rfl, hq⟩
    exact ⟨rfl, hq.wn⟩
theorem Flag_wn (h : WN w P A c s) (v : Bool) : Calls Tryd.prog 77 #[.pointer P, .bool v] w fun e w' => e = .returned (.tuple #[]) ∧ WNPost w w' P A (s.lay 0 [if v then 1 else 0]) := by
  rcases h with ⟨rfl, rfl, h1, h2⟩ | ⟨p, rfl, h⟩
  · refine (Flag_nil w v).mono ?_
    rintro e w' ⟨rfl, hb⟩
    exact ⟨rfl, by rw [lay_dead s h1]; exact WNPost.nil h1 h2 hb⟩
  · refine (Flag_any h v).mono ?_
    rintro e w' ⟨rfl, hq⟩
    exact ⟨rfl, hq.wn⟩
theorem Count_wn (h : WN w P A c s) (n most : Int) (hn : n ≤ 9223372036854775807) : Calls Tryd.prog 79 #[.pointer P, .int .i64 n, .int .i64 most] w fun e w' => e = .returned (.tuple #[]) ∧ WNPost w w' P A (s.count n most) := by
  rcases h with ⟨rfl, rfl, h1, h2⟩ | ⟨p, rfl, h⟩
  · refine (Count_nil w n most hn).mono ?_
    rintro e w' ⟨rfl, hb⟩
    exact ⟨rfl, by rw [count_dead s h1]; exact WNPost.nil h1 h2 hb⟩
  · refine (Count_any h n most hn).mono ?_
    rintro e w' ⟨rfl, hq⟩
    exact ⟨rfl, hq.wn⟩
theorem Blob_wn (h : WN w P A c s) (Ab : Option Addr) (n cb : Nat) (b : List UInt8) (most : Int) (hr : Rd w Ab n cb b) (hF : 0 < n → ∀ k, inA Ab k → ¬ wnF P A k) (hn : n ≤ 999999000) : Calls Tryd.prog 81 #[.pointer P, .slice Ab n cb, .int .i64 most] w fun e w' => e = .returned (.tuple #[]) ∧ WNPost w w' P A (s.blob b most) := by
  rcases h with ⟨rfl, rfl, h1, h2⟩ | ⟨p, rfl, h⟩
  · refine (Blob_nil w Ab n cb most hn).mono ?_
    rintro e w' ⟨rfl, hb⟩
    exact ⟨rfl, by rw [blob_dead s h1]; exact WNPost.nil h1 h2 hb⟩
  · refine (Blob_any h Ab n cb b most hr (fun h0 k hk hw => hF h0 k hk (by rcases hw with rfl | hw; exact .inl (inA_some.2 rfl); exact .inr hw)) hn).mono ?_
    rintro e w' ⟨rfl, hq⟩
    exact ⟨rfl, hq.wn⟩
theorem Text_wn (h : WN w P A c s) (t : ByteArray) (most : Int) (hT : U8T w) (hn : t.size ≤ 800000000) : Calls Tryd.prog 83 #[.pointer P, .string t, .int .i64 most] w fun e w' => e = .returned (.tuple #[]) ∧ WNPost w w' P A (s.text t.data.toList most) := by
  rcases h with ⟨rfl, rfl, h1, h2⟩ | ⟨p, rfl, h⟩
  · refine (Text_nil w t most hT hn).mono ?_
    rintro e w' ⟨rfl, hb⟩
    exact ⟨rfl, by rw [text_dead s h1]; exact WNPost.nil h1 h2 hb⟩
  · refine (Text_any h t most hT hn).mono ?_
    rintro e w' ⟨rfl, hq⟩
    exact ⟨rfl, hq.wn⟩
theorem Len_wn (h : WN w P A c s) : Calls Tryd.prog 27 #[.pointer P] w fun e w' => e = .returned (.int .i64 (s.buf.length : Int)) ∧ w = w' := by
  rcases h with ⟨rfl, rfl, h1, h2⟩ | ⟨p, rfl, h⟩
  · rw [h2]
    exact Len_nil w
  · exact Len_any h

/-- What Bytes tells. -/
def WrS.out (s : WrS) : List UInt8 := if !s.made || s.bad then [] else s.buf
def WrS.no (s : WrS) : Int := if !s.made then 3 else if s.bad then s.code else 0
def WrS.pl (s : WrS) : Int := if !s.made then 0 else if s.bad then s.at_ else 0
theorem Bytes_wn (h : WN w P A c s) (hc : s.bad = decide (s.code ≠ 0)) : Calls Tryd.prog 38 #[.pointer P] w fun e w' => FrmW w w' e s.out s.no s.pl := by
  have U : s.made = false → s.out = [] ∧ s.no = 3 ∧ s.pl = 0 := fun h => by simp [WrS.out, WrS.no, WrS.pl, h]
  rcases h with ⟨rfl, rfl, h1, h2⟩ | ⟨p, rfl, h⟩
  · obtain ⟨e1, e2, e3⟩ := U h1
    rw [e1, e2, e3]
    refine (Bytes_nil w).mono ?_
    rintro e w' ⟨b, rfl, hp, he, hb⟩
    exact ⟨none, 0, 0, _, rfl, Ob.nil _ _, .inr ⟨b, rfl, he, by decide⟩, hb⟩
  · cases hm : s.made
    · obtain ⟨e1, e2, e3⟩ := U hm
      rw [e1, e2, e3]
      refine (Bytes_unmade h hm).mono ?_
      rintro e w' ⟨b, rfl, hp, he, hb⟩
      exact ⟨none, 0, 0, _, rfl, Ob.nil _ _, .inr ⟨b, rfl, he, by decide⟩, hb⟩
    · cases hbd : s.bad
      · have e1 : s.out = s.buf ∧ s.no = 0 ∧ s.pl = 0 := by simp [WrS.out, WrS.no, WrS.pl, hm, hbd]
        rw [e1.1, e1.2.1, e1.2.2]
        refine (Bytes_good h hm hbd).mono ?_
        rintro e w' ⟨A', rfl, ho, hb⟩
        exact ⟨A', _, _, _, rfl, ho, .inl ⟨rfl, rfl, rfl⟩, hb⟩
      · have e1 : s.out = [] ∧ s.no = s.code ∧ s.pl = s.at_ := by simp [WrS.out, WrS.no, WrS.pl, hm, hbd]
        have hne : s.code ≠ 0 := by rw [hbd] at hc; simpa using hc.symm
        rw [e1.1, e1.2.1, e1.2.2]
        refine (Bytes_bad h hm hbd).mono ?_
        rintro e w' ⟨b, rfl, hp, he, hb⟩
        exact ⟨none, 0, 0, _, rfl, Ob.nil _ _, .inr ⟨b, rfl, he, hne⟩, hb⟩
end
end Go.Proofs.YtbhmnkpbaeemeaaDoor
