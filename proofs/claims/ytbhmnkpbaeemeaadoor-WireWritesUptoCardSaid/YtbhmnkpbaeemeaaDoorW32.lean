import Derived.Test.YtbhmnkpbaeemeaaDoorW31
import Derived.Test.YtbhmnkpbaeemeaaDoorW12
set_option linter.unusedVariables false
set_option linter.unusedSimpArgs false
namespace Go.Proofs.YtbhmnkpbaeemeaaDoor
open Go.RowKit

/-- One operation of a drawn list. -/
structure OpV where
  kind : Int
  num : Nat
  int : Int
  A : Option Addr
  n : Nat
  c : Nat
  b : List UInt8
  s : ByteArray
  most : Int
def OpV.val (o : OpV) : Value := .agg #[.int .i64 o.kind, .int .u64 (o.num : Int), .int .i64 o.int, .slice o.A o.n o.c, .string o.s, .int .i64 o.most]
def OpV.cells (o : OpV) : Array Value := #[.int .i64 o.kind, .int .u64 (o.num : Int), .int .i64 o.int, .slice o.A o.n o.c, .string o.s, .int .i64 o.most]
structure OpOk (w : World) (o : OpV) : Prop where
  num : o.num < 18446744073709551616
  int0 : -9223372036854775808 ≤ o.int
  int : o.int ≤ 9223372036854775807
  rd : Rd w o.A o.n o.c o.b
  n : o.n ≤ 2000000
  s : o.s.size ≤ 2000000

/-- What a call of lay leaves. -/
def LayPost (w0 w' : World) (e : Ending) (P : Option Addr) (q : Nat) : Prop :=
  e = .returned (.bool true) ∧ ∃ A' c' A2' c2' s', PW w0 w' P A' c' q A2' c2' s'

section
variable {w0 w w1 w2 : World} {P A : Option Addr} {c q : Nat} {A2 : Option Addr} {c2 : Nat} {s s' : WrS}
theorem WNPost.chg_ (h : WNPost w w1 P A s') : Chg w w1 (wnF P A) := by
  obtain ⟨A', c', h1, h2, h3⟩ := h
  exact h2
theorem U8_z (h : WN w P A c s) (z : Int) (h0 : 0 ≤ z) (h1 : z < 256) : Calls Tryd.prog 63 #[.pointer P, .int .u8 z] w fun e w' => e = .returned (.tuple #[]) ∧ WNPost w w' P A (s.lay 0 [u8of z]) := by
  have := U8_wn h (u8of z)
  rw [u8of_toNat h0 h1] at this
  exact this
theorem Fixed_z (h : Rw w q A2 c2 s) (z : Int) (v n : Nat) (hz : z = (v : Int)) (k : Int) (hk : k = (n : Int)) (hv : v < 18446744073709551616) (hn : n ≤ 8) :
    Calls Tryd.prog 73 #[.pointer (some ⟨q, 0, none⟩), .int .u64 z, .int .i64 k] w fun e w' => e = .returned (.tuple #[]) ∧ RwPost w w' q A2 (s.lay 0 (bigR v n)) := by
  subst hz hk
  exact Fixed_any h v n hv hn
/-- The box of the operation behind a call that touches the writer. -/
theorem box_kept (h : PW w0 w P A c q A2 c2 s) {cs : Array Value} {e : TypeId} {g : Nat} (hg : g = w.heap.size) (X : Blk w1 g cs e) (hc : Chg w1 w2 (wnF P A)) : Blk w2 g cs e :=
  X.chg hc fun hf => by have := h.wn.lt hf; omega
end
theorem big1_eq (v : Nat) : ([u8of ((v : Int) % 256)] : List UInt8) = bigR (v % 256) 1 := by
  simp only [bigR, Nat.pow_zero, Nat.div_one]
  rw [show (v : Int) % 256 = ((v % 256 % 256 : Nat) : Int) by omega]
  rfl
theorem big2_eq (v : Nat) : big2 ((v : Int) % 65536) = bigR (v % 65536) 2 := by
  simp only [bigR, big2]
  rw [show (v : Int) % 65536 / 256 = ((v % 65536 / 256 ^ 1 % 256 : Nat) : Int) by simp; omega, show (v : Int) % 65536 % 256 = ((v % 65536 / 256 ^ 0 % 256 : Nat) : Int) by simp]
  rfl
theorem big8_eq (v : Nat) (h : v < 18446744073709551616) : big8 (v : Int) = bigR v 8 := by
  simp only [bigR, big8]
  rw [show (v : Int) / 72057594037927936 = ((v / 256 ^ 7 % 256 : Nat) : Int) by simp; omega, show (v : Int) / 281474976710656 % 256 = ((v / 256 ^ 6 % 256 : Nat) : Int) by simp,
    show (v : Int) / 1099511627776 % 256 = ((v / 256 ^ 5 % 256 : Nat) : Int) by simp, show (v : Int) / 4294967296 % 256 = ((v / 256 ^ 4 % 256 : Nat) : Int) by simp,
    show (v : Int) / 16777216 % 256 = ((v / 256 ^ 3 % 256 : Nat) : Int) by simp, show (v : Int) / 65536 % 256 = ((v / 256 ^ 2 % 256 : Nat) : Int) by simp,
    show (v : Int) / 256 % 256 = ((v / 256 ^ 1 % 256 : Nat) : Int) by simp, show (v : Int) % 256 = ((v / 256 ^ 0 % 256 : Nat) : Int) by simp]
  rfl


set_option maxRecDepth 100000 in
theorem lay1 {w0 w : World} {P A : Option Addr} {c q : Nat} {A2 : Option Addr} {c2 : Nat} {s : WrS} (h : PW w0 w P A c q A2 c2 s) (o : OpV) (ok : OpOk w0 o) (hT : U8T w0) (hk : o.kind = 1) :
    Calls Tryd.prog 26 #[.pointer P, .pointer (some ⟨q, 0, none⟩), o.val] w fun e w' => LayPost w0 w' e P q := by
  obtain ⟨kind, num, int, Ab, n, cb, b, t, most⟩ := o
  simp only at hk
  subst hk
  have hnum := ok.num
  have hi := ok.int
  simp only at hnum hi
  have H := Lib.hid h
  have OK := Lib.hid ok
  have HT := Lib.hid hT
  obtain ⟨g, hg⟩ : ∃ g, g = w.heap.size := ⟨_, rfl⟩
  have X := Lib.hid (Blk.new w (OpV.cells ⟨1, num, int, Ab, n, cb, b, t, most⟩) 53)
  have H1 := Lib.hid (h.below (below1 w (.cells (OpV.cells ⟨1, num, int, Ab, n, cb, b, t, most⟩) 53)))
  rw [← hg] at X
  have G := Lib.hid hg
  clear h ok hT
  unfold OpV.cells at X H1
  unfold OpV.val
  simp only at X H1 ⊢
  go_enter Tryd.func26, Tryd.ntmps26
  go_wp2_with fail
  rw [← hg]
  clear hg
  generalize (w.alloc (.cells #[.int .i64 1, .int .u64 (num : Int), .int .i64 int, .slice Ab n cb, .string t, .int .i64 most] 53)) = w1 at *
  refine (U8_z H1.out.wn _ (by omega) (by omega)).mono ?_
  rintro e w2 ⟨rfl, hq⟩
  have X2 := box_kept H.out G.out X.out hq.chg_
  have k1 : w2.cell? ⟨g, 1, none⟩ = some (.int .u64 (num : Int)) := X2.cell 1
  have HQ := Lib.hid hq
  have HR := Lib.hid (H1.out.mid hq)
  clear X2 hq
  go_wp2_with fail
  refine (Fixed_z HR.out _ (num % 256) 1 (by omega) _ rfl (by omega) (by omega)).mono ?_
  rintro e w3 ⟨rfl, hr⟩
  rw [← big1_eq] at hr
  have HP := Lib.hid (H1.out.step HQ.out hr)
  clear hr
  go_wp2
  go_ret
  obtain ⟨A', c', A2', c2', hp⟩ := HP.out
  exact ⟨rfl, A', c', A2', c2', _, hp⟩

set_option maxRecDepth 100000 in
theorem lay2 {w0 w : World} {P A : Option Addr} {c q : Nat} {A2 : Option Addr} {c2 : Nat} {s : WrS} (h : PW w0 w P A c q A2 c2 s) (o : OpV) (ok : OpOk w0 o) (hT : U8T w0) (hk : o.kind = 2) :
    Calls Tryd.prog 26 #[.pointer P, .pointer (some ⟨q, 0, none⟩), o.val] w fun e w' => LayPost w0 w' e P q := by
  obtain ⟨kind, num, int, Ab, n, cb, b, t, most⟩ := o
  simp only at hk
  subst hk
  have hnum := ok.num
  have hi := ok.int
  simp only at hnum hi
  have H := Lib.hid h
  have OK := Lib.hid ok
  have HT := Lib.hid hT
  obtain ⟨g, hg⟩ : ∃ g, g = w.heap.size := ⟨_, rfl⟩
  have X := Lib.hid (Blk.new w (OpV.cells ⟨2, num, int, Ab, n, cb, b, t, most⟩) 53)
  have H1 := Lib.hid (h.below (below1 w (.cells (OpV.cells ⟨2, num, int, Ab, n, cb, b, t, most⟩) 53)))
  rw [← hg] at X
  have G := Lib.hid hg
  clear h ok hT
  unfold OpV.cells at X H1
  unfold OpV.val
  simp only at X H1 ⊢
  have hw16 : IntKind.u16.wrap (num : Int) = (num : Int) % 65536 := by simp [IntKind.wrap, IntKind.signed, IntKind.bits]
  go_enter Tryd.func26, Tryd.ntmps26
  go_wp2_with fail
  rw [← hg]
  clear hg
  generalize (w.alloc (.cells #[.int .i64 2, .int .u64 (num : Int), .int .i64 int, .slice Ab n cb, .string t, .int .i64 most] 53)) = w1 at *
  refine (U16_wn H1.out.wn _ (by omega) (by omega)).mono ?_
  rintro e w2 ⟨rfl, hq⟩
  have X2 := box_kept H.out G.out X.out hq.chg_
  have k1 : w2.cell? ⟨g, 1, none⟩ = some (.int .u64 (num : Int)) := X2.cell 1
  have HQ := Lib.hid hq
  have HR := Lib.hid (H1.out.mid hq)
  clear X2 hq
  go_wp2_with fail
  refine (Fixed_z HR.out _ (num % 65536) 2 (by omega) _ rfl (by omega) (by omega)).mono ?_
  rintro e w3 ⟨rfl, hr⟩
  rw [← big2_eq] at hr
  have HP := Lib.hid (H1.out.step HQ.out hr)
  clear hr
  go_wp2
  go_ret
  obtain ⟨A', c', A2', c2', hp⟩ := HP.out
  exact ⟨rfl, A', c', A2', c2', _, hp⟩

set_option maxRecDepth 100000 in
theorem lay3 {w0 w : World} {P A : Option Addr} {c q : Nat} {A2 : Option Addr} {c2 : Nat} {s : WrS} (h : PW w0 w P A c q A2 c2 s) (o : OpV) (ok : OpOk w0 o) (hT : U8T w0) (hk : o.kind = 3) :
    Calls Tryd.prog 26 #[.pointer P, .pointer (some ⟨q, 0, none⟩), o.val] w fun e w' => LayPost w0 w' e P q := by
  obtain ⟨kind, num, int, Ab, n, cb, b, t, most⟩ := o
  simp only at hk
  subst hk
  have hnum := ok.num
  have hi := ok.int
  simp only at hnum hi
  have H := Lib.hid h
  have OK := Lib.hid ok
  have HT := Lib.hid hT
  obtain ⟨g, hg⟩ : ∃ g, g = w.heap.size := ⟨_, rfl⟩
  have X := Lib.hid (Blk.new w (OpV.cells ⟨3, num, int, Ab, n, cb, b, t, most⟩) 53)
  have H1 := Lib.hid (h.below (below1 w (.cells (OpV.cells ⟨3, num, int, Ab, n, cb, b, t, most⟩) 53)))
  rw [← hg] at X
  have G := Lib.hid hg
  clear h ok hT
  unfold OpV.cells at X H1
  unfold OpV.val
  simp only at X H1 ⊢
  go_enter Tryd.func26, Tryd.ntmps26
  go_wp2_with fail
  rw [← hg]
  clear hg
  generalize (w.alloc (.cells #[.int .i64 3, .int .u64 (num : Int), .int .i64 int, .slice Ab n cb, .string t, .int .i64 most] 53)) = w1 at *
  refine (U32_wn H1.out.wn _ (by omega) (by omega)).mono ?_
  rintro e w2 ⟨rfl, hq⟩
  have X2 := box_kept H.out G.out X.out hq.chg_
  have k1 : w2.cell? ⟨g, 1, none⟩ = some (.int .u64 (num : Int)) := X2.cell 1
  have HQ := Lib.hid hq
  have HR := Lib.hid (H1.out.mid hq)
  clear X2 hq
  go_wp2_with fail
  refine (Fixed_z HR.out _ (num % 4294967296) 4 (by omega) _ rfl (by omega) (by omega)).mono ?_
  rintro e w3 ⟨rfl, hr⟩
  rw [← big4_eq _ (by omega), show ((num % 4294967296 : Nat) : Int) = (num : Int) % 4294967296 by omega] at hr
  have HP := Lib.hid (H1.out.step HQ.out hr)
  clear hr
  go_wp2
  go_ret
  obtain ⟨A', c', A2', c2', hp⟩ := HP.out
  exact ⟨rfl, A', c', A2', c2', _, hp⟩

set_option maxRecDepth 100000 in
theorem lay4 {w0 w : World} {P A : Option Addr} {c q : Nat} {A2 : Option Addr} {c2 : Nat} {s : WrS} (h : PW w0 w P A c q A2 c2 s) (o : OpV) (ok : OpOk w0 o) (hT : U8T w0) (hk : o.kind = 4) :
    Calls Tryd.prog 26 #[.pointer P, .pointer (some ⟨q, 0, none⟩), o.val] w fun e w' => LayPost w0 w' e P q := by
  obtain ⟨kind, num, int, Ab, n, cb, b, t, most⟩ := o
  simp only at hk
  subst hk
  have hnum := ok.num
  have hi := ok.int
  simp only at hnum hi
  have H := Lib.hid h
  have OK := Lib.hid ok
  have HT := Lib.hid hT
  obtain ⟨g, hg⟩ : ∃ g, g = w.heap.size := ⟨_, rfl⟩
  have X := Lib.hid (Blk.new w (OpV.cells ⟨4, num, int, Ab, n, cb, b, t, most⟩) 53)
  have H1 := Lib.hid (h.below (below1 w (.cells (OpV.cells ⟨4, num, int, Ab, n, cb, b, t, most⟩) 53)))
  rw [← hg] at X
  have G := Lib.hid hg
  clear h ok hT
  unfold OpV.cells at X H1
  unfold OpV.val
  simp only at X H1 ⊢
  go_enter Tryd.func26, Tryd.ntmps26
  go_wp2_with fail
  rw [← hg]
  clear hg
  generalize (w.alloc (.cells #[.int .i64 4, .int .u64 (num : Int), .int .i64 int, .slice Ab n cb, .string t, .int .i64 most] 53)) = w1 at *
  refine (U64_wn H1.out.wn _ (by omega) (by omega)).mono ?_
  rintro e w2 ⟨rfl, hq⟩
  have X2 := box_kept H.out G.out X.out hq.chg_
  have k1 : w2.cell? ⟨g, 1, none⟩ = some (.int .u64 (num : Int)) := X2.cell 1
  have HQ := Lib.hid hq
  have HR := Lib.hid (H1.out.mid hq)
  clear X2 hq
  go_wp2_with fail
  refine (Fixed_z HR.out _ num 8 rfl _ rfl hnum (by omega)).mono ?_
  rintro e w3 ⟨rfl, hr⟩
  rw [← big8_eq num hnum] at hr
  have HP := Lib.hid (H1.out.step HQ.out hr)
  clear hr
  go_wp2
  go_ret
  obtain ⟨A', c', A2', c2', hp⟩ := HP.out
  exact ⟨rfl, A', c', A2', c2', _, hp⟩

set_option maxRecDepth 100000 in
theorem lay5 {w0 w : World} {P A : Option Addr} {c q : Nat} {A2 : Option Addr} {c2 : Nat} {s : WrS} (h : PW w0 w P A c q A2 c2 s) (o : OpV) (ok : OpOk w0 o) (hT : U8T w0) (hk : o.kind = 5) :
    Calls Tryd.prog 26 #[.pointer P, .pointer (some ⟨q, 0, none⟩), o.val] w fun e w' => LayPost w0 w' e P q := by
  obtain ⟨kind, num, int, Ab, n, cb, b, t, most⟩ := o
  simp only at hk
  subst hk
  have hnum := ok.num
  have hi := ok.int
  simp only at hnum hi
  have H := Lib.hid h
  have OK := Lib.hid ok
  have HT := Lib.hid hT
  obtain ⟨g, hg⟩ : ∃ g, g = w.heap.size := ⟨_, rfl⟩
  have X := Lib.hid (Blk.new w (OpV.cells ⟨5, num, int, Ab, n, cb, b, t, most⟩) 53)
  have H1 := Lib.hid (h.below (below1 w (.cells (OpV.cells ⟨5, num, int, Ab, n, cb, b, t, most⟩) 53)))
  rw [← hg] at X
  have G := Lib.hid hg
  clear h ok hT
  unfold OpV.cells at X H1
  unfold OpV.val
  simp only at X H1 ⊢
  go_enter Tryd.func26, Tryd.ntmps26
  go_wp2_with fail
  rw [← hg]
  clear hg
  generalize (w.alloc (.cells #[.int .i64 5, .int .u64 (num : Int), .int .i64 int, .slice Ab n cb, .string t, .int .i64 most] 53)) = w1 at *
  refine (Num_wn H1.out.wn num hnum).mono ?_
  rintro e w2 ⟨rfl, hq⟩
  have X2 := box_kept H.out G.out X.out hq.chg_
  have k1 : w2.cell? ⟨g, 1, none⟩ = some (.int .u64 (num : Int)) := X2.cell 1
  have HQ := Lib.hid hq
  have HR := Lib.hid (H1.out.mid hq)
  clear X2 hq
  go_wp2_with fail
  refine (rNum_any HR.out num hnum).mono ?_
  rintro e w3 ⟨rfl, hr⟩
  
  have HP := Lib.hid (H1.out.step HQ.out hr)
  clear hr
  go_wp2
  go_ret
  obtain ⟨A', c', A2', c2', hp⟩ := HP.out
  exact ⟨rfl, A', c', A2', c2', _, hp⟩

set_option maxRecDepth 100000 in
theorem lay7 {w0 w : World} {P A : Option Addr} {c q : Nat} {A2 : Option Addr} {c2 : Nat} {s : WrS} (h : PW w0 w P A c q A2 c2 s) (o : OpV) (ok : OpOk w0 o) (hT : U8T w0) (hk : o.kind = 7) :
    Calls Tryd.prog 26 #[.pointer P, .pointer (some ⟨q, 0, none⟩), o.val] w fun e w' => LayPost w0 w' e P q := by
  obtain ⟨kind, num, int, Ab, n, cb, b, t, most⟩ := o
  simp only at hk
  subst hk
  have hnum := ok.num
  have hi := ok.int
  simp only at hnum hi
  have H := Lib.hid h
  have OK := Lib.hid ok
  have HT := Lib.hid hT
  obtain ⟨g, hg⟩ : ∃ g, g = w.heap.size := ⟨_, rfl⟩
  have X := Lib.hid (Blk.new w (OpV.cells ⟨7, num, int, Ab, n, cb, b, t, most⟩) 53)
  have H1 := Lib.hid (h.below (below1 w (.cells (OpV.cells ⟨7, num, int, Ab, n, cb, b, t, most⟩) 53)))
  rw [← hg] at X
  have G := Lib.hid hg
  clear h ok hT
  unfold OpV.cells at X H1
  unfold OpV.val
  simp only at X H1 ⊢
  go_enter Tryd.func26, Tryd.ntmps26
  go_wp2_with fail
  rw [← hg]
  clear hg
  generalize (w.alloc (.cells #[.int .i64 7, .int .u64 (num : Int), .int .i64 int, .slice Ab n cb, .string t, .int .i64 most] 53)) = w1 at *
  refine (Count_wn H1.out.wn int most hi).mono ?_
  rintro e w2 ⟨rfl, hq⟩
  have X2 := box_kept H.out G.out X.out hq.chg_
  have k2 : w2.cell? ⟨g, 2, none⟩ = some (.int .i64 int) := X2.cell 2
  have k5 : w2.cell? ⟨g, 5, none⟩ = some (.int .i64 most) := X2.cell 5
  have HQ := Lib.hid hq
  have HR := Lib.hid (H1.out.mid hq)
  clear X2 hq
  go_wp2_with fail
  refine (rCount_any HR.out int most hi).mono ?_
  rintro e w3 ⟨rfl, hr⟩
  
  have HP := Lib.hid (H1.out.step HQ.out hr)
  clear hr
  go_wp2
  go_ret
  obtain ⟨A', c', A2', c2', hp⟩ := HP.out
  exact ⟨rfl, A', c', A2', c2', _, hp⟩

set_option maxRecDepth 100000 in
theorem lay9 {w0 w : World} {P A : Option Addr} {c q : Nat} {A2 : Option Addr} {c2 : Nat} {s : WrS} (h : PW w0 w P A c q A2 c2 s) (o : OpV) (ok : OpOk w0 o) (hT : U8T w0) (hk : o.kind = 9) :
    Calls Tryd.prog 26 #[.pointer P, .pointer (some ⟨q, 0, none⟩), o.val] w fun e w' => LayPost w0 w' e P q := by
  obtain ⟨kind, num, int, Ab, n, cb, b, t, most⟩ := o
  simp only at hk
  subst hk
  have hnum := ok.num
  have hi := ok.int
  simp only at hnum hi
  have H := Lib.hid h
  have OK := Lib.hid ok
  have HT := Lib.hid hT
  obtain ⟨g, hg⟩ : ∃ g, g = w.heap.size := ⟨_, rfl⟩
  have X := Lib.hid (Blk.new w (OpV.cells ⟨9, num, int, Ab, n, cb, b, t, most⟩) 53)
  have H1 := Lib.hid (h.below (below1 w (.cells (OpV.cells ⟨9, num, int, Ab, n, cb, b, t, most⟩) 53)))
  rw [← hg] at X
  have G := Lib.hid hg
  clear h ok hT
  unfold OpV.cells at X H1
  unfold OpV.val
  simp only at X H1 ⊢
  go_enter Tryd.func26, Tryd.ntmps26
  go_wp2_with fail
  rw [← hg]
  clear hg
  generalize (w.alloc (.cells #[.int .i64 9, .int .u64 (num : Int), .int .i64 int, .slice Ab n cb, .string t, .int .i64 most] 53)) = w1 at *
  refine (Text_wn H1.out.wn t most (HT.out.below H1.out.bel) (by have := OK.out.s; simp only at this; omega)).mono ?_
  rintro e w2 ⟨rfl, hq⟩
  have X2 := box_kept H.out G.out X.out hq.chg_
  have k4 : w2.cell? ⟨g, 4, none⟩ = some (.string t) := X2.cell 4
  have k5 : w2.cell? ⟨g, 5, none⟩ = some (.int .i64 most) := X2.cell 5
  have HQ := Lib.hid hq
  have HR := Lib.hid (H1.out.mid hq)
  clear X2 hq
  go_wp2_with fail
  refine (rText_any HR.out t most (by have := OK.out.s; simp only at this; omega)).mono ?_
  rintro e w3 ⟨rfl, hr⟩
  
  have HP := Lib.hid (H1.out.step HQ.out hr)
  clear hr
  go_wp2
  go_ret
  obtain ⟨A', c', A2', c2', hp⟩ := HP.out
  exact ⟨rfl, A', c', A2', c2', _, hp⟩
end Go.Proofs.YtbhmnkpbaeemeaaDoor
