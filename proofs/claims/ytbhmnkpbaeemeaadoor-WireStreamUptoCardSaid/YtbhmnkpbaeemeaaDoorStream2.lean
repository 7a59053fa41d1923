import Derived.Test.YtbhmnkpbaeemeaaDoorStream1
set_option linter.unusedVariables false
set_option linter.unusedSimpArgs false
namespace Go.Proofs.YtbhmnkpbaeemeaaDoor
open Go.RowKit

def PutPost (w0 : World) (p : Nat) (bf : List UInt8) (l : List Ch) (e : Ending) (w' : World) : Prop :=
  e = .returned (.tuple #[]) ∧ ∃ A' c', Sep w0 w' (cWr p A' c' (gW bf) :: l)
def TakePost (w0 : World) (P A : Option Addr) (c : Nat) (s : RdS) (l : List Ch) (e : Ending) (w' : World) : Prop :=
  e = .returned (.bool true) ∧ Sep w0 w' (cRN P A c s :: l)
section
variable {w0 w w' : World} {P A : Option Addr} {c : Nat} {s : RdS} {l : List Ch} {p q : Nat} {bf : List UInt8} {a : Ch}
theorem U8_z' {s : WrS} (h : Wr w p A c s) (z : Int) (h0 : 0 ≤ z) (h1 : z < 256) : Calls Tryd.prog 63 #[.pointer (some ⟨p, 0, none⟩), .int .u8 z] w fun e w' => e = .returned (.tuple #[]) ∧ WrPost w w' p A (s.lay 0 [u8of z]) := by
  have := U8_any h (u8of z)
  rw [u8of_toNat h0 h1] at this
  exact this
/-- A field laid down: the writer first, the box beside it. -/
theorem put_done {e : Ending} (S : Sep w0 w (cWr p A c (gW bf) :: a :: l)) (xs : List UInt8) (hf : bf.length + xs.length ≤ 65507) (he : e = .returned (.tuple #[])) (h : WrPost w w' p A ((gW bf).lay 0 xs)) : PutPost w0 p (bf ++ xs) l e w' := by
  rw [gW_lay _ _ hf] at h
  obtain ⟨A', c', S'⟩ := S.wr h
  exact ⟨he, A', c', S'.d1⟩


set_option maxRecDepth 100000 in
set_option maxHeartbeats 800000 in
theorem put1 (S : Sep w0 w (cWr p A c (gW bf) :: l)) (o : OpV) (ok : OpOk w0 o) (hT : U8T w0) (hok : okO o = true) (hf : bf.length + (encO o).length ≤ 65507) (hk : o.kind = 1) :
    Calls Tryd.prog 37 #[.pointer (some ⟨p, 0, none⟩), o.val] w (PutPost w0 p (bf ++ encO o) l) := by
  obtain ⟨kind, num, int, Ab, n, cb, b, t, most⟩ := o
  simp only at hk
  subst hk
  have hnum := ok.num
  have hi := ok.int
  have hn := ok.n
  have hs := ok.s
  have hmost := ok.most
  have HRB := Lib.hid ok.rd
  have HT := Lib.hid hT
  simp only at hnum hi hn hs hmost HRB
  have he : encO ⟨1, num, int, Ab, n, cb, b, t, most⟩ = [u8of ((num : Int) % 256)] := by simp [encO]
  rw [he] at hf ⊢
  have HF := Lib.hid hf
  obtain ⟨g, hg⟩ : ∃ g, g = w.heap.size := ⟨_, rfl⟩
  have X := Lib.hid (S.box (OpV.cells ⟨1, num, int, Ab, n, cb, b, t, most⟩) 53).fr1
  rw [← hg] at X
  clear S ok hT he hok hf
  unfold PutPost
  unfold OpV.cells at X
  unfold OpV.val
  simp only at X ⊢
  have hw16 : IntKind.u16.wrap (num : Int) = (num : Int) % 65536 := by simp [IntKind.wrap, IntKind.signed, IntKind.bits]
  have hw32 : IntKind.u32.wrap (num : Int) = (num : Int) % 4294967296 := by simp [IntKind.wrap, IntKind.signed, IntKind.bits]
  go_enter Tryd.func37, Tryd.ntmps37
  go_wp2_with fail
  rw [← hg]
  clear hg
  generalize (w.alloc (.cells #[.int .i64 1, .int .u64 (num : Int), .int .i64 int, .slice Ab n cb, .string t, .int .i64 most] 53)) = w1 at *
  have XW : Wr w1 p A c (gW bf) := X.out.h0
  refine (U8_z' XW _ (by omega) (by omega)).mono ?_
  rintro e w2 ⟨rfl, hq⟩
  have HQ := Lib.hid hq
  clear hq XW
  go_wp2
  go_returns
  exact put_done X.out _ HF.out rfl HQ.out

set_option maxRecDepth 100000 in
set_option maxHeartbeats 800000 in
theorem put2 (S : Sep w0 w (cWr p A c (gW bf) :: l)) (o : OpV) (ok : OpOk w0 o) (hT : U8T w0) (hok : okO o = true) (hf : bf.length + (encO o).length ≤ 65507) (hk : o.kind = 2) :
    Calls Tryd.prog 37 #[.pointer (some ⟨p, 0, none⟩), o.val] w (PutPost w0 p (bf ++ encO o) l) := by
  obtain ⟨kind, num, int, Ab, n, cb, b, t, most⟩ := o
  simp only at hk
  subst hk
  have hnum := ok.num
  have hi := ok.int
  have hn := ok.n
  have hs := ok.s
  have hmost := ok.most
  have HRB := Lib.hid ok.rd
  have HT := Lib.hid hT
  simp only at hnum hi hn hs hmost HRB
  have he : encO ⟨2, num, int, Ab, n, cb, b, t, most⟩ = big2 ((num : Int) % 65536) := by simp [encO]
  rw [he] at hf ⊢
  have HF := Lib.hid hf
  obtain ⟨g, hg⟩ : ∃ g, g = w.heap.size := ⟨_, rfl⟩
  have X := Lib.hid (S.box (OpV.cells ⟨2, num, int, Ab, n, cb, b, t, most⟩) 53).fr1
  rw [← hg] at X
  clear S ok hT he hok hf
  unfold PutPost
  unfold OpV.cells at X
  unfold OpV.val
  simp only at X ⊢
  have hw16 : IntKind.u16.wrap (num : Int) = (num : Int) % 65536 := by simp [IntKind.wrap, IntKind.signed, IntKind.bits]
  have hw32 : IntKind.u32.wrap (num : Int) = (num : Int) % 4294967296 := by simp [IntKind.wrap, IntKind.signed, IntKind.bits]
  go_enter Tryd.func37, Tryd.ntmps37
  go_wp2_with fail
  rw [← hg]
  clear hg
  generalize (w.alloc (.cells #[.int .i64 2, .int .u64 (num : Int), .int .i64 int, .slice Ab n cb, .string t, .int .i64 most] 53)) = w1 at *
  have XW : Wr w1 p A c (gW bf) := X.out.h0
  refine (U16_any XW _ (by omega) (by omega)).mono ?_
  rintro e w2 ⟨rfl, hq⟩
  have HQ := Lib.hid hq
  clear hq XW
  go_wp2
  go_returns
  exact put_done X.out _ HF.out rfl HQ.out

set_option maxRecDepth 100000 in
set_option maxHeartbeats 800000 in
theorem put3 (S : Sep w0 w (cWr p A c (gW bf) :: l)) (o : OpV) (ok : OpOk w0 o) (hT : U8T w0) (hok : okO o = true) (hf : bf.length + (encO o).length ≤ 65507) (hk : o.kind = 3) :
    Calls Tryd.prog 37 #[.pointer (some ⟨p, 0, none⟩), o.val] w (PutPost w0 p (bf ++ encO o) l) := by
  obtain ⟨kind, num, int, Ab, n, cb, b, t, most⟩ := o
  simp only at hk
  subst hk
  have hnum := ok.num
  have hi := ok.int
  have hn := ok.n
  have hs := ok.s
  have hmost := ok.most
  have HRB := Lib.hid ok.rd
  have HT := Lib.hid hT
  simp only at hnum hi hn hs hmost HRB
  have he : encO ⟨3, num, int, Ab, n, cb, b, t, most⟩ = big4 ((num : Int) % 4294967296) := by simp [encO]
  rw [he] at hf ⊢
  have HF := Lib.hid hf
  obtain ⟨g, hg⟩ : ∃ g, g = w.heap.size := ⟨_, rfl⟩
  have X := Lib.hid (S.box (OpV.cells ⟨3, num, int, Ab, n, cb, b, t, most⟩) 53).fr1
  rw [← hg] at X
  clear S ok hT he hok hf
  unfold PutPost
  unfold OpV.cells at X
  unfold OpV.val
  simp only at X ⊢
  have hw16 : IntKind.u16.wrap (num : Int) = (num : Int) % 65536 := by simp [IntKind.wrap, IntKind.signed, IntKind.bits]
  have hw32 : IntKind.u32.wrap (num : Int) = (num : Int) % 4294967296 := by simp [IntKind.wrap, IntKind.signed, IntKind.bits]
  go_enter Tryd.func37, Tryd.ntmps37
  go_wp2_with fail
  rw [← hg]
  clear hg
  generalize (w.alloc (.cells #[.int .i64 3, .int .u64 (num : Int), .int .i64 int, .slice Ab n cb, .string t, .int .i64 most] 53)) = w1 at *
  have XW : Wr w1 p A c (gW bf) := X.out.h0
  refine (U32_any XW _ (by omega) (by omega)).mono ?_
  rintro e w2 ⟨rfl, hq⟩
  have HQ := Lib.hid hq
  clear hq XW
  go_wp2
  go_returns
  exact put_done X.out _ HF.out rfl HQ.out

set_option maxRecDepth 100000 in
set_option maxHeartbeats 800000 in
theorem put4 (S : Sep w0 w (cWr p A c (gW bf) :: l)) (o : OpV) (ok : OpOk w0 o) (hT : U8T w0) (hok : okO o = true) (hf : bf.length + (encO o).length ≤ 65507) (hk : o.kind = 4) :
    Calls Tryd.prog 37 #[.pointer (some ⟨p, 0, none⟩), o.val] w (PutPost w0 p (bf ++ encO o) l) := by
  obtain ⟨kind, num, int, Ab, n, cb, b, t, most⟩ := o
  simp only at hk
  subst hk
  have hnum := ok.num
  have hi := ok.int
  have hn := ok.n
  have hs := ok.s
  have hmost := ok.most
  have HRB := Lib.hid ok.rd
  have HT := Lib.hid hT
  simp only at hnum hi hn hs hmost HRB
  have he : encO ⟨4, num, int, Ab, n, cb, b, t, most⟩ = big8 (num : Int) := by simp [encO]
  rw [he] at hf ⊢
  have HF := Lib.hid hf
  obtain ⟨g, hg⟩ : ∃ g, g = w.heap.size := ⟨_, rfl⟩
  have X := Lib.hid (S.box (OpV.cells ⟨4, num, int, Ab, n, cb, b, t, most⟩) 53).fr1
  rw [← hg] at X
  clear S ok hT he hok hf
  unfold PutPost
  unfold OpV.cells at X
  unfold OpV.val
  simp only at X ⊢
  have hw16 : IntKind.u16.wrap (num : Int) = (num : Int) % 65536 := by simp [IntKind.wrap, IntKind.signed, IntKind.bits]
  have hw32 : IntKind.u32.wrap (num : Int) = (num : Int) % 4294967296 := by simp [IntKind.wrap, IntKind.signed, IntKind.bits]
  go_enter Tryd.func37, Tryd.ntmps37
  go_wp2_with fail
  rw [← hg]
  clear hg
  generalize (w.alloc (.cells #[.int .i64 4, .int .u64 (num : Int), .int .i64 int, .slice Ab n cb, .string t, .int .i64 most] 53)) = w1 at *
  have XW : Wr w1 p A c (gW bf) := X.out.h0
  refine (U64_any XW _ (by omega) (by omega)).mono ?_
  rintro e w2 ⟨rfl, hq⟩
  have HQ := Lib.hid hq
  clear hq XW
  go_wp2
  go_returns
  exact put_done X.out _ HF.out rfl HQ.out

set_option maxRecDepth 100000 in
set_option maxHeartbeats 800000 in
theorem put5 (S : Sep w0 w (cWr p A c (gW bf) :: l)) (o : OpV) (ok : OpOk w0 o) (hT : U8T w0) (hok : okO o = true) (hf : bf.length + (encO o).length ≤ 65507) (hk : o.kind = 5) :
    Calls Tryd.prog 37 #[.pointer (some ⟨p, 0, none⟩), o.val] w (PutPost w0 p (bf ++ encO o) l) := by
  obtain ⟨kind, num, int, Ab, n, cb, b, t, most⟩ := o
  simp only at hk
  subst hk
  have hnum := ok.num
  have hi := ok.int
  have hn := ok.n
  have hs := ok.s
  have hmost := ok.most
  have HRB := Lib.hid ok.rd
  have HT := Lib.hid hT
  simp only at hnum hi hn hs hmost HRB
  have he : encO ⟨5, num, int, Ab, n, cb, b, t, most⟩ = numB num := by simp [encO]
  rw [he] at hf ⊢
  have HF := Lib.hid hf
  obtain ⟨g, hg⟩ : ∃ g, g = w.heap.size := ⟨_, rfl⟩
  have X := Lib.hid (S.box (OpV.cells ⟨5, num, int, Ab, n, cb, b, t, most⟩) 53).fr1
  rw [← hg] at X
  clear S ok hT he hok hf
  unfold PutPost
  unfold OpV.cells at X
  unfold OpV.val
  simp only at X ⊢
  have hw16 : IntKind.u16.wrap (num : Int) = (num : Int) % 65536 := by simp [IntKind.wrap, IntKind.signed, IntKind.bits]
  have hw32 : IntKind.u32.wrap (num : Int) = (num : Int) % 4294967296 := by simp [IntKind.wrap, IntKind.signed, IntKind.bits]
  go_enter Tryd.func37, Tryd.ntmps37
  go_wp2_with fail
  rw [← hg]
  clear hg
  generalize (w.alloc (.cells #[.int .i64 5, .int .u64 (num : Int), .int .i64 int, .slice Ab n cb, .string t, .int .i64 most] 53)) = w1 at *
  have XW : Wr w1 p A c (gW bf) := X.out.h0
  refine (Num_any XW num hnum).mono ?_
  rintro e w2 ⟨rfl, hq⟩
  have HQ := Lib.hid hq
  clear hq XW
  go_wp2
  go_returns
  exact put_done X.out _ HF.out rfl HQ.out

set_option maxRecDepth 100000 in
set_option maxHeartbeats 800000 in
theorem put6 (S : Sep w0 w (cWr p A c (gW bf) :: l)) (o : OpV) (ok : OpOk w0 o) (hT : U8T w0) (hok : okO o = true) (hf : bf.length + (encO o).length ≤ 65507) (hk : o.kind = 6) :
    Calls Tryd.prog 37 #[.pointer (some ⟨p, 0, none⟩), o.val] w (PutPost w0 p (bf ++ encO o) l) := by
  obtain ⟨kind, num, int, Ab, n, cb, b, t, most⟩ := o
  simp only at hk
  subst hk
  have hnum := ok.num
  have hi := ok.int
  have hn := ok.n
  have hs := ok.s
  have hmost := ok.most
  have HRB := Lib.hid ok.rd
  have HT := Lib.hid hT
  simp only at hnum hi hn hs hmost HRB
  have he : encO ⟨6, num, int, Ab, n, cb, b, t, most⟩ = [if num % 2 = 1 then 1 else 0] := by simp [encO]
  rw [he] at hf ⊢
  have HFL : Hid (∀ W, Wr W p A c (gW bf) → Calls Tryd.prog 77 #[.pointer (some ⟨p, 0, none⟩), .bool ((num : Int) % 2 == 1)] W fun e w' => e = .returned (.tuple #[]) ∧ WrPost W w' p A ((gW bf).lay 0 [if num % 2 = 1 then 1 else 0])) := fun W hW => by
    have := Flag_any hW ((num : Int) % 2 == 1)
    rw [show (if ((num : Int) % 2 == 1) = true then (1 : UInt8) else 0) = if num % 2 = 1 then 1 else 0 by (by_cases h : num % 2 = 1; (have h2 : ((num : Int) % 2 == 1) = true := by simp; omega); rw [h2]; simp [h]; (have h2 : ((num : Int) % 2 == 1) = false := by simp; omega); rw [h2]; simp [h])] at this
    exact this
  generalize (if num % 2 = 1 then (1 : UInt8) else 0) = fb at *
  have HF := Lib.hid hf
  obtain ⟨g, hg⟩ : ∃ g, g = w.heap.size := ⟨_, rfl⟩
  have X := Lib.hid (S.box (OpV.cells ⟨6, num, int, Ab, n, cb, b, t, most⟩) 53).fr1
  rw [← hg] at X
  clear S ok hT he hok hf
  unfold PutPost
  unfold OpV.cells at X
  unfold OpV.val
  simp only at X ⊢
  have hw16 : IntKind.u16.wrap (num : Int) = (num : Int) % 65536 := by simp [IntKind.wrap, IntKind.signed, IntKind.bits]
  have hw32 : IntKind.u32.wrap (num : Int) = (num : Int) % 4294967296 := by simp [IntKind.wrap, IntKind.signed, IntKind.bits]
  go_enter Tryd.func37, Tryd.ntmps37
  go_wp2_with fail
  rw [← hg]
  clear hg
  generalize (w.alloc (.cells #[.int .i64 6, .int .u64 (num : Int), .int .i64 int, .slice Ab n cb, .string t, .int .i64 most] 53)) = w1 at *
  have XW : Wr w1 p A c (gW bf) := X.out.h0
  refine (HFL.out _ XW).mono ?_
  rintro e w2 ⟨rfl, hq⟩
  have HQ := Lib.hid hq
  clear hq XW
  go_wp2
  go_returns
  exact put_done X.out _ HF.out rfl HQ.out

set_option maxRecDepth 100000 in
set_option maxHeartbeats 800000 in
theorem put7 (S : Sep w0 w (cWr p A c (gW bf) :: l)) (o : OpV) (ok : OpOk w0 o) (hT : U8T w0) (hok : okO o = true) (hf : bf.length + (encO o).length ≤ 65507) (hk : o.kind = 7) :
    Calls Tryd.prog 37 #[.pointer (some ⟨p, 0, none⟩), o.val] w (PutPost w0 p (bf ++ encO o) l) := by
  obtain ⟨kind, num, int, Ab, n, cb, b, t, most⟩ := o
  simp only at hk
  subst hk
  have hnum := ok.num
  have hi := ok.int
  have hn := ok.n
  have hs := ok.s
  have hmost := ok.most
  have HRB := Lib.hid ok.rd
  have HT := Lib.hid hT
  simp only at hnum hi hn hs hmost HRB
  have he : encO ⟨7, num, int, Ab, n, cb, b, t, most⟩ = numB int.toNat := by simp [encO]
  rw [he] at hf ⊢
  simp only [okO] at hok
  simp at hok
  have HC : Hid (∀ W, Wr W p A c (gW bf) → Calls Tryd.prog 79 #[.pointer (some ⟨p, 0, none⟩), .int .i64 int, .int .i64 most] W fun e w' => e = .returned (.tuple #[]) ∧ WrPost W w' p A ((gW bf).lay 0 (numB int.toNat))) := fun W hW => by
    have := Count_any hW int most hi
    rw [show (gW bf).count int most = (gW bf).lay 0 (numB int.toNat) by unfold WrS.count; rw [if_neg (by omega)]] at this
    exact this
  have HF := Lib.hid hf
  obtain ⟨g, hg⟩ : ∃ g, g = w.heap.size := ⟨_, rfl⟩
  have X := Lib.hid (S.box (OpV.cells ⟨7, num, int, Ab, n, cb, b, t, most⟩) 53).fr1
  rw [← hg] at X
  clear S ok hT he hok hf
  unfold PutPost
  unfold OpV.cells at X
  unfold OpV.val
  simp only at X ⊢
  have hw16 : IntKind.u16.wrap (num : Int) = (num : Int) % 65536 := by simp [IntKind.wrap, IntKind.signed, IntKind.bits]
  have hw32 : IntKind.u32.wrap (num : Int) = (num : Int) % 4294967296 := by simp [IntKind.wrap, IntKind.signed, IntKind.bits]
  go_enter Tryd.func37, Tryd.ntmps37
  go_wp2_with fail
  rw [← hg]
  clear hg
  generalize (w.alloc (.cells #[.int .i64 7, .int .u64 (num : Int), .int .i64 int, .slice Ab n cb, .string t, .int .i64 most] 53)) = w1 at *
  have XW : Wr w1 p A c (gW bf) := X.out.h0
  refine (HC.out _ XW).mono ?_
  rintro e w2 ⟨rfl, hq⟩
  have HQ := Lib.hid hq
  clear hq XW
  go_wp2
  go_returns
  exact put_done X.out _ HF.out rfl HQ.out

set_option maxRecDepth 100000 in
set_option maxHeartbeats 800000 in
theorem put9 (S : Sep w0 w (cWr p A c (gW bf) :: l)) (o : OpV) (ok : OpOk w0 o) (hT : U8T w0) (hok : okO o = true) (hf : bf.length + (encO o).length ≤ 65507) (hk : o.kind = 9) :
    Calls Tryd.prog 37 #[.pointer (some ⟨p, 0, none⟩), o.val] w (PutPost w0 p (bf ++ encO o) l) := by
  obtain ⟨kind, num, int, Ab, n, cb, b, t, most⟩ := o
  simp only at hk
  subst hk
  have hnum := ok.num
  have hi := ok.int
  have hn := ok.n
  have hs := ok.s
  have hmost := ok.most
  have HRB := Lib.hid ok.rd
  have HT := Lib.hid hT
  simp only at hnum hi hn hs hmost HRB
  have he : encO ⟨9, num, int, Ab, n, cb, b, t, most⟩ = numB t.size ++ t.data.toList := by simp [encO]
  rw [he] at hf ⊢
  simp only [okO] at hok
  simp at hok
  have HC : Hid (∀ W, Wr W p A c (gW bf) → Below w0.heap.size w0 W → Calls Tryd.prog 83 #[.pointer (some ⟨p, 0, none⟩), .string t, .int .i64 most] W fun e w' => e = .returned (.tuple #[]) ∧ WrPost W w' p A ((gW bf).lay 0 (numB t.size ++ t.data.toList))) := fun W hW hB => by
    have := Text_any hW t most (HT.out.below hB) (by omega)
    rw [show (gW bf).text t.data.toList most = (gW bf).lay 0 (numB t.size ++ t.data.toList) by
      unfold WrS.text
      have hl : t.data.toList.length = t.size := by simp
      rw [if_neg (by omega), if_neg (by rw [asc_valid _ hok.2]; decide), hl]] at this
    exact this
  have HF := Lib.hid hf
  obtain ⟨g, hg⟩ : ∃ g, g = w.heap.size := ⟨_, rfl⟩
  have X := Lib.hid (S.box (OpV.cells ⟨9, num, int, Ab, n, cb, b, t, most⟩) 53).fr1
  rw [← hg] at X
  clear S ok hT he hok hf
  unfold PutPost
  unfold OpV.cells at X
  unfold OpV.val
  simp only at X ⊢
  have hw16 : IntKind.u16.wrap (num : Int) = (num : Int) % 65536 := by simp [IntKind.wrap, IntKind.signed, IntKind.bits]
  have hw32 : IntKind.u32.wrap (num : Int) = (num : Int) % 4294967296 := by simp [IntKind.wrap, IntKind.signed, IntKind.bits]
  go_enter Tryd.func37, Tryd.ntmps37
  go_wp2_with fail
  rw [← hg]
  clear hg
  generalize (w.alloc (.cells #[.int .i64 9, .int .u64 (num : Int), .int .i64 int, .slice Ab n cb, .string t, .int .i64 most] 53)) = w1 at *
  have XW : Wr w1 p A c (gW bf) := X.out.h0
  refine (HC.out _ XW X.out.bel).mono ?_
  rintro e w2 ⟨rfl, hq⟩
  have HQ := Lib.hid hq
  clear hq XW
  go_wp2
  go_returns
  exact put_done X.out _ HF.out rfl HQ.out

set_option maxRecDepth 100000 in
set_option maxHeartbeats 800000 in
theorem put8 (S : Sep w0 w (cWr p A c (gW bf) :: l)) (o : OpV) (ok : OpOk w0 o) (hT : U8T w0) (hok : okO o = true) (hf : bf.length + (encO o).length ≤ 65507) (hk : o.kind = 8) :
    Calls Tryd.prog 37 #[.pointer (some ⟨p, 0, none⟩), o.val] w (PutPost w0 p (bf ++ encO o) l) := by
  obtain ⟨kind, num, int, Ab, n, cb, b, t, most⟩ := o
  simp only at hk
  subst hk
  have hnum := ok.num
  have hi := ok.int
  have hn := ok.n
  have hs := ok.s
  have hmost := ok.most
  have HRB := Lib.hid ok.rd
  have HT := Lib.hid hT
  simp only at hnum hi hn hs hmost HRB
  have he : encO ⟨8, num, int, Ab, n, cb, b, t, most⟩ = numB b.length ++ b := by simp [encO]
  rw [he] at hf ⊢
  simp only [okO] at hok
  simp at hok
  have HC : Hid (∀ W A' c', Wr W p A c (gW bf) → Rd W A' n c' b → (0 < n → ∀ k, inA A' k → ¬ wrF p A k) → Calls Tryd.prog 81 #[.pointer (some ⟨p, 0, none⟩), .slice A' n c', .int .i64 most] W fun e w' => e = .returned (.tuple #[]) ∧ WrPost W w' p A ((gW bf).lay 0 (numB b.length ++ b))) := fun W A' c' hW hR hN => by
    have := Blob_any hW A' n c' b most hR hN (by omega)
    rw [show (gW bf).blob b most = (gW bf).lay 0 (numB b.length ++ b) by unfold WrS.blob; rw [if_neg (by omega)]] at this
    exact this
  have HF := Lib.hid hf
  obtain ⟨g, hg⟩ : ∃ g, g = w.heap.size := ⟨_, rfl⟩
  have X := Lib.hid (S.box (OpV.cells ⟨8, num, int, Ab, n, cb, b, t, most⟩) 53).fr1
  rw [← hg] at X
  clear S ok hT he hok hf
  unfold PutPost
  unfold OpV.cells at X
  unfold OpV.val
  simp only at X ⊢
  have hw16 : IntKind.u16.wrap (num : Int) = (num : Int) % 65536 := by simp [IntKind.wrap, IntKind.signed, IntKind.bits]
  have hw32 : IntKind.u32.wrap (num : Int) = (num : Int) % 4294967296 := by simp [IntKind.wrap, IntKind.signed, IntKind.bits]
  go_enter Tryd.func37, Tryd.ntmps37
  go_wp2_with fail
  rw [← hg]
  clear hg
  generalize (w.alloc (.cells #[.int .i64 8, .int .u64 (num : Int), .int .i64 int, .slice Ab n cb, .string t, .int .i64 most] 53)) = w1 at *
  have XB : Blk w1 g _ _ := X.out.h1
  have k3 : w1.cell? ⟨g, 3, none⟩ = some (.slice Ab n cb) := XB.cell 3
  have k5 : w1.cell? ⟨g, 5, none⟩ = some (.int .i64 most) := XB.cell 5
  have hn9 : n ≤ 999999000 := by omega
  have XL := Lib.hid (lend_any w1.drew Ab n cb b (X.out.drew.rd HRB.out) hn9)
  have hbl := HRB.out.len
  have HBL := Lib.hid hbl
  clear XB hbl
  go_wp2
  go_region_with first | (go_at_call 13; refine XL.out.mono ?_; rintro e w2 ⟨A3, c3, rfl, ho, hb⟩; have S2 := Lib.hid (X.out.drew.pushO hb ho); have XB : Blk w2 g _ _ := S2.out.h2; have k5' : w2.cell? ⟨g, 5, none⟩ = some (.int .i64 most) := XB.cell 5; clear XB ho hb) | (go_at_call 81; refine (HC.out w2 A3 c3 S2.out.h1 ((Ob.rd S2.out.h0).front HBL.out) (fun _ k hk => (List.pairwise_cons.1 S2.out.sep).1 _ (.head _) k hk)).mono ?_; rintro e w3 ⟨rfl, hq⟩; have HQ := Lib.hid hq; clear hq)
  all_goals
    go_wp2
    go_returns
    exact put_done S2.out.tail _ HF.out rfl HQ.out
end
end Go.Proofs.YtbhmnkpbaeemeaaDoor
