import Derived.Test.YtbhmnkpbaeemeaaDoorW50
set_option linter.unusedVariables false
set_option linter.unusedSimpArgs false
namespace Go.Proofs.YtbhmnkpbaeemeaaDoor
open Go.RowKit

/-- What a call of read leaves. -/
def ReadPost (w0 : World) (P A : Option Addr) (c q : Nat) (A2 : Option Addr) (c2 : Nat) (s : RdS) (l : List Ch) (e : Ending) (w' : World) : Prop :=
  e = .returned (.bool true) ∧ ∃ s', s'.buf = s.buf ∧ Sep w0 w' (cRN P A c s' :: cRr q A2 c2 s' :: l)

section
variable {w0 w w' : World} {P A : Option Addr} {c : Nat} {A2 : Option Addr} {c2 : Nat} {s s' : RdS} {l : List Ch} {p q : Nat}
theorem buf_sumS (s : RdS) (n : Nat) : (s.sumS n).buf = s.buf := by unfold RdS.sumS; split <;> (first | rfl | (split <;> rfl))
theorem buf_numS (s : RdS) : s.numS.buf = s.buf := by unfold RdS.numS; split <;> (first | rfl | (split <;> rfl))
theorem buf_flagS (s : RdS) : s.flagS.buf = s.buf := by
  unfold RdS.flagS
  split
  · rfl
  · split
    · rfl
    · exact buf_sumS s 1
theorem buf_countS (s : RdS) (m : Int) : (s.countS m).buf = s.buf := by
  unfold RdS.countS
  repeat' (first | rfl | split)
theorem buf_blobS (s : RdS) (m : Int) : (s.blobS m).buf = s.buf := by
  unfold RdS.blobS
  repeat' (first | rfl | split)
theorem buf_textS (s : RdS) (m : Int) : (s.textS m).buf = s.buf := by
  unfold RdS.textS
  repeat' (first | rfl | split)
theorem readBack {a : Ch} {l' : List Ch} (S : Sep w0 w (a :: l')) : Sep w0 w l' := S.tail


set_option maxRecDepth 100000 in
set_option maxHeartbeats 1600000 in
theorem read1 (S : Sep w0 w (cRN P A c s :: cRr q A2 c2 s :: l)) (o : OpV) (ok : OpOk w0 o) (hT : U8T w0) (hb : s.buf.length ≤ 2000000) (hk : o.kind = 1) :
    Calls Tryd.prog 31 #[.pointer P, .pointer (some ⟨q, 0, none⟩), o.val] w (ReadPost w0 P A c q A2 c2 s l) := by
  obtain ⟨kind, num, int, Ab, n, cb, b, t, most⟩ := o
  simp only at hk
  subst hk
  have hmost := ok.most
  simp only at hmost
  have HT := Lib.hid hT
  have X := Lib.hid (S.box (OpV.cells ⟨1, num, int, Ab, n, cb, b, t, most⟩) 53)
  obtain ⟨g, hg⟩ : ∃ g, g = w.heap.size := ⟨_, rfl⟩
  rw [← hg] at X
  clear S ok hT
  unfold ReadPost
  unfold OpV.cells at X
  unfold OpV.val
  simp only at X ⊢
  go_enter Tryd.func31, Tryd.ntmps31
  go_wp2_with fail
  rw [← hg]
  clear hg
  generalize (w.alloc (.cells #[.int .i64 1, .int .u64 (num : Int), .int .i64 int, .slice Ab n cb, .string t, .int .i64 most] 53)) = w1 at *
  have X1 : Blk w1 g _ _ := X.out.h0
  have k0 : w1.cell? ⟨g, 0, none⟩ = some (.int .i64 1) := X1.cell 0
  clear X1
  first
  | refine (readFixed1 X.out.tail).mono ?_
    rintro e w2 ⟨rfl, hS⟩
    go_wp2
    go_ret
    exact ⟨rfl, _, buf_sumS _ _, hS⟩
  | (go_wp2_with fail
     refine (readFixed1 X.out.tail).mono ?_
     rintro e w2 ⟨rfl, hS⟩
     go_wp2
     go_ret
     exact ⟨rfl, _, buf_sumS _ _, hS⟩)

set_option maxRecDepth 100000 in
set_option maxHeartbeats 1600000 in
theorem read2 (S : Sep w0 w (cRN P A c s :: cRr q A2 c2 s :: l)) (o : OpV) (ok : OpOk w0 o) (hT : U8T w0) (hb : s.buf.length ≤ 2000000) (hk : o.kind = 2) :
    Calls Tryd.prog 31 #[.pointer P, .pointer (some ⟨q, 0, none⟩), o.val] w (ReadPost w0 P A c q A2 c2 s l) := by
  obtain ⟨kind, num, int, Ab, n, cb, b, t, most⟩ := o
  simp only at hk
  subst hk
  have hmost := ok.most
  simp only at hmost
  have HT := Lib.hid hT
  have X := Lib.hid (S.box (OpV.cells ⟨2, num, int, Ab, n, cb, b, t, most⟩) 53)
  obtain ⟨g, hg⟩ : ∃ g, g = w.heap.size := ⟨_, rfl⟩
  rw [← hg] at X
  clear S ok hT
  unfold ReadPost
  unfold OpV.cells at X
  unfold OpV.val
  simp only at X ⊢
  go_enter Tryd.func31, Tryd.ntmps31
  go_wp2_with fail
  rw [← hg]
  clear hg
  generalize (w.alloc (.cells #[.int .i64 2, .int .u64 (num : Int), .int .i64 int, .slice Ab n cb, .string t, .int .i64 most] 53)) = w1 at *
  have X1 : Blk w1 g _ _ := X.out.h0
  have k0 : w1.cell? ⟨g, 0, none⟩ = some (.int .i64 2) := X1.cell 0
  clear X1
  first
  | refine (readFixed2 X.out.tail).mono ?_
    rintro e w2 ⟨rfl, hS⟩
    go_wp2
    go_ret
    exact ⟨rfl, _, buf_sumS _ _, hS⟩
  | (go_wp2_with fail
     refine (readFixed2 X.out.tail).mono ?_
     rintro e w2 ⟨rfl, hS⟩
     go_wp2
     go_ret
     exact ⟨rfl, _, buf_sumS _ _, hS⟩)

set_option maxRecDepth 100000 in
set_option maxHeartbeats 1600000 in
theorem read3 (S : Sep w0 w (cRN P A c s :: cRr q A2 c2 s :: l)) (o : OpV) (ok : OpOk w0 o) (hT : U8T w0) (hb : s.buf.length ≤ 2000000) (hk : o.kind = 3) :
    Calls Tryd.prog 31 #[.pointer P, .pointer (some ⟨q, 0, none⟩), o.val] w (ReadPost w0 P A c q A2 c2 s l) := by
  obtain ⟨kind, num, int, Ab, n, cb, b, t, most⟩ := o
  simp only at hk
  subst hk
  have hmost := ok.most
  simp only at hmost
  have HT := Lib.hid hT
  have X := Lib.hid (S.box (OpV.cells ⟨3, num, int, Ab, n, cb, b, t, most⟩) 53)
  obtain ⟨g, hg⟩ : ∃ g, g = w.heap.size := ⟨_, rfl⟩
  rw [← hg] at X
  clear S ok hT
  unfold ReadPost
  unfold OpV.cells at X
  unfold OpV.val
  simp only at X ⊢
  go_enter Tryd.func31, Tryd.ntmps31
  go_wp2_with fail
  rw [← hg]
  clear hg
  generalize (w.alloc (.cells #[.int .i64 3, .int .u64 (num : Int), .int .i64 int, .slice Ab n cb, .string t, .int .i64 most] 53)) = w1 at *
  have X1 : Blk w1 g _ _ := X.out.h0
  have k0 : w1.cell? ⟨g, 0, none⟩ = some (.int .i64 3) := X1.cell 0
  clear X1
  first
  | refine (readFixed3 X.out.tail).mono ?_
    rintro e w2 ⟨rfl, hS⟩
    go_wp2
    go_ret
    exact ⟨rfl, _, buf_sumS _ _, hS⟩
  | (go_wp2_with fail
     refine (readFixed3 X.out.tail).mono ?_
     rintro e w2 ⟨rfl, hS⟩
     go_wp2
     go_ret
     exact ⟨rfl, _, buf_sumS _ _, hS⟩)

set_option maxRecDepth 100000 in
set_option maxHeartbeats 1600000 in
theorem read4 (S : Sep w0 w (cRN P A c s :: cRr q A2 c2 s :: l)) (o : OpV) (ok : OpOk w0 o) (hT : U8T w0) (hb : s.buf.length ≤ 2000000) (hk : o.kind = 4) :
    Calls Tryd.prog 31 #[.pointer P, .pointer (some ⟨q, 0, none⟩), o.val] w (ReadPost w0 P A c q A2 c2 s l) := by
  obtain ⟨kind, num, int, Ab, n, cb, b, t, most⟩ := o
  simp only at hk
  subst hk
  have hmost := ok.most
  simp only at hmost
  have HT := Lib.hid hT
  have X := Lib.hid (S.box (OpV.cells ⟨4, num, int, Ab, n, cb, b, t, most⟩) 53)
  obtain ⟨g, hg⟩ : ∃ g, g = w.heap.size := ⟨_, rfl⟩
  rw [← hg] at X
  clear S ok hT
  unfold ReadPost
  unfold OpV.cells at X
  unfold OpV.val
  simp only at X ⊢
  go_enter Tryd.func31, Tryd.ntmps31
  go_wp2_with fail
  rw [← hg]
  clear hg
  generalize (w.alloc (.cells #[.int .i64 4, .int .u64 (num : Int), .int .i64 int, .slice Ab n cb, .string t, .int .i64 most] 53)) = w1 at *
  have X1 : Blk w1 g _ _ := X.out.h0
  have k0 : w1.cell? ⟨g, 0, none⟩ = some (.int .i64 4) := X1.cell 0
  clear X1
  first
  | refine (readFixed4 X.out.tail).mono ?_
    rintro e w2 ⟨rfl, hS⟩
    go_wp2
    go_ret
    exact ⟨rfl, _, buf_sumS _ _, hS⟩
  | (go_wp2_with fail
     refine (readFixed4 X.out.tail).mono ?_
     rintro e w2 ⟨rfl, hS⟩
     go_wp2
     go_ret
     exact ⟨rfl, _, buf_sumS _ _, hS⟩)

set_option maxRecDepth 100000 in
set_option maxHeartbeats 1600000 in
theorem read5 (S : Sep w0 w (cRN P A c s :: cRr q A2 c2 s :: l)) (o : OpV) (ok : OpOk w0 o) (hT : U8T w0) (hb : s.buf.length ≤ 2000000) (hk : o.kind = 5) :
    Calls Tryd.prog 31 #[.pointer P, .pointer (some ⟨q, 0, none⟩), o.val] w (ReadPost w0 P A c q A2 c2 s l) := by
  obtain ⟨kind, num, int, Ab, n, cb, b, t, most⟩ := o
  simp only at hk
  subst hk
  have hmost := ok.most
  simp only at hmost
  have HT := Lib.hid hT
  have X := Lib.hid (S.box (OpV.cells ⟨5, num, int, Ab, n, cb, b, t, most⟩) 53)
  obtain ⟨g, hg⟩ : ∃ g, g = w.heap.size := ⟨_, rfl⟩
  rw [← hg] at X
  clear S ok hT
  unfold ReadPost
  unfold OpV.cells at X
  unfold OpV.val
  simp only at X ⊢
  go_enter Tryd.func31, Tryd.ntmps31
  go_wp2_with fail
  rw [← hg]
  clear hg
  generalize (w.alloc (.cells #[.int .i64 5, .int .u64 (num : Int), .int .i64 int, .slice Ab n cb, .string t, .int .i64 most] 53)) = w1 at *
  have HA := Lib.hid (rnNum X.out.tail)
  have HB : Hid (∀ w1 l, Sep w0 w1 (cRN P A c (s.numS) :: cRr q A2 c2 s :: l) → Calls Tryd.prog 89 #[.pointer (some ⟨q, 0, none⟩)] w1 fun e w' => e = .returned (.int .u64 (s.numV : Int)) ∧ Sep w0 w' (cRN P A c (s.numS) :: cRr q A2 c2 (s.numS) :: l)) := fun w1 l S1 =>
    (rrNum S1.fr1).mono fun e w' ⟨h1, h2⟩ => ⟨h1, h2.fr1⟩
  generalize s.numV = V at *
  refine HA.out.mono ?_
  rintro e w2 ⟨rfl, hS⟩
  have S2 := Lib.hid hS
  clear hS
  go_wp2_with (go_at_call 89; refine (HB.out _ _ S2.out).mono ?_; rintro e w3 ⟨rfl, hS⟩)
  go_ret
  exact ⟨rfl, _, buf_numS _, hS⟩

set_option maxRecDepth 100000 in
set_option maxHeartbeats 1600000 in
theorem read6 (S : Sep w0 w (cRN P A c s :: cRr q A2 c2 s :: l)) (o : OpV) (ok : OpOk w0 o) (hT : U8T w0) (hb : s.buf.length ≤ 2000000) (hk : o.kind = 6) :
    Calls Tryd.prog 31 #[.pointer P, .pointer (some ⟨q, 0, none⟩), o.val] w (ReadPost w0 P A c q A2 c2 s l) := by
  obtain ⟨kind, num, int, Ab, n, cb, b, t, most⟩ := o
  simp only at hk
  subst hk
  have hmost := ok.most
  simp only at hmost
  have HT := Lib.hid hT
  have X := Lib.hid (S.box (OpV.cells ⟨6, num, int, Ab, n, cb, b, t, most⟩) 53)
  obtain ⟨g, hg⟩ : ∃ g, g = w.heap.size := ⟨_, rfl⟩
  rw [← hg] at X
  clear S ok hT
  unfold ReadPost
  unfold OpV.cells at X
  unfold OpV.val
  simp only at X ⊢
  go_enter Tryd.func31, Tryd.ntmps31
  go_wp2_with fail
  rw [← hg]
  clear hg
  generalize (w.alloc (.cells #[.int .i64 6, .int .u64 (num : Int), .int .i64 int, .slice Ab n cb, .string t, .int .i64 most] 53)) = w1 at *
  have HA := Lib.hid (rnFlag X.out.tail)
  have HB : Hid (∀ w1 l, Sep w0 w1 (cRN P A c (s.flagS) :: cRr q A2 c2 s :: l) → Calls Tryd.prog 91 #[.pointer (some ⟨q, 0, none⟩)] w1 fun e w' => e = .returned (.bool s.flagV) ∧ Sep w0 w' (cRN P A c (s.flagS) :: cRr q A2 c2 (s.flagS) :: l)) := fun w1 l S1 =>
    (rrFlag S1.fr1).mono fun e w' ⟨h1, h2⟩ => ⟨h1, h2.fr1⟩
  generalize s.flagV = V at *
  refine HA.out.mono ?_
  rintro e w2 ⟨rfl, hS⟩
  have S2 := Lib.hid hS
  clear hS
  go_wp2_with (go_at_call 91; refine (HB.out _ _ S2.out).mono ?_; rintro e w3 ⟨rfl, hS⟩)
  go_ret
  exact ⟨rfl, _, buf_flagS _, hS⟩

set_option maxRecDepth 100000 in
set_option maxHeartbeats 1600000 in
theorem read7 (S : Sep w0 w (cRN P A c s :: cRr q A2 c2 s :: l)) (o : OpV) (ok : OpOk w0 o) (hT : U8T w0) (hb : s.buf.length ≤ 2000000) (hk : o.kind = 7) :
    Calls Tryd.prog 31 #[.pointer P, .pointer (some ⟨q, 0, none⟩), o.val] w (ReadPost w0 P A c q A2 c2 s l) := by
  obtain ⟨kind, num, int, Ab, n, cb, b, t, most⟩ := o
  simp only at hk
  subst hk
  have hmost := ok.most
  simp only at hmost
  have HT := Lib.hid hT
  have X := Lib.hid (S.box (OpV.cells ⟨7, num, int, Ab, n, cb, b, t, most⟩) 53)
  obtain ⟨g, hg⟩ : ∃ g, g = w.heap.size := ⟨_, rfl⟩
  rw [← hg] at X
  clear S ok hT
  unfold ReadPost
  unfold OpV.cells at X
  unfold OpV.val
  simp only at X ⊢
  go_enter Tryd.func31, Tryd.ntmps31
  go_wp2_with fail
  rw [← hg]
  clear hg
  generalize (w.alloc (.cells #[.int .i64 7, .int .u64 (num : Int), .int .i64 int, .slice Ab n cb, .string t, .int .i64 most] 53)) = w1 at *
  have X1 : Blk w1 g _ _ := X.out.h0
  have k5 : w1.cell? ⟨g, 5, none⟩ = some (.int .i64 most) := X1.cell 5
  have HA : Hid (Calls Tryd.prog 92 #[.pointer P, .int .i64 most] w1.drew fun e w' => e = .returned (.int .i64 (s.countV most : Int)) ∧ Sep w0 w' (cRN P A c (s.countS most) :: cBlk g #[.int .i64 7, .int .u64 (num : Int), .int .i64 int, .slice Ab n cb, .string t, .int .i64 most] 53 :: cRr q A2 c2 s :: l)) := rnCount X.out.drew.fr1 most hmost
  have HB : Hid (∀ w1 l, Sep w0 w1 (cRN P A c (s.countS most) :: cRr q A2 c2 s :: l) → Calls Tryd.prog 93 #[.pointer (some ⟨q, 0, none⟩), .int .i64 most] w1 fun e w' => e = .returned (.int .i64 (s.countV most : Int)) ∧ Sep w0 w' (cRN P A c (s.countS most) :: cRr q A2 c2 (s.countS most) :: l)) := fun w1 l S1 =>
    (rrCount S1.fr1 most hmost).mono fun e w' ⟨h1, h2⟩ => ⟨h1, h2.fr1⟩
  generalize s.countV most = V at *
  clear X1
  go_wp2
  go_region_with first | (go_at_call 92; refine HA.out.mono ?_; rintro e w2 ⟨rfl, hS⟩; have Y2 : Blk w2 g _ _ := hS.h1; have k5' : w2.cell? ⟨g, 5, none⟩ = some (.int .i64 most) := Y2.cell 5; have S2 := Lib.hid hS.d1; clear hS Y2) | (go_at_call 93; refine (HB.out _ _ S2.out).mono ?_; rintro e w3 ⟨rfl, hS⟩)
  all_goals
    go_wp2
    refine bodyPost_ret (v := .bool true) (by simp [results, Tryd.results31, go_sem, Act.put]) rfl ?_
    exact ⟨rfl, _, buf_countS _ _, hS⟩

set_option maxRecDepth 100000 in
set_option maxHeartbeats 1600000 in
theorem read9 (S : Sep w0 w (cRN P A c s :: cRr q A2 c2 s :: l)) (o : OpV) (ok : OpOk w0 o) (hT : U8T w0) (hb : s.buf.length ≤ 2000000) (hk : o.kind = 9) :
    Calls Tryd.prog 31 #[.pointer P, .pointer (some ⟨q, 0, none⟩), o.val] w (ReadPost w0 P A c q A2 c2 s l) := by
  obtain ⟨kind, num, int, Ab, n, cb, b, t, most⟩ := o
  simp only at hk
  subst hk
  have hmost := ok.most
  simp only at hmost
  have HT := Lib.hid hT
  have X := Lib.hid (S.box (OpV.cells ⟨9, num, int, Ab, n, cb, b, t, most⟩) 53)
  obtain ⟨g, hg⟩ : ∃ g, g = w.heap.size := ⟨_, rfl⟩
  rw [← hg] at X
  clear S ok hT
  unfold ReadPost
  unfold OpV.cells at X
  unfold OpV.val
  simp only at X ⊢
  go_enter Tryd.func31, Tryd.ntmps31
  go_wp2_with fail
  rw [← hg]
  clear hg
  generalize (w.alloc (.cells #[.int .i64 9, .int .u64 (num : Int), .int .i64 int, .slice Ab n cb, .string t, .int .i64 most] 53)) = w1 at *
  have X1 : Blk w1 g _ _ := X.out.h0
  have k5 : w1.cell? ⟨g, 5, none⟩ = some (.int .i64 most) := X1.cell 5
  have HA : Hid (Calls Tryd.prog 96 #[.pointer P, .int .i64 most] w1.drew fun e w' => e = .returned (.string ⟨(s.textV most).toArray⟩) ∧ Sep w0 w' (cRN P A c (s.textS most) :: cBlk g #[.int .i64 9, .int .u64 (num : Int), .int .i64 int, .slice Ab n cb, .string t, .int .i64 most] 53 :: cRr q A2 c2 s :: l)) := rnText X.out.drew.fr1 most hmost HT.out
  have HB : Hid (∀ w1 l, Sep w0 w1 (cRN P A c (s.textS most) :: cRr q A2 c2 s :: l) → Calls Tryd.prog 97 #[.pointer (some ⟨q, 0, none⟩), .int .i64 most] w1 fun e w' => e = .returned (.string ⟨(s.textV most).toArray⟩) ∧ Sep w0 w' (cRN P A c (s.textS most) :: cRr q A2 c2 (s.textS most) :: l)) := fun w1 l S1 =>
    (rrText S1.fr1 most hmost).mono fun e w' ⟨h1, h2⟩ => ⟨h1, h2.fr1⟩
  generalize (⟨(s.textV most).toArray⟩ : ByteArray) = V at *
  clear X1
  go_wp2
  go_region_with first | (go_at_call 96; refine HA.out.mono ?_; rintro e w2 ⟨rfl, hS⟩; have Y2 : Blk w2 g _ _ := hS.h1; have k5' : w2.cell? ⟨g, 5, none⟩ = some (.int .i64 most) := Y2.cell 5; have S2 := Lib.hid hS.d1; clear hS Y2) | (go_at_call 97; refine (HB.out _ _ S2.out).mono ?_; rintro e w3 ⟨rfl, hS⟩)
  all_goals
    go_wp2
    refine bodyPost_ret (v := .bool true) (by simp [results, Tryd.results31, go_sem, Act.put]) rfl ?_
    exact ⟨rfl, _, buf_textS _ _, hS⟩

set_option maxRecDepth 100000 in
set_option maxHeartbeats 1600000 in
theorem read8 (S : Sep w0 w (cRN P A c s :: cRr q A2 c2 s :: l)) (o : OpV) (ok : OpOk w0 o) (hT : U8T w0) (hb : s.buf.length ≤ 2000000) (hk : o.kind = 8) :
    Calls Tryd.prog 31 #[.pointer P, .pointer (some ⟨q, 0, none⟩), o.val] w (ReadPost w0 P A c q A2 c2 s l) := by
  obtain ⟨kind, num, int, Ab, n, cb, b, t, most⟩ := o
  simp only at hk
  subst hk
  have hmost := ok.most
  simp only at hmost
  have HT := Lib.hid hT
  have X := Lib.hid (S.box (OpV.cells ⟨8, num, int, Ab, n, cb, b, t, most⟩) 53)
  obtain ⟨g, hg⟩ : ∃ g, g = w.heap.size := ⟨_, rfl⟩
  rw [← hg] at X
  clear S ok hT
  unfold ReadPost
  unfold OpV.cells at X
  unfold OpV.val
  simp only at X ⊢
  go_enter Tryd.func31, Tryd.ntmps31
  go_wp2_with fail
  rw [← hg]
  clear hg
  generalize (w.alloc (.cells #[.int .i64 8, .int .u64 (num : Int), .int .i64 int, .slice Ab n cb, .string t, .int .i64 most] 53)) = w1 at *
  have X1 : Blk w1 g _ _ := X.out.h0
  have k5 : w1.cell? ⟨g, 5, none⟩ = some (.int .i64 most) := X1.cell 5
  have hbl := blobV_le s most
  clear X1
  go_wp2_with fail
  refine (rnBlob X.out.fr1 most hmost).mono ?_
  rintro e w2 ⟨A3, n3, rfl, hS⟩
  have Y2 : Blk w2 g _ _ := hS.h2
  have k5' : w2.cell? ⟨g, 5, none⟩ = some (.int .i64 most) := Y2.cell 5
  have S2 := Lib.hid hS
  clear hS Y2
  go_wp2_with fail
  refine (rrBlob S2.out.fr3 most hmost).mono ?_
  rintro e w3 ⟨A4, n4, c4, rfl, hS⟩
  have S3 := Lib.hid hS
  clear hS
  go_wp2_with fail
  refine (sameBytes_any _ _ _ _ _ _ _ _ _ (Ob.rd S3.out.h2) (Ob.rd S3.out.h0)).mono ?_
  rintro e w4 ⟨rfl, q4, rfl⟩
  have S4 := Lib.hid (S3.out.drewN q4).fr2
  have hn3 : n3 ≤ 999999000 := by have := (Ob.rd S3.out.h2).len; omega
  go_wp2_with fail
  refine (spoil_any _ 0 A3 n3 n3 _ S4.out.h0 hn3 (Nat.zero_le _) 5 (by decide)).mono ?_
  rintro e w5 ⟨rfl, hc⟩
  have S5 := Lib.hid (S4.out.lose hc).tail
  clear hc
  go_wp2
  go_ret
  exact ⟨rfl, _, buf_blobS _ _, S5.out.fr2.tail.fr1⟩

set_option maxRecDepth 100000 in
set_option maxHeartbeats 1600000 in
theorem read11 (S : Sep w0 w (cRN P A c s :: cRr q A2 c2 s :: l)) (o : OpV) (ok : OpOk w0 o) (hT : U8T w0) (hb : s.buf.length ≤ 2000000) (hk : o.kind = 11) :
    Calls Tryd.prog 31 #[.pointer P, .pointer (some ⟨q, 0, none⟩), o.val] w (ReadPost w0 P A c q A2 c2 s l) := by
  obtain ⟨kind, num, int, Ab, n, cb, b, t, most⟩ := o
  simp only at hk
  subst hk
  have hmost := ok.most
  simp only at hmost
  have HT := Lib.hid hT
  have X := Lib.hid (S.box (OpV.cells ⟨11, num, int, Ab, n, cb, b, t, most⟩) 53)
  obtain ⟨g, hg⟩ : ∃ g, g = w.heap.size := ⟨_, rfl⟩
  rw [← hg] at X
  clear S ok hT
  unfold ReadPost
  unfold OpV.cells at X
  unfold OpV.val
  simp only at X ⊢
  go_enter Tryd.func31, Tryd.ntmps31
  go_wp2_with fail
  rw [← hg]
  clear hg
  generalize (w.alloc (.cells #[.int .i64 11, .int .u64 (num : Int), .int .i64 int, .slice Ab n cb, .string t, .int .i64 most] 53)) = w1 at *
  refine (stands_any X.out.tail).mono ?_
  rintro e w2 ⟨rfl, hS⟩
  go_wp2
  go_ret
  exact ⟨rfl, _, rfl, hS⟩

set_option maxRecDepth 100000 in
set_option maxHeartbeats 1600000 in
theorem read10 (S : Sep w0 w (cRN P A c s :: cRr q A2 c2 s :: l)) (o : OpV) (ok : OpOk w0 o) (hT : U8T w0) (hb : s.buf.length ≤ 2000000) (hk : o.kind = 10) :
    Calls Tryd.prog 31 #[.pointer P, .pointer (some ⟨q, 0, none⟩), o.val] w (ReadPost w0 P A c q A2 c2 s l) := by
  obtain ⟨kind, num, int, Ab, n, cb, b, t, most⟩ := o
  simp only at hk
  subst hk
  have hmost := ok.most
  simp only at hmost
  have HT := Lib.hid hT
  have X := Lib.hid (S.box (OpV.cells ⟨10, num, int, Ab, n, cb, b, t, most⟩) 53)
  obtain ⟨g, hg⟩ : ∃ g, g = w.heap.size := ⟨_, rfl⟩
  rw [← hg] at X
  clear S ok hT
  unfold ReadPost
  unfold OpV.cells at X
  unfold OpV.val
  simp only at X ⊢
  go_enter Tryd.func31, Tryd.ntmps31
  go_wp2_with fail
  rw [← hg]
  clear hg
  generalize (w.alloc (.cells #[.int .i64 10, .int .u64 (num : Int), .int .i64 int, .slice Ab n cb, .string t, .int .i64 most] 53)) = w1 at *
  have HE : Hid (∀ w1 l, Sep w0 w1 (cRN P A c s :: l) → Calls Tryd.prog 33 #[.pointer P] w1 fun e w' => ∃ err, e = .returned err ∧ ErrIs w' err s.errC s.errA ∧ Below w1.heap.size w1 w') := fun w1 l S1 => rnErr S1
  have HR : Hid (∀ w1 l, Sep w0 w1 (cRr q A2 c2 s :: l) → Calls Tryd.prog 32 #[.pointer (some ⟨q, 0, none⟩)] w1 fun e w' => e = .returned (.agg #[.int .i64 s.errC, .int .i64 s.errA]) ∧ Below w1.heap.size w1 w') := fun w1 l S1 => rrErr S1
  generalize s.errC = ec at *
  generalize s.errA = ea at *
  refine (HR.out _ _ X.out.fr2).mono ?_
  rintro e w2 ⟨rfl, hb⟩
  have S2 := Lib.hid ((X.out.tail.kept hb).box #[.int .i64 ec, .int .i64 ea] 29)
  clear hb
  go_wp2_with fail
  refine (HE.out _ _ S2.out.fr1).mono ?_
  rintro e w3 ⟨err, rfl, he, hb⟩
  have S3 := Lib.hid (S2.out.kept hb)
  have HEr := Lib.hid he
  clear he hb
  go_wp2_with fail
  refine (told_any _ err ec ea HEr.out).mono ?_
  rintro e w4 ⟨rfl, q4, rfl⟩
  have X4 : Blk w3 w2.heap.size #[.int .i64 ec, .int .i64 ea] 29 := S3.out.h0
  have n0 : w3.cell? ⟨w2.heap.size, 0, none⟩ = some (.int .i64 ec) := X4.cell 0
  have n1 : w3.cell? ⟨w2.heap.size, 1, none⟩ = some (.int .i64 ea) := X4.cell 1
  have S4 := Lib.hid (S3.out.drewN q4).tail
  clear X4
  go_wp2
  go_ret
  exact ⟨rfl, _, rfl, S4.out⟩

set_option maxRecDepth 100000 in
theorem read0 (S : Sep w0 w (cRN P A c s :: cRr q A2 c2 s :: l)) (o : OpV) (hk : ∀ i : Nat, 1 ≤ i → i ≤ 11 → o.kind ≠ (i : Int)) :
    Calls Tryd.prog 31 #[.pointer P, .pointer (some ⟨q, 0, none⟩), o.val] w (ReadPost w0 P A c q A2 c2 s l) := by
  obtain ⟨kind, num, int, Ab, n, cb, b, t, most⟩ := o
  simp only at hk
  have e1 : (kind == 1) = false := by simpa using hk 1 (by decide) (by decide)
  have e2 : (kind == 2) = false := by simpa using hk 2 (by decide) (by decide)
  have e3 : (kind == 3) = false := by simpa using hk 3 (by decide) (by decide)
  have e4 : (kind == 4) = false := by simpa using hk 4 (by decide) (by decide)
  have e5 : (kind == 5) = false := by simpa using hk 5 (by decide) (by decide)
  have e6 : (kind == 6) = false := by simpa using hk 6 (by decide) (by decide)
  have e7 : (kind == 7) = false := by simpa using hk 7 (by decide) (by decide)
  have e8 : (kind == 8) = false := by simpa using hk 8 (by decide) (by decide)
  have e9 : (kind == 9) = false := by simpa using hk 9 (by decide) (by decide)
  have e10 : (kind == 10) = false := by simpa using hk 10 (by decide) (by decide)
  have e11 : (kind == 11) = false := by simpa using hk 11 (by decide) (by decide)
  have X := Lib.hid (S.box (OpV.cells ⟨kind, num, int, Ab, n, cb, b, t, most⟩) 53).tail
  clear S hk
  unfold ReadPost
  unfold OpV.cells at X
  unfold OpV.val
  simp only at X ⊢
  go_enter Tryd.func31, Tryd.ntmps31
  go_wp2
  go_ret
  exact ⟨rfl, _, rfl, X.out⟩

theorem read_any (S : Sep w0 w (cRN P A c s :: cRr q A2 c2 s :: l)) (o : OpV) (ok : OpOk w0 o) (hT : U8T w0) (hb : s.buf.length ≤ 2000000) :
    Calls Tryd.prog 31 #[.pointer P, .pointer (some ⟨q, 0, none⟩), o.val] w (ReadPost w0 P A c q A2 c2 s l) := by
  by_cases h1 : o.kind = 1
  · exact read1 S o ok hT hb h1
  by_cases h2 : o.kind = 2
  · exact read2 S o ok hT hb h2
  by_cases h3 : o.kind = 3
  · exact read3 S o ok hT hb h3
  by_cases h4 : o.kind = 4
  · exact read4 S o ok hT hb h4
  by_cases h5 : o.kind = 5
  · exact read5 S o ok hT hb h5
  by_cases h6 : o.kind = 6
  · exact read6 S o ok hT hb h6
  by_cases h7 : o.kind = 7
  · exact read7 S o ok hT hb h7
  by_cases h8 : o.kind = 8
  · exact read8 S o ok hT hb h8
  by_cases h9 : o.kind = 9
  · exact read9 S o ok hT hb h9
  by_cases h10 : o.kind = 10
  · exact read10 S o ok hT hb h10
  by_cases h11 : o.kind = 11
  · exact read11 S o ok hT hb h11
  exact read0 S o fun i hi hj => by
    have : i = 1 ∨ i = 2 ∨ i = 3 ∨ i = 4 ∨ i = 5 ∨ i = 6 ∨ i = 7 ∨ i = 8 ∨ i = 9 ∨ i = 10 ∨ i = 11 := by omega
    rcases this with rfl | rfl | rfl | rfl | rfl | rfl | rfl | rfl | rfl | rfl | rfl <;> assumption

end
end Go.Proofs.YtbhmnkpbaeemeaaDoor
