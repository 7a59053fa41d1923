import Derived.Test.YtbhmnkpbaeemeaaDoorStream2
set_option linter.unusedVariables false
set_option linter.unusedSimpArgs false
namespace Go.Proofs.YtbhmnkpbaeemeaaDoor
open Go.RowKit
section
variable {w0 w w' : World} {P A : Option Addr} {c : Nat} {s : RdS} {l : List Ch} {p q : Nat} {rest : List UInt8} {a : Ch} {bf : List UInt8}


set_option maxRecDepth 100000 in
set_option maxHeartbeats 800000 in
theorem take1 (S : Sep w0 w (cRN P A c s :: l)) (o : OpV) (ok : OpOk w0 o) (hT : U8T w0) (hok : okO o = true) (hs : s.stuck = false) (hb : s.buf.length ≤ 2000000) (hd : s.buf.drop s.off = encO o ++ rest) (hk : o.kind = 1) :
    Calls Tryd.prog 39 #[.pointer P, o.val] w (TakePost w0 P A c (s.step (encO o).length) l) := by
  obtain ⟨kind, num, int, Ab, n, cb, b, t, most⟩ := o
  simp only at hk
  subst hk
  have hnum := ok.num
  have hi := ok.int
  have hn := ok.n
  have hsz := ok.s
  have hmost := ok.most
  have HRB := Lib.hid ok.rd
  have HT := Lib.hid hT
  have sok : s.Ok := S.rnCases.1
  simp only at hnum hi hn hsz hmost HRB
  have he : encO ⟨1, num, int, Ab, n, cb, b, t, most⟩ = [u8of ((num : Int) % 256)] := by simp [encO]
  rw [he] at hd ⊢
  obtain ⟨g, hg⟩ : ∃ g, g = w.heap.size := ⟨_, rfl⟩
  have X := Lib.hid (S.box (OpV.cells ⟨1, num, int, Ab, n, cb, b, t, most⟩) 53).fr1
  rw [← hg] at X
  unfold TakePost
  unfold OpV.cells at X
  have HA : Hid (∀ W, Sep w0 W (cRN P A c s :: cBlk g #[.int .i64 1, .int .u64 (num : Int), .int .i64 int, .slice Ab n cb, .string t, .int .i64 most] 53 :: l) → Calls Tryd.prog 69 #[.pointer P] W fun e w' => e = .returned (.int .u8 ((num : Int) % 256)) ∧ Sep w0 w' (cRN P A c (s.step ([u8of ((num : Int) % 256)]).length) :: cBlk g #[.int .i64 1, .int .u64 (num : Int), .int .i64 int, .slice Ab n cb, .string t, .int .i64 most] 53 :: l)) := fun W SW => by
    obtain ⟨h1, h2⟩ := sum_of hs sok.le 1 hd rfl
    refine (rnU8 SW).mono fun e w' ⟨e1, e2⟩ => ⟨?_, by rw [h2] at e2; exact e2⟩
    rw [e1, h1, beV_1 _ (by omega) (by omega)]
  clear S ok hT he hok hs hd sok
  unfold OpV.val
  simp only at X ⊢
  have hw16 : IntKind.u16.wrap (num : Int) = (num : Int) % 65536 := by simp [IntKind.wrap, IntKind.signed, IntKind.bits]
  have hw8 : IntKind.u8.wrap (num : Int) = (num : Int) % 256 := by simp [IntKind.wrap, IntKind.signed, IntKind.bits]
  have htm : (num : Int).tmod 2 = (num : Int) % 2 := Int.tmod_eq_emod_of_nonneg (by omega)
  have hw32 : IntKind.u32.wrap (num : Int) = (num : Int) % 4294967296 := by simp [IntKind.wrap, IntKind.signed, IntKind.bits]
  go_enter Tryd.func39, Tryd.ntmps39
  go_wp2_with fail
  rw [← hg]
  clear hg
  generalize (w.alloc (.cells #[.int .i64 1, .int .u64 (num : Int), .int .i64 int, .slice Ab n cb, .string t, .int .i64 most] 53)) = w1 at *
  have XB : Blk w1 g _ _ := X.out.h1
  have kc : w1.cell? ⟨g, 1, none⟩ = some (.int .u64 (num : Int)) := XB.cell 1

  have HA1 := Lib.hid (HA.out _ X.out.drew)
  clear XB
  go_wp2
  go_region_with (go_at_call 69; refine HA1.out.mono ?_; rintro e w2 ⟨rfl, hS⟩; have XB2 : Blk w2 g _ _ := hS.h1; have kc' : w2.cell? ⟨g, 1, none⟩ = some (.int .u64 (num : Int)) := XB2.cell 1; have S2 := Lib.hid hS.d1; clear hS XB2)
  all_goals
    go_wp2
    refine bodyPost_ret (v := .bool true) (by simp [results, Tryd.results39, go_sem, Act.put, hw8, htm]) rfl ?_
    exact ⟨rfl, S2.out⟩

set_option maxRecDepth 100000 in
set_option maxHeartbeats 800000 in
theorem take2 (S : Sep w0 w (cRN P A c s :: l)) (o : OpV) (ok : OpOk w0 o) (hT : U8T w0) (hok : okO o = true) (hs : s.stuck = false) (hb : s.buf.length ≤ 2000000) (hd : s.buf.drop s.off = encO o ++ rest) (hk : o.kind = 2) :
    Calls Tryd.prog 39 #[.pointer P, o.val] w (TakePost w0 P A c (s.step (encO o).length) l) := by
  obtain ⟨kind, num, int, Ab, n, cb, b, t, most⟩ := o
  simp only at hk
  subst hk
  have hnum := ok.num
  have hi := ok.int
  have hn := ok.n
  have hsz := ok.s
  have hmost := ok.most
  have HRB := Lib.hid ok.rd
  have HT := Lib.hid hT
  have sok : s.Ok := S.rnCases.1
  simp only at hnum hi hn hsz hmost HRB
  have he : encO ⟨2, num, int, Ab, n, cb, b, t, most⟩ = big2 ((num : Int) % 65536) := by simp [encO]
  rw [he] at hd ⊢
  obtain ⟨g, hg⟩ : ∃ g, g = w.heap.size := ⟨_, rfl⟩
  have X := Lib.hid (S.box (OpV.cells ⟨2, num, int, Ab, n, cb, b, t, most⟩) 53).fr1
  rw [← hg] at X
  unfold TakePost
  unfold OpV.cells at X
  have HA : Hid (∀ W, Sep w0 W (cRN P A c s :: cBlk g #[.int .i64 2, .int .u64 (num : Int), .int .i64 int, .slice Ab n cb, .string t, .int .i64 most] 53 :: l) → Calls Tryd.prog 68 #[.pointer P] W fun e w' => e = .returned (.int .u16 ((num : Int) % 65536)) ∧ Sep w0 w' (cRN P A c (s.step (big2 ((num : Int) % 65536)).length) :: cBlk g #[.int .i64 2, .int .u64 (num : Int), .int .i64 int, .slice Ab n cb, .string t, .int .i64 most] 53 :: l)) := fun W SW => by
    obtain ⟨h1, h2⟩ := sum_of hs sok.le 2 hd rfl
    refine (rnU16 SW).mono fun e w' ⟨e1, e2⟩ => ⟨?_, by rw [h2] at e2; exact e2⟩
    rw [e1, h1, beV_2 _ (by omega) (by omega)]
  clear S ok hT he hok hs hd sok
  unfold OpV.val
  simp only at X ⊢
  have hw16 : IntKind.u16.wrap (num : Int) = (num : Int) % 65536 := by simp [IntKind.wrap, IntKind.signed, IntKind.bits]
  have hw8 : IntKind.u8.wrap (num : Int) = (num : Int) % 256 := by simp [IntKind.wrap, IntKind.signed, IntKind.bits]
  have htm : (num : Int).tmod 2 = (num : Int) % 2 := Int.tmod_eq_emod_of_nonneg (by omega)
  have hw32 : IntKind.u32.wrap (num : Int) = (num : Int) % 4294967296 := by simp [IntKind.wrap, IntKind.signed, IntKind.bits]
  go_enter Tryd.func39, Tryd.ntmps39
  go_wp2_with fail
  rw [← hg]
  clear hg
  generalize (w.alloc (.cells #[.int .i64 2, .int .u64 (num : Int), .int .i64 int, .slice Ab n cb, .string t, .int .i64 most] 53)) = w1 at *
  have XB : Blk w1 g _ _ := X.out.h1
  have kc : w1.cell? ⟨g, 1, none⟩ = some (.int .u64 (num : Int)) := XB.cell 1

  have HA1 := Lib.hid (HA.out _ X.out.drew)
  clear XB
  go_wp2
  go_region_with (go_at_call 68; refine HA1.out.mono ?_; rintro e w2 ⟨rfl, hS⟩; have XB2 : Blk w2 g _ _ := hS.h1; have kc' : w2.cell? ⟨g, 1, none⟩ = some (.int .u64 (num : Int)) := XB2.cell 1; have S2 := Lib.hid hS.d1; clear hS XB2)
  all_goals
    go_wp2
    refine bodyPost_ret (v := .bool true) (by simp [results, Tryd.results39, go_sem, Act.put, hw8, htm]) rfl ?_
    exact ⟨rfl, S2.out⟩

set_option maxRecDepth 100000 in
set_option maxHeartbeats 800000 in
theorem take3 (S : Sep w0 w (cRN P A c s :: l)) (o : OpV) (ok : OpOk w0 o) (hT : U8T w0) (hok : okO o = true) (hs : s.stuck = false) (hb : s.buf.length ≤ 2000000) (hd : s.buf.drop s.off = encO o ++ rest) (hk : o.kind = 3) :
    Calls Tryd.prog 39 #[.pointer P, o.val] w (TakePost w0 P A c (s.step (encO o).length) l) := by
  obtain ⟨kind, num, int, Ab, n, cb, b, t, most⟩ := o
  simp only at hk
  subst hk
  have hnum := ok.num
  have hi := ok.int
  have hn := ok.n
  have hsz := ok.s
  have hmost := ok.most
  have HRB := Lib.hid ok.rd
  have HT := Lib.hid hT
  have sok : s.Ok := S.rnCases.1
  simp only at hnum hi hn hsz hmost HRB
  have he : encO ⟨3, num, int, Ab, n, cb, b, t, most⟩ = big4 ((num : Int) % 4294967296) := by simp [encO]
  rw [he] at hd ⊢
  obtain ⟨g, hg⟩ : ∃ g, g = w.heap.size := ⟨_, rfl⟩
  have X := Lib.hid (S.box (OpV.cells ⟨3, num, int, Ab, n, cb, b, t, most⟩) 53).fr1
  rw [← hg] at X
  unfold TakePost
  unfold OpV.cells at X
  have HA : Hid (∀ W, Sep w0 W (cRN P A c s :: cBlk g #[.int .i64 3, .int .u64 (num : Int), .int .i64 int, .slice Ab n cb, .string t, .int .i64 most] 53 :: l) → Calls Tryd.prog 70 #[.pointer P] W fun e w' => e = .returned (.int .u32 ((num : Int) % 4294967296)) ∧ Sep w0 w' (cRN P A c (s.step (big4 ((num : Int) % 4294967296)).length) :: cBlk g #[.int .i64 3, .int .u64 (num : Int), .int .i64 int, .slice Ab n cb, .string t, .int .i64 most] 53 :: l)) := fun W SW => by
    obtain ⟨h1, h2⟩ := sum_of hs sok.le 4 hd rfl
    refine (rnU32 SW).mono fun e w' ⟨e1, e2⟩ => ⟨?_, by rw [h2] at e2; exact e2⟩
    rw [e1, h1, beV_4 _ (by omega) (by omega)]
  clear S ok hT he hok hs hd sok
  unfold OpV.val
  simp only at X ⊢
  have hw16 : IntKind.u16.wrap (num : Int) = (num : Int) % 65536 := by simp [IntKind.wrap, IntKind.signed, IntKind.bits]
  have hw8 : IntKind.u8.wrap (num : Int) = (num : Int) % 256 := by simp [IntKind.wrap, IntKind.signed, IntKind.bits]
  have htm : (num : Int).tmod 2 = (num : Int) % 2 := Int.tmod_eq_emod_of_nonneg (by omega)
  have hw32 : IntKind.u32.wrap (num : Int) = (num : Int) % 4294967296 := by simp [IntKind.wrap, IntKind.signed, IntKind.bits]
  go_enter Tryd.func39, Tryd.ntmps39
  go_wp2_with fail
  rw [← hg]
  clear hg
  generalize (w.alloc (.cells #[.int .i64 3, .int .u64 (num : Int), .int .i64 int, .slice Ab n cb, .string t, .int .i64 most] 53)) = w1 at *
  have XB : Blk w1 g _ _ := X.out.h1
  have kc : w1.cell? ⟨g, 1, none⟩ = some (.int .u64 (num : Int)) := XB.cell 1

  have HA1 := Lib.hid (HA.out _ X.out.drew)
  clear XB
  go_wp2
  go_region_with (go_at_call 70; refine HA1.out.mono ?_; rintro e w2 ⟨rfl, hS⟩; have XB2 : Blk w2 g _ _ := hS.h1; have kc' : w2.cell? ⟨g, 1, none⟩ = some (.int .u64 (num : Int)) := XB2.cell 1; have S2 := Lib.hid hS.d1; clear hS XB2)
  all_goals
    go_wp2
    refine bodyPost_ret (v := .bool true) (by simp [results, Tryd.results39, go_sem, Act.put, hw8, htm]) rfl ?_
    exact ⟨rfl, S2.out⟩

set_option maxRecDepth 100000 in
set_option maxHeartbeats 800000 in
theorem take4 (S : Sep w0 w (cRN P A c s :: l)) (o : OpV) (ok : OpOk w0 o) (hT : U8T w0) (hok : okO o = true) (hs : s.stuck = false) (hb : s.buf.length ≤ 2000000) (hd : s.buf.drop s.off = encO o ++ rest) (hk : o.kind = 4) :
    Calls Tryd.prog 39 #[.pointer P, o.val] w (TakePost w0 P A c (s.step (encO o).length) l) := by
  obtain ⟨kind, num, int, Ab, n, cb, b, t, most⟩ := o
  simp only at hk
  subst hk
  have hnum := ok.num
  have hi := ok.int
  have hn := ok.n
  have hsz := ok.s
  have hmost := ok.most
  have HRB := Lib.hid ok.rd
  have HT := Lib.hid hT
  have sok : s.Ok := S.rnCases.1
  simp only at hnum hi hn hsz hmost HRB
  have he : encO ⟨4, num, int, Ab, n, cb, b, t, most⟩ = big8 (num : Int) := by simp [encO]
  rw [he] at hd ⊢
  obtain ⟨g, hg⟩ : ∃ g, g = w.heap.size := ⟨_, rfl⟩
  have X := Lib.hid (S.box (OpV.cells ⟨4, num, int, Ab, n, cb, b, t, most⟩) 53).fr1
  rw [← hg] at X
  unfold TakePost
  unfold OpV.cells at X
  have HA : Hid (∀ W, Sep w0 W (cRN P A c s :: cBlk g #[.int .i64 4, .int .u64 (num : Int), .int .i64 int, .slice Ab n cb, .string t, .int .i64 most] 53 :: l) → Calls Tryd.prog 103 #[.pointer P] W fun e w' => e = .returned (.int .u64 (num : Int)) ∧ Sep w0 w' (cRN P A c (s.step (big8 (num : Int)).length) :: cBlk g #[.int .i64 4, .int .u64 (num : Int), .int .i64 int, .slice Ab n cb, .string t, .int .i64 most] 53 :: l)) := fun W SW => by
    obtain ⟨h1, h2⟩ := sum_of hs sok.le 8 hd rfl
    refine (rnU64 SW).mono fun e w' ⟨e1, e2⟩ => ⟨?_, by rw [h2] at e2; exact e2⟩
    rw [e1, h1, beV_8 _ hnum]
  clear S ok hT he hok hs hd sok
  unfold OpV.val
  simp only at X ⊢
  have hw16 : IntKind.u16.wrap (num : Int) = (num : Int) % 65536 := by simp [IntKind.wrap, IntKind.signed, IntKind.bits]
  have hw8 : IntKind.u8.wrap (num : Int) = (num : Int) % 256 := by simp [IntKind.wrap, IntKind.signed, IntKind.bits]
  have htm : (num : Int).tmod 2 = (num : Int) % 2 := Int.tmod_eq_emod_of_nonneg (by omega)
  have hw32 : IntKind.u32.wrap (num : Int) = (num : Int) % 4294967296 := by simp [IntKind.wrap, IntKind.signed, IntKind.bits]
  go_enter Tryd.func39, Tryd.ntmps39
  go_wp2_with fail
  rw [← hg]
  clear hg
  generalize (w.alloc (.cells #[.int .i64 4, .int .u64 (num : Int), .int .i64 int, .slice Ab n cb, .string t, .int .i64 most] 53)) = w1 at *
  have XB : Blk w1 g _ _ := X.out.h1
  have kc : w1.cell? ⟨g, 1, none⟩ = some (.int .u64 (num : Int)) := XB.cell 1

  have HA1 := Lib.hid (HA.out _ X.out.drew)
  clear XB
  go_wp2
  go_region_with (go_at_call 103; refine HA1.out.mono ?_; rintro e w2 ⟨rfl, hS⟩; have XB2 : Blk w2 g _ _ := hS.h1; have kc' : w2.cell? ⟨g, 1, none⟩ = some (.int .u64 (num : Int)) := XB2.cell 1; have S2 := Lib.hid hS.d1; clear hS XB2)
  all_goals
    go_wp2
    refine bodyPost_ret (v := .bool true) (by simp [results, Tryd.results39, go_sem, Act.put, hw8, htm]) rfl ?_
    exact ⟨rfl, S2.out⟩

set_option maxRecDepth 100000 in
set_option maxHeartbeats 800000 in
theorem take5 (S : Sep w0 w (cRN P A c s :: l)) (o : OpV) (ok : OpOk w0 o) (hT : U8T w0) (hok : okO o = true) (hs : s.stuck = false) (hb : s.buf.length ≤ 2000000) (hd : s.buf.drop s.off = encO o ++ rest) (hk : o.kind = 5) :
    Calls Tryd.prog 39 #[.pointer P, o.val] w (TakePost w0 P A c (s.step (encO o).length) l) := by
  obtain ⟨kind, num, int, Ab, n, cb, b, t, most⟩ := o
  simp only at hk
  subst hk
  have hnum := ok.num
  have hi := ok.int
  have hn := ok.n
  have hsz := ok.s
  have hmost := ok.most
  have HRB := Lib.hid ok.rd
  have HT := Lib.hid hT
  have sok : s.Ok := S.rnCases.1
  simp only at hnum hi hn hsz hmost HRB
  have he : encO ⟨5, num, int, Ab, n, cb, b, t, most⟩ = numB num := by simp [encO]
  rw [he] at hd ⊢
  obtain ⟨g, hg⟩ : ∃ g, g = w.heap.size := ⟨_, rfl⟩
  have X := Lib.hid (S.box (OpV.cells ⟨5, num, int, Ab, n, cb, b, t, most⟩) 53).fr1
  rw [← hg] at X
  unfold TakePost
  unfold OpV.cells at X
  have HA : Hid (∀ W, Sep w0 W (cRN P A c s :: cBlk g #[.int .i64 5, .int .u64 (num : Int), .int .i64 int, .slice Ab n cb, .string t, .int .i64 most] 53 :: l) → Calls Tryd.prog 88 #[.pointer P] W fun e w' => e = .returned (.int .u64 (num : Int)) ∧ Sep w0 w' (cRN P A c (s.step (numB num).length) :: cBlk g #[.int .i64 5, .int .u64 (num : Int), .int .i64 int, .slice Ab n cb, .string t, .int .i64 most] 53 :: l)) := fun W SW => by
    obtain ⟨_, h1, h2⟩ := num_of hs num hnum hd
    refine (rnNum SW).mono fun e w' ⟨e1, e2⟩ => ⟨?_, by rw [h2] at e2; exact e2⟩
    rw [e1, h1]
  clear S ok hT he hok hs hd sok
  unfold OpV.val
  simp only at X ⊢
  have hw16 : IntKind.u16.wrap (num : Int) = (num : Int) % 65536 := by simp [IntKind.wrap, IntKind.signed, IntKind.bits]
  have hw8 : IntKind.u8.wrap (num : Int) = (num : Int) % 256 := by simp [IntKind.wrap, IntKind.signed, IntKind.bits]
  have htm : (num : Int).tmod 2 = (num : Int) % 2 := Int.tmod_eq_emod_of_nonneg (by omega)
  have hw32 : IntKind.u32.wrap (num : Int) = (num : Int) % 4294967296 := by simp [IntKind.wrap, IntKind.signed, IntKind.bits]
  go_enter Tryd.func39, Tryd.ntmps39
  go_wp2_with fail
  rw [← hg]
  clear hg
  generalize (w.alloc (.cells #[.int .i64 5, .int .u64 (num : Int), .int .i64 int, .slice Ab n cb, .string t, .int .i64 most] 53)) = w1 at *
  have XB : Blk w1 g _ _ := X.out.h1
  have kc : w1.cell? ⟨g, 1, none⟩ = some (.int .u64 (num : Int)) := XB.cell 1

  have HA1 := Lib.hid (HA.out _ X.out.drew)
  clear XB
  go_wp2
  go_region_with (go_at_call 88; refine HA1.out.mono ?_; rintro e w2 ⟨rfl, hS⟩; have XB2 : Blk w2 g _ _ := hS.h1; have kc' : w2.cell? ⟨g, 1, none⟩ = some (.int .u64 (num : Int)) := XB2.cell 1; have S2 := Lib.hid hS.d1; clear hS XB2)
  all_goals
    go_wp2
    refine bodyPost_ret (v := .bool true) (by simp [results, Tryd.results39, go_sem, Act.put, hw8, htm]) rfl ?_
    exact ⟨rfl, S2.out⟩

set_option maxRecDepth 100000 in
set_option maxHeartbeats 800000 in
theorem take6 (S : Sep w0 w (cRN P A c s :: l)) (o : OpV) (ok : OpOk w0 o) (hT : U8T w0) (hok : okO o = true) (hs : s.stuck = false) (hb : s.buf.length ≤ 2000000) (hd : s.buf.drop s.off = encO o ++ rest) (hk : o.kind = 6) :
    Calls Tryd.prog 39 #[.pointer P, o.val] w (TakePost w0 P A c (s.step (encO o).length) l) := by
  obtain ⟨kind, num, int, Ab, n, cb, b, t, most⟩ := o
  simp only at hk
  subst hk
  have hnum := ok.num
  have hi := ok.int
  have hn := ok.n
  have hsz := ok.s
  have hmost := ok.most
  have HRB := Lib.hid ok.rd
  have HT := Lib.hid hT
  have sok : s.Ok := S.rnCases.1
  simp only at hnum hi hn hsz hmost HRB
  have he : encO ⟨6, num, int, Ab, n, cb, b, t, most⟩ = [if num % 2 = 1 then 1 else 0] := by simp [encO]
  rw [he] at hd ⊢
  obtain ⟨g, hg⟩ : ∃ g, g = w.heap.size := ⟨_, rfl⟩
  have X := Lib.hid (S.box (OpV.cells ⟨6, num, int, Ab, n, cb, b, t, most⟩) 53).fr1
  rw [← hg] at X
  unfold TakePost
  unfold OpV.cells at X
  have HA : Hid (∀ W, Sep w0 W (cRN P A c s :: cBlk g #[.int .i64 6, .int .u64 (num : Int), .int .i64 int, .slice Ab n cb, .string t, .int .i64 most] 53 :: l) → Calls Tryd.prog 90 #[.pointer P] W fun e w' => e = .returned (.bool ((num : Int) % 2 == 1)) ∧ Sep w0 w' (cRN P A c (s.step ([if num % 2 = 1 then 1 else 0]).length) :: cBlk g #[.int .i64 6, .int .u64 (num : Int), .int .i64 int, .slice Ab n cb, .string t, .int .i64 most] 53 :: l)) := fun W SW => by
    obtain ⟨h1, h2⟩ := flag_of hs sok.le (decide (num % 2 = 1)) (rest := rest) (by rw [hd]; simp)
    refine (rnFlag SW).mono fun e w' ⟨e1, e2⟩ => ⟨?_, by rw [h2] at e2; exact e2⟩
    rw [e1, h1]
    exact congrArg _ (congrArg _ (by rw [Bool.eq_iff_iff]; simp; omega))
  clear S ok hT he hok hs hd sok
  unfold OpV.val
  simp only at X ⊢
  have hw16 : IntKind.u16.wrap (num : Int) = (num : Int) % 65536 := by simp [IntKind.wrap, IntKind.signed, IntKind.bits]
  have hw8 : IntKind.u8.wrap (num : Int) = (num : Int) % 256 := by simp [IntKind.wrap, IntKind.signed, IntKind.bits]
  have htm : (num : Int).tmod 2 = (num : Int) % 2 := Int.tmod_eq_emod_of_nonneg (by omega)
  have hw32 : IntKind.u32.wrap (num : Int) = (num : Int) % 4294967296 := by simp [IntKind.wrap, IntKind.signed, IntKind.bits]
  go_enter Tryd.func39, Tryd.ntmps39
  go_wp2_with fail
  rw [← hg]
  clear hg
  generalize (w.alloc (.cells #[.int .i64 6, .int .u64 (num : Int), .int .i64 int, .slice Ab n cb, .string t, .int .i64 most] 53)) = w1 at *
  have XB : Blk w1 g _ _ := X.out.h1
  have kc : w1.cell? ⟨g, 1, none⟩ = some (.int .u64 (num : Int)) := XB.cell 1

  have HA1 := Lib.hid (HA.out _ X.out.drew)
  clear XB
  go_wp2
  go_region_with (go_at_call 90; refine HA1.out.mono ?_; rintro e w2 ⟨rfl, hS⟩; have XB2 : Blk w2 g _ _ := hS.h1; have kc' : w2.cell? ⟨g, 1, none⟩ = some (.int .u64 (num : Int)) := XB2.cell 1; have S2 := Lib.hid hS.d1; clear hS XB2)
  all_goals
    go_wp2
    refine bodyPost_ret (v := .bool true) (by simp [results, Tryd.results39, go_sem, Act.put, hw8, htm]) rfl ?_
    exact ⟨rfl, S2.out⟩

set_option maxRecDepth 100000 in
set_option maxHeartbeats 800000 in
theorem take7 (S : Sep w0 w (cRN P A c s :: l)) (o : OpV) (ok : OpOk w0 o) (hT : U8T w0) (hok : okO o = true) (hs : s.stuck = false) (hb : s.buf.length ≤ 2000000) (hd : s.buf.drop s.off = encO o ++ rest) (hk : o.kind = 7) :
    Calls Tryd.prog 39 #[.pointer P, o.val] w (TakePost w0 P A c (s.step (encO o).length) l) := by
  obtain ⟨kind, num, int, Ab, n, cb, b, t, most⟩ := o
  simp only at hk
  subst hk
  have hnum := ok.num
  have hi := ok.int
  have hn := ok.n
  have hsz := ok.s
  have hmost := ok.most
  have HRB := Lib.hid ok.rd
  have HT := Lib.hid hT
  have sok : s.Ok := S.rnCases.1
  simp only at hnum hi hn hsz hmost HRB
  have he : encO ⟨7, num, int, Ab, n, cb, b, t, most⟩ = numB int.toNat := by simp [encO]
  rw [he] at hd ⊢
  obtain ⟨g, hg⟩ : ∃ g, g = w.heap.size := ⟨_, rfl⟩
  have X := Lib.hid (S.box (OpV.cells ⟨7, num, int, Ab, n, cb, b, t, most⟩) 53).fr1
  rw [← hg] at X
  unfold TakePost
  unfold OpV.cells at X
  have HA : Hid (∀ W, Sep w0 W (cRN P A c s :: cBlk g #[.int .i64 7, .int .u64 (num : Int), .int .i64 int, .slice Ab n cb, .string t, .int .i64 most] 53 :: l) → Calls Tryd.prog 92 #[.pointer P, .int .i64 most] W fun e w' => e = .returned (.int .i64 int) ∧ Sep w0 w' (cRN P A c (s.step (numB int.toNat).length) :: cBlk g #[.int .i64 7, .int .u64 (num : Int), .int .i64 int, .slice Ab n cb, .string t, .int .i64 most] 53 :: l)) := fun W SW => by
    simp only [okO] at hok
    simp at hok
    obtain ⟨h1, h2⟩ := count_of hs int.toNat (by omega) most (by omega) hd
    refine (rnCount SW most hmost).mono fun e w' ⟨e1, e2⟩ => ⟨?_, by rw [h2] at e2; exact e2⟩
    rw [e1, h1, show ((int.toNat : Nat) : Int) = int by omega]
  clear S ok hT he hok hs hd sok
  unfold OpV.val
  simp only at X ⊢
  have hw16 : IntKind.u16.wrap (num : Int) = (num : Int) % 65536 := by simp [IntKind.wrap, IntKind.signed, IntKind.bits]
  have hw8 : IntKind.u8.wrap (num : Int) = (num : Int) % 256 := by simp [IntKind.wrap, IntKind.signed, IntKind.bits]
  have htm : (num : Int).tmod 2 = (num : Int) % 2 := Int.tmod_eq_emod_of_nonneg (by omega)
  have hw32 : IntKind.u32.wrap (num : Int) = (num : Int) % 4294967296 := by simp [IntKind.wrap, IntKind.signed, IntKind.bits]
  go_enter Tryd.func39, Tryd.ntmps39
  go_wp2_with fail
  rw [← hg]
  clear hg
  generalize (w.alloc (.cells #[.int .i64 7, .int .u64 (num : Int), .int .i64 int, .slice Ab n cb, .string t, .int .i64 most] 53)) = w1 at *
  have XB : Blk w1 g _ _ := X.out.h1
  have kc : w1.cell? ⟨g, 2, none⟩ = some (.int .i64 int) := XB.cell 2
  have km : w1.cell? ⟨g, 5, none⟩ = some (.int .i64 most) := XB.cell 5
  have HA1 := Lib.hid (HA.out _ X.out.drew)
  clear XB
  go_wp2
  go_region_with (go_at_call 92; refine HA1.out.mono ?_; rintro e w2 ⟨rfl, hS⟩; have XB2 : Blk w2 g _ _ := hS.h1; have kc' : w2.cell? ⟨g, 2, none⟩ = some (.int .i64 int) := XB2.cell 2; have S2 := Lib.hid hS.d1; clear hS XB2)
  all_goals
    go_wp2
    refine bodyPost_ret (v := .bool true) (by simp [results, Tryd.results39, go_sem, Act.put, hw8, htm]) rfl ?_
    exact ⟨rfl, S2.out⟩

set_option maxRecDepth 100000 in
set_option maxHeartbeats 800000 in
theorem take9 (S : Sep w0 w (cRN P A c s :: l)) (o : OpV) (ok : OpOk w0 o) (hT : U8T w0) (hok : okO o = true) (hs : s.stuck = false) (hb : s.buf.length ≤ 2000000) (hd : s.buf.drop s.off = encO o ++ rest) (hk : o.kind = 9) :
    Calls Tryd.prog 39 #[.pointer P, o.val] w (TakePost w0 P A c (s.step (encO o).length) l) := by
  obtain ⟨kind, num, int, Ab, n, cb, b, t, most⟩ := o
  simp only at hk
  subst hk
  have hnum := ok.num
  have hi := ok.int
  have hn := ok.n
  have hsz := ok.s
  have hmost := ok.most
  have HRB := Lib.hid ok.rd
  have HT := Lib.hid hT
  have sok : s.Ok := S.rnCases.1
  simp only at hnum hi hn hsz hmost HRB
  have he : encO ⟨9, num, int, Ab, n, cb, b, t, most⟩ = numB t.size ++ t.data.toList := by simp [encO]
  rw [he] at hd ⊢
  obtain ⟨g, hg⟩ : ∃ g, g = w.heap.size := ⟨_, rfl⟩
  have X := Lib.hid (S.box (OpV.cells ⟨9, num, int, Ab, n, cb, b, t, most⟩) 53).fr1
  rw [← hg] at X
  unfold TakePost
  unfold OpV.cells at X
  have HA : Hid (∀ W, Sep w0 W (cRN P A c s :: cBlk g #[.int .i64 9, .int .u64 (num : Int), .int .i64 int, .slice Ab n cb, .string t, .int .i64 most] 53 :: l) → Calls Tryd.prog 96 #[.pointer P, .int .i64 most] W fun e w' => e = .returned (.string t) ∧ Sep w0 w' (cRN P A c (s.step (numB t.size ++ t.data.toList).length) :: cBlk g #[.int .i64 9, .int .u64 (num : Int), .int .i64 int, .slice Ab n cb, .string t, .int .i64 most] 53 :: l)) := fun W SW => by
    simp only [okO] at hok
    simp at hok
    have hl : t.data.toList.length = t.size := by simp
    have hd' := hd
    rw [← hl] at hd'
    obtain ⟨h1, h2⟩ := text_of hs t.data.toList (by omega) most (by omega) hd' (asc_valid _ hok.2)
    rw [hl] at h2
    refine (rnText SW most hmost HT.out).mono fun e w' ⟨e1, e2⟩ => ⟨?_, by rw [h2] at e2; exact e2⟩
    rw [e1, h1]
  clear S ok hT he hok hs hd sok
  unfold OpV.val
  simp only at X ⊢
  have hw16 : IntKind.u16.wrap (num : Int) = (num : Int) % 65536 := by simp [IntKind.wrap, IntKind.signed, IntKind.bits]
  have hw8 : IntKind.u8.wrap (num : Int) = (num : Int) % 256 := by simp [IntKind.wrap, IntKind.signed, IntKind.bits]
  have htm : (num : Int).tmod 2 = (num : Int) % 2 := Int.tmod_eq_emod_of_nonneg (by omega)
  have hw32 : IntKind.u32.wrap (num : Int) = (num : Int) % 4294967296 := by simp [IntKind.wrap, IntKind.signed, IntKind.bits]
  go_enter Tryd.func39, Tryd.ntmps39
  go_wp2_with fail
  rw [← hg]
  clear hg
  generalize (w.alloc (.cells #[.int .i64 9, .int .u64 (num : Int), .int .i64 int, .slice Ab n cb, .string t, .int .i64 most] 53)) = w1 at *
  have XB : Blk w1 g _ _ := X.out.h1
  have kc : w1.cell? ⟨g, 4, none⟩ = some (.string t) := XB.cell 4
  have km : w1.cell? ⟨g, 5, none⟩ = some (.int .i64 most) := XB.cell 5
  have HA1 := Lib.hid (HA.out _ X.out.drew)
  clear XB
  go_wp2
  go_region_with (go_at_call 96; refine HA1.out.mono ?_; rintro e w2 ⟨rfl, hS⟩; have XB2 : Blk w2 g _ _ := hS.h1; have kc' : w2.cell? ⟨g, 4, none⟩ = some (.string t) := XB2.cell 4; have S2 := Lib.hid hS.d1; clear hS XB2)
  all_goals
    go_wp2
    refine bodyPost_ret (v := .bool true) (by simp [results, Tryd.results39, go_sem, Act.put, hw8, htm]) rfl ?_
    exact ⟨rfl, S2.out⟩

set_option maxRecDepth 100000 in
set_option maxHeartbeats 800000 in
theorem take8 (S : Sep w0 w (cRN P A c s :: l)) (o : OpV) (ok : OpOk w0 o) (hT : U8T w0) (hok : okO o = true) (hs : s.stuck = false) (hb : s.buf.length ≤ 2000000) (hd : s.buf.drop s.off = encO o ++ rest) (hk : o.kind = 8) :
    Calls Tryd.prog 39 #[.pointer P, o.val] w (TakePost w0 P A c (s.step (encO o).length) l) := by
  obtain ⟨kind, num, int, Ab, n, cb, b, t, most⟩ := o
  simp only at hk
  subst hk
  have hnum := ok.num
  have hi := ok.int
  have hn := ok.n
  have hsz := ok.s
  have hmost := ok.most
  have HRB := Lib.hid ok.rd
  have HT := Lib.hid hT
  have sok : s.Ok := S.rnCases.1
  simp only at hnum hi hn hsz hmost HRB
  have he : encO ⟨8, num, int, Ab, n, cb, b, t, most⟩ = numB b.length ++ b := by simp [encO]
  rw [he] at hd ⊢
  obtain ⟨g, hg⟩ : ∃ g, g = w.heap.size := ⟨_, rfl⟩
  have X := Lib.hid (S.box (OpV.cells ⟨8, num, int, Ab, n, cb, b, t, most⟩) 53).fr1
  rw [← hg] at X
  unfold TakePost
  unfold OpV.cells at X
  have HA : Hid (∀ W, Sep w0 W (cRN P A c s :: cBlk g #[.int .i64 8, .int .u64 (num : Int), .int .i64 int, .slice Ab n cb, .string t, .int .i64 most] 53 :: l) → Calls Tryd.prog 94 #[.pointer P, .int .i64 most] W fun e w' => ∃ A' n', e = .returned (.slice A' n' n') ∧ Sep w0 w' (cOb A' n' n' b :: cRN P A c (s.step (numB b.length ++ b).length) :: cBlk g #[.int .i64 8, .int .u64 (num : Int), .int .i64 int, .slice Ab n cb, .string t, .int .i64 most] 53 :: l)) := fun W SW => by
    simp only [okO] at hok
    simp at hok
    obtain ⟨h1, h2, _⟩ := blob_of hs b (by have := HRB.out.len; omega) most (by omega) hd
    have := rnBlob SW most hmost
    rw [h1, h2] at this
    exact this
  clear S ok hT he hok hs hd sok
  unfold OpV.val
  simp only at X ⊢
  have hw16 : IntKind.u16.wrap (num : Int) = (num : Int) % 65536 := by simp [IntKind.wrap, IntKind.signed, IntKind.bits]
  have hw8 : IntKind.u8.wrap (num : Int) = (num : Int) % 256 := by simp [IntKind.wrap, IntKind.signed, IntKind.bits]
  have htm : (num : Int).tmod 2 = (num : Int) % 2 := Int.tmod_eq_emod_of_nonneg (by omega)
  have hw32 : IntKind.u32.wrap (num : Int) = (num : Int) % 4294967296 := by simp [IntKind.wrap, IntKind.signed, IntKind.bits]
  go_enter Tryd.func39, Tryd.ntmps39
  go_wp2_with fail
  rw [← hg]
  clear hg
  generalize (w.alloc (.cells #[.int .i64 8, .int .u64 (num : Int), .int .i64 int, .slice Ab n cb, .string t, .int .i64 most] 53)) = w1 at *
  have XB : Blk w1 g _ _ := X.out.h1
  have kc : w1.cell? ⟨g, 3, none⟩ = some (.slice Ab n cb) := XB.cell 3
  have km : w1.cell? ⟨g, 5, none⟩ = some (.int .i64 most) := XB.cell 5
  have HA1 := Lib.hid (HA.out _ X.out.drew)
  clear XB
  go_wp2
  go_region_with first | (go_at_call 94; refine HA1.out.mono ?_; rintro e w2 ⟨A3, n3, rfl, hS⟩; have XB2 : Blk w2 g _ _ := hS.h2; have kc' : w2.cell? ⟨g, 3, none⟩ = some (.slice Ab n cb) := XB2.cell 3; have S2 := Lib.hid hS; clear hS XB2) | (go_at_call 20; refine (sameBytes_any w2 A3 n3 n3 b Ab n cb b (Ob.rd S2.out.h0) (S2.out.rd HRB.out)).mono ?_; rintro e w3 ⟨rfl, q3, rfl⟩)
  all_goals
    go_wp2
    refine bodyPost_ret (v := .bool true) (by simp [results, Tryd.results39, go_sem, Act.put, hw8, htm]) rfl ?_
    exact ⟨rfl, (S2.out.tail.d1).drewN _⟩

set_option maxRecDepth 100000 in
theorem take0 (S : Sep w0 w (cRN P A c s :: l)) (o : OpV) (hk : ∀ i : Nat, 1 ≤ i → i ≤ 9 → o.kind ≠ (i : Int)) :
    Calls Tryd.prog 39 #[.pointer P, o.val] w (TakePost w0 P A c (s.step 0) l) := by
  obtain ⟨kind, num, int, Ab, n, cb, b, t, most⟩ := o
  simp only at hk
  have e1 : (kind == 1) = false := by simpa using hk 1 (by decide) (by decide)
  have e2 : (kind == 2) = false := by simpa using hk 2 (by decide) (by decide)
  have e3 : (kind == 3) = false := by simpa using hk 3 (by decide) (by decide)
  have e4 : (kind == 4) = false := by simpa using hk 4 (by decide) (by decide)
  have e5 : (kind == 5) = false := by simpa using hk 5 (by decide) (by decide)
  have e6 : (kind == 6) = false := by simpa using hk 6 (by decide) (by decide)
  have e7 : (kind == 7) = false := by simpa using hk 7 (by decide) (by decide)
  have e8 : (kind == 8) = false := by simpa using hk 8 (by decide) (by decide)
  have e9 : (kind == 9) = false := by simpa using hk 9 (by decide) (by decide)
  have X := Lib.hid (S.box (OpV.cells ⟨kind, num, int, Ab, n, cb, b, t, most⟩) 53).tail
  clear S hk
  unfold TakePost
  unfold OpV.cells at X
  unfold OpV.val
  simp only at X ⊢
  go_enter Tryd.func39, Tryd.ntmps39
  go_wp2
  go_ret
  exact ⟨rfl, X.out⟩
set_option maxRecDepth 100000 in
theorem put0 (S : Sep w0 w (cWr p A c (gW bf) :: l)) (o : OpV) (hk : ∀ i : Nat, 1 ≤ i → i ≤ 9 → o.kind ≠ (i : Int)) :
    Calls Tryd.prog 37 #[.pointer (some ⟨p, 0, none⟩), o.val] w (PutPost w0 p bf l) := by
  obtain ⟨kind, num, int, Ab, n, cb, b, t, most⟩ := o
  simp only at hk
  have e1 : (kind == 1) = false := by simpa using hk 1 (by decide) (by decide)
  have e2 : (kind == 2) = false := by simpa using hk 2 (by decide) (by decide)
  have e3 : (kind == 3) = false := by simpa using hk 3 (by decide) (by decide)
  have e4 : (kind == 4) = false := by simpa using hk 4 (by decide) (by decide)
  have e5 : (kind == 5) = false := by simpa using hk 5 (by decide) (by decide)
  have e6 : (kind == 6) = false := by simpa using hk 6 (by decide) (by decide)
  have e7 : (kind == 7) = false := by simpa using hk 7 (by decide) (by decide)
  have e8 : (kind == 8) = false := by simpa using hk 8 (by decide) (by decide)
  have e9 : (kind == 9) = false := by simpa using hk 9 (by decide) (by decide)
  have X := Lib.hid (S.box (OpV.cells ⟨kind, num, int, Ab, n, cb, b, t, most⟩) 53).tail
  clear S hk
  unfold PutPost
  unfold OpV.cells at X
  unfold OpV.val
  simp only at X ⊢
  go_enter Tryd.func37, Tryd.ntmps37
  go_wp2
  go_returns
  exact ⟨rfl, _, _, X.out⟩

theorem enc0 (o : OpV) (hk : ∀ i : Nat, 1 ≤ i → i ≤ 9 → o.kind ≠ (i : Int)) : encO o = [] := by
  have d1 : ¬ o.kind = 1 := hk 1 (by decide) (by decide)
  have d2 : ¬ o.kind = 2 := hk 2 (by decide) (by decide)
  have d3 : ¬ o.kind = 3 := hk 3 (by decide) (by decide)
  have d4 : ¬ o.kind = 4 := hk 4 (by decide) (by decide)
  have d5 : ¬ o.kind = 5 := hk 5 (by decide) (by decide)
  have d6 : ¬ o.kind = 6 := hk 6 (by decide) (by decide)
  have d7 : ¬ o.kind = 7 := hk 7 (by decide) (by decide)
  have d8 : ¬ o.kind = 8 := hk 8 (by decide) (by decide)
  have d9 : ¬ o.kind = 9 := hk 9 (by decide) (by decide)
  simp [encO, d1, d2, d3, d4, d5, d6, d7, d8, d9]
theorem take_op (S : Sep w0 w (cRN P A c s :: l)) (o : OpV) (ok : OpOk w0 o) (hT : U8T w0) (hok : okO o = true) (hs : s.stuck = false) (hb : s.buf.length ≤ 2000000) (hd : s.buf.drop s.off = encO o ++ rest) :
    Calls Tryd.prog 39 #[.pointer P, o.val] w (TakePost w0 P A c (s.step (encO o).length) l) := by
  by_cases h1 : o.kind = 1
  · exact take1 S o ok hT hok hs hb hd h1
  by_cases h2 : o.kind = 2
  · exact take2 S o ok hT hok hs hb hd h2
  by_cases h3 : o.kind = 3
  · exact take3 S o ok hT hok hs hb hd h3
  by_cases h4 : o.kind = 4
  · exact take4 S o ok hT hok hs hb hd h4
  by_cases h5 : o.kind = 5
  · exact take5 S o ok hT hok hs hb hd h5
  by_cases h6 : o.kind = 6
  · exact take6 S o ok hT hok hs hb hd h6
  by_cases h7 : o.kind = 7
  · exact take7 S o ok hT hok hs hb hd h7
  by_cases h8 : o.kind = 8
  · exact take8 S o ok hT hok hs hb hd h8
  by_cases h9 : o.kind = 9
  · exact take9 S o ok hT hok hs hb hd h9
  have h0 : ∀ i : Nat, 1 ≤ i → i ≤ 9 → o.kind ≠ (i : Int) := fun i hi hj => by
    have : i = 1 ∨ i = 2 ∨ i = 3 ∨ i = 4 ∨ i = 5 ∨ i = 6 ∨ i = 7 ∨ i = 8 ∨ i = 9 := by omega
    rcases this with rfl | rfl | rfl | rfl | rfl | rfl | rfl | rfl | rfl <;> assumption
  rw [enc0 o h0]
  exact take0 S o h0
theorem put_op (S : Sep w0 w (cWr p A c (gW bf) :: l)) (o : OpV) (ok : OpOk w0 o) (hT : U8T w0) (hok : okO o = true) (hf : bf.length + (encO o).length ≤ 65507) :
    Calls Tryd.prog 37 #[.pointer (some ⟨p, 0, none⟩), o.val] w (PutPost w0 p (bf ++ encO o) l) := by
  by_cases h1 : o.kind = 1
  · exact put1 S o ok hT hok hf h1
  by_cases h2 : o.kind = 2
  · exact put2 S o ok hT hok hf h2
  by_cases h3 : o.kind = 3
  · exact put3 S o ok hT hok hf h3
  by_cases h4 : o.kind = 4
  · exact put4 S o ok hT hok hf h4
  by_cases h5 : o.kind = 5
  · exact put5 S o ok hT hok hf h5
  by_cases h6 : o.kind = 6
  · exact put6 S o ok hT hok hf h6
  by_cases h7 : o.kind = 7
  · exact put7 S o ok hT hok hf h7
  by_cases h8 : o.kind = 8
  · exact put8 S o ok hT hok hf h8
  by_cases h9 : o.kind = 9
  · exact put9 S o ok hT hok hf h9
  have h0 : ∀ i : Nat, 1 ≤ i → i ≤ 9 → o.kind ≠ (i : Int) := fun i hi hj => by
    have : i = 1 ∨ i = 2 ∨ i = 3 ∨ i = 4 ∨ i = 5 ∨ i = 6 ∨ i = 7 ∨ i = 8 ∨ i = 9 := by omega
    rcases this with rfl | rfl | rfl | rfl | rfl | rfl | rfl | rfl | rfl <;> assumption
  rw [enc0 o h0, List.append_nil]
  exact put0 S o h0
end
end Go.Proofs.YtbhmnkpbaeemeaaDoor
