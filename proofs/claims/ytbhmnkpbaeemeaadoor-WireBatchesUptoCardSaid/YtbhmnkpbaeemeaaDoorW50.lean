import Derived.Test.YtbhmnkpbaeemeaaDoorK5
import Derived.Test.YtbhmnkpbaeemeaaDoorOps
set_option linter.unusedVariables false
set_option linter.unusedSimpArgs false
namespace Go.Proofs.YtbhmnkpbaeemeaaDoor
open Go.RowKit

theorem Sep.lose {w0 w w' : World} {l : List Ch} {a : Ch} (h : Sep w0 w (a :: l)) (hc : Chg w w' a.F) : Sep w0 w' l :=
  (h.mod hc ⟨fun _ => False, fun _ => True, fun _ _ _ h => h.elim, fun _ _ _ _ _ _ => trivial⟩ trivial fun _ h => h.elim).tail

section
variable {w0 w w' : World} {P A : Option Addr} {c : Nat} {A2 : Option Addr} {c2 : Nat} {s s' : RdS} {l : List Ch} {p q : Nat}

theorem quiet_l {P : Program} {f : FuncId} {args : Array Value} {w : World} {n : Nat} {v : Value}
    (h : Calls P f args (w.drewN n) fun e w' => e = .returned v ∧ w.drewN n = w') : Calls P f args (w.drewN n) fun e w'' => e = .returned v ∧ ∃ m, w'' = w.drewN m :=
  h.mono fun _ _ ⟨he, hm⟩ => ⟨he, n, hm.symm⟩
theorem quiet_d {P : Program} {f : FuncId} {args : Array Value} {w : World} {n : Nat} {v : Value}
    (h : Calls P f args (w.drewN n) fun e w' => e = .returned v ∧ ∃ m, w' = (w.drewN n).drewN m) : Calls P f args (w.drewN n) fun e w'' => e = .returned v ∧ ∃ m, w'' = w.drewN m :=
  h.mono fun _ _ ⟨he, m, hm⟩ => ⟨he, n + m, by rw [hm, World.drewN_drewN]⟩

theorem fix_bool (V : Nat) : ((V : Int) == (V : Int)) = true := by simp

theorem readFixed1 (S : Sep w0 w (cRN P A c s :: cRr q A2 c2 s :: l)) :
    Calls Tryd.prog 87 #[.pointer P, .pointer (some ⟨q, 0, none⟩), .int .i64 1] w fun e w' => e = .returned (.bool true) ∧ Sep w0 w' (cRN P A c (s.sumS 1) :: cRr q A2 c2 (s.sumS 1) :: l) := by
  have HA := Lib.hid (rnU8 S)
  have hV : s.sumV 1 < 256 := s.sumV_lt 1
  have HB : Hid (∀ w1, Sep w0 w1 (cRN P A c (s.sumS 1) :: cRr q A2 c2 s :: l) → Calls Tryd.prog 140 #[.pointer (some ⟨q, 0, none⟩), .int .i64 1] w1 fun e w' => e = .returned (.int .u64 (s.sumV 1 : Int)) ∧ Sep w0 w' (cRN P A c (s.sumS 1) :: cRr q A2 c2 (s.sumS 1) :: l)) := fun w1 S1 =>
    (rrFixed S1.fr1 1 (by omega) (by omega)).mono fun e w' ⟨h1, h2⟩ => ⟨h1, h2.fr1⟩
  generalize s.sumV 1 = V at *
  clear S
  go_enter Tryd.func87, Tryd.ntmps87
  go_wp2_with first | (go_at_call 69; refine HA.out.mono ?_; rintro e w1 ⟨rfl, hS⟩; have S1 := Lib.hid hS; clear hS) | (go_at_call 140; refine (HB.out _ S1.out).mono ?_; rintro e w2 ⟨rfl, hS⟩)
  go_ret
  exact ⟨rfl, hS⟩
theorem readFixed2 (S : Sep w0 w (cRN P A c s :: cRr q A2 c2 s :: l)) :
    Calls Tryd.prog 87 #[.pointer P, .pointer (some ⟨q, 0, none⟩), .int .i64 2] w fun e w' => e = .returned (.bool true) ∧ Sep w0 w' (cRN P A c (s.sumS 2) :: cRr q A2 c2 (s.sumS 2) :: l) := by
  have HA := Lib.hid (rnU16 S)
  have hV : s.sumV 2 < 65536 := s.sumV_lt 2
  have HB : Hid (∀ w1, Sep w0 w1 (cRN P A c (s.sumS 2) :: cRr q A2 c2 s :: l) → Calls Tryd.prog 140 #[.pointer (some ⟨q, 0, none⟩), .int .i64 2] w1 fun e w' => e = .returned (.int .u64 (s.sumV 2 : Int)) ∧ Sep w0 w' (cRN P A c (s.sumS 2) :: cRr q A2 c2 (s.sumS 2) :: l)) := fun w1 S1 =>
    (rrFixed S1.fr1 2 (by omega) (by omega)).mono fun e w' ⟨h1, h2⟩ => ⟨h1, h2.fr1⟩
  generalize s.sumV 2 = V at *
  clear S
  go_enter Tryd.func87, Tryd.ntmps87
  go_wp2_with first | (go_at_call 68; refine HA.out.mono ?_; rintro e w1 ⟨rfl, hS⟩; have S1 := Lib.hid hS; clear hS) | (go_at_call 140; refine (HB.out _ S1.out).mono ?_; rintro e w2 ⟨rfl, hS⟩)
  go_ret
  exact ⟨rfl, hS⟩
theorem readFixed3 (S : Sep w0 w (cRN P A c s :: cRr q A2 c2 s :: l)) :
    Calls Tryd.prog 87 #[.pointer P, .pointer (some ⟨q, 0, none⟩), .int .i64 3] w fun e w' => e = .returned (.bool true) ∧ Sep w0 w' (cRN P A c (s.sumS 4) :: cRr q A2 c2 (s.sumS 4) :: l) := by
  have HA := Lib.hid (rnU32 S)
  have hV : s.sumV 4 < 4294967296 := s.sumV_lt 4
  have HB : Hid (∀ w1, Sep w0 w1 (cRN P A c (s.sumS 4) :: cRr q A2 c2 s :: l) → Calls Tryd.prog 140 #[.pointer (some ⟨q, 0, none⟩), .int .i64 4] w1 fun e w' => e = .returned (.int .u64 (s.sumV 4 : Int)) ∧ Sep w0 w' (cRN P A c (s.sumS 4) :: cRr q A2 c2 (s.sumS 4) :: l)) := fun w1 S1 =>
    (rrFixed S1.fr1 4 (by omega) (by omega)).mono fun e w' ⟨h1, h2⟩ => ⟨h1, h2.fr1⟩
  generalize s.sumV 4 = V at *
  clear S
  go_enter Tryd.func87, Tryd.ntmps87
  go_wp2_with first | (go_at_call 70; refine HA.out.mono ?_; rintro e w1 ⟨rfl, hS⟩; have S1 := Lib.hid hS; clear hS) | (go_at_call 140; refine (HB.out _ S1.out).mono ?_; rintro e w2 ⟨rfl, hS⟩)
  go_ret
  exact ⟨rfl, hS⟩
theorem readFixed4 (S : Sep w0 w (cRN P A c s :: cRr q A2 c2 s :: l)) :
    Calls Tryd.prog 87 #[.pointer P, .pointer (some ⟨q, 0, none⟩), .int .i64 4] w fun e w' => e = .returned (.bool true) ∧ Sep w0 w' (cRN P A c (s.sumS 8) :: cRr q A2 c2 (s.sumS 8) :: l) := by
  have HA := Lib.hid (rnU64 S)
  have HB : Hid (∀ w1, Sep w0 w1 (cRN P A c (s.sumS 8) :: cRr q A2 c2 s :: l) → Calls Tryd.prog 140 #[.pointer (some ⟨q, 0, none⟩), .int .i64 8] w1 fun e w' => e = .returned (.int .u64 (s.sumV 8 : Int)) ∧ Sep w0 w' (cRN P A c (s.sumS 8) :: cRr q A2 c2 (s.sumS 8) :: l)) := fun w1 S1 =>
    (rrFixed S1.fr1 8 (by omega) (by omega)).mono fun e w' ⟨h1, h2⟩ => ⟨h1, h2.fr1⟩
  generalize s.sumV 8 = V at *
  clear S
  go_enter Tryd.func87, Tryd.ntmps87
  go_wp2_with first | (go_at_call 103; refine HA.out.mono ?_; rintro e w1 ⟨rfl, hS⟩; have S1 := Lib.hid hS; clear hS) | (go_at_call 140; refine (HB.out _ S1.out).mono ?_; rintro e w2 ⟨rfl, hS⟩)
  go_ret
  exact ⟨rfl, hS⟩

/-- The reference's refusal in its box, then the program's error told. -/
theorem stands_any (S : Sep w0 w (cRN P A c s :: cRr q A2 c2 s :: l)) :
    Calls Tryd.prog 34 #[.pointer P, .pointer (some ⟨q, 0, none⟩)] w fun e w' => e = .returned (.bool true) ∧ Sep w0 w' (cRN P A c s :: cRr q A2 c2 s :: l) := by
  have HA := Lib.hid (rrEnd S.fr1)
  have HS := Lib.hid S
  have ok : s.Ok := S.rnCases.1
  have hle := ok.le
  have hsm := ok.small
  have HE : Hid (∀ w1 l, Sep w0 w1 (cRN P A c s :: l) → Calls Tryd.prog 40 #[.pointer P] w1 fun e w' => ∃ err, e = .returned err ∧ ErrIs w' err s.endC s.endA ∧ Below w1.heap.size w1 w') := fun w1 l S1 => rnEnd S1
  generalize s.endC = ec at *
  generalize s.endA = ea at *
  clear S ok
  go_enter Tryd.func34, Tryd.ntmps34
  go_wp2_with fail
  refine HA.out.mono ?_
  rintro e w1 ⟨rfl, hb⟩
  have S1 := Lib.hid (HS.out.kept hb)
  clear hb
  go_wp2_with fail
  have S2 := Lib.hid (S1.out.box #[.int .i64 ec, .int .i64 ea] 29)
  refine (HE.out _ _ S2.out.fr1).mono ?_
  rintro e w3 ⟨err, rfl, he, hb⟩
  have S3 := Lib.hid (S2.out.kept hb)
  have HEr := Lib.hid he
  clear he hb
  go_wp2_with fail
  refine (told_any _ err ec ea HEr.out).mono ?_
  rintro e w4 ⟨rfl, q4, rfl⟩
  obtain ⟨W, hW⟩ : ∃ W, W = w3.drewN q4 := ⟨_, rfl⟩
  rw [← hW]
  have S4 := Lib.hid (by rw [hW]; exact S3.out.drewN q4 : Sep w0 W (cBlk w1.heap.size #[.int .i64 ec, .int .i64 ea] 29 :: cRN P A c s :: cRr q A2 c2 s :: l))
  have X4 : Blk W w1.heap.size #[.int .i64 ec, .int .i64 ea] 29 := S4.out.h0
  have R4 : Rr W q A2 c2 s := S4.out.h2
  have n0 : W.cell? ⟨w1.heap.size, 0, none⟩ = some (.int .i64 ec) := X4.cell 0
  have n1 : W.cell? ⟨w1.heap.size, 1, none⟩ = some (.int .i64 ea) := X4.cell 1
  have d2 : W.cell? ⟨q, 2, none⟩ = some (.int .i64 (s.off : Int)) := R4.blk.cell 2
  have HAt := fun n => Lib.hid (rnAt (S4.out.fr1.drewN n))
  have HLe := fun n => Lib.hid (rnLeft (S4.out.fr1.drewN n))
  have HRl := fun n => Lib.hid (rrLeft (S4.out.fr2.drewN n))
  have HSL := Lib.hid S4.out.tail
  clear X4 R4 hW
  go_wp2
  go_quiet ((first | (go_at_call 41; exact quiet_l (HAt _).out) | (go_at_call 42; exact quiet_d (HLe _).out) | (go_at_call 100; exact quiet_d (HRl _).out)))
  go_wp2
  go_ret
  exact ⟨rfl, HSL.out.drewN _⟩
end
end Go.Proofs.YtbhmnkpbaeemeaaDoor
