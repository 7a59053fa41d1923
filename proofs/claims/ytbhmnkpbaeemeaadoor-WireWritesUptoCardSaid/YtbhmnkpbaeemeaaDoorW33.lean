import Derived.Test.YtbhmnkpbaeemeaaDoorW32
import Derived.Deep.RegionWith
set_option linter.unusedVariables false
set_option linter.unusedSimpArgs false
namespace Go.Proofs.YtbhmnkpbaeemeaaDoor
open Go.RowKit


set_option maxRecDepth 100000 in
theorem lay6 {w0 w : World} {P A : Option Addr} {c q : Nat} {A2 : Option Addr} {c2 : Nat} {s : WrS} (h : PW w0 w P A c q A2 c2 s) (o : OpV) (ok : OpOk w0 o) (hT : U8T w0) (hk : o.kind = 6) :
    Calls Tryd.prog 26 #[.pointer P, .pointer (some ⟨q, 0, none⟩), o.val] w fun e w' => LayPost w0 w' e P q := by
  obtain ⟨kind, num, int, Ab, n, cb, b, t, most⟩ := o
  simp only at hk
  subst hk
  have hnum := ok.num
  have hi := ok.int
  simp only at hnum hi
  have H := Lib.hid h
  have OK := Lib.hid ok
  have HT := Lib.hid hT
  obtain ⟨g, hg⟩ : ∃ g, g = w.heap.size := ⟨_, rfl⟩
  have X := Lib.hid (Blk.new w (OpV.cells ⟨6, num, int, Ab, n, cb, b, t, most⟩) 53)
  have H1 := Lib.hid (h.below (below1 w (.cells (OpV.cells ⟨6, num, int, Ab, n, cb, b, t, most⟩) 53)))
  rw [← hg] at X
  have G := Lib.hid hg
  clear h ok hT
  unfold OpV.cells at X H1
  unfold OpV.val
  simp only at X H1 ⊢
  go_enter Tryd.func26, Tryd.ntmps26
  go_wp2_with fail
  rw [← hg]
  clear hg
  generalize (w.alloc (.cells #[.int .i64 6, .int .u64 (num : Int), .int .i64 int, .slice Ab n cb, .string t, .int .i64 most] 53)) = w1 at *
  refine (Flag_wn H1.out.wn _).mono ?_
  rintro e w2 ⟨rfl, hq⟩
  have X2 := box_kept H.out G.out X.out hq.chg_
  have k1 : w2.cell? ⟨g, 1, none⟩ = some (.int .u64 (num : Int)) := X2.cell 1
  have HQ := Lib.hid hq
  have HR := Lib.hid (H1.out.mid hq)
  clear X2 hq
  go_wp2_with fail
  refine (rFlag_any HR.out _).mono ?_
  rintro e w3 ⟨rfl, hr⟩
  
  have HP := Lib.hid (H1.out.step HQ.out hr)
  clear hr
  go_wp2
  go_ret
  obtain ⟨A', c', A2', c2', hp⟩ := HP.out
  exact ⟨rfl, A', c', A2', c2', _, hp⟩

set_option maxRecDepth 100000 in
theorem lay10 {w0 w : World} {P A : Option Addr} {c q : Nat} {A2 : Option Addr} {c2 : Nat} {s : WrS} (h : PW w0 w P A c q A2 c2 s) (o : OpV) (ok : OpOk w0 o) (hT : U8T w0) (hk : o.kind = 10) :
    Calls Tryd.prog 26 #[.pointer P, .pointer (some ⟨q, 0, none⟩), o.val] w fun e w' => LayPost w0 w' e P q := by
  obtain ⟨kind, num, int, Ab, n, cb, b, t, most⟩ := o
  simp only at hk
  subst hk
  have hnum := ok.num
  have hi := ok.int
  simp only at hnum hi
  have H := Lib.hid h
  have OK := Lib.hid ok
  have HT := Lib.hid hT
  obtain ⟨g, hg⟩ : ∃ g, g = w.heap.size := ⟨_, rfl⟩
  have X := Lib.hid (Blk.new w (OpV.cells ⟨10, num, int, Ab, n, cb, b, t, most⟩) 53)
  have H1 := Lib.hid (h.below (below1 w (.cells (OpV.cells ⟨10, num, int, Ab, n, cb, b, t, most⟩) 53)))
  rw [← hg] at X
  have G := Lib.hid hg
  clear h ok hT
  unfold OpV.cells at X H1
  unfold OpV.val
  simp only at X H1 ⊢
  go_enter Tryd.func26, Tryd.ntmps26
  go_wp2_with fail
  rw [← hg]
  clear hg
  generalize (w.alloc (.cells #[.int .i64 10, .int .u64 (num : Int), .int .i64 int, .slice Ab n cb, .string t, .int .i64 most] 53)) = w1 at *
  refine (written_any H1.out.wn H1.out.rw_).mono ?_
  rintro e w2 ⟨rfl, hb⟩
  have HP := Lib.hid (H1.out.below hb)
  clear hb
  go_wp2
  go_ret
  exact ⟨rfl, A, c, A2, c2, s, HP.out⟩

set_option maxRecDepth 100000 in
theorem lay11 {w0 w : World} {P A : Option Addr} {c q : Nat} {A2 : Option Addr} {c2 : Nat} {s : WrS} (h : PW w0 w P A c q A2 c2 s) (o : OpV) (ok : OpOk w0 o) (hT : U8T w0) (hk : o.kind = 11) :
    Calls Tryd.prog 26 #[.pointer P, .pointer (some ⟨q, 0, none⟩), o.val] w fun e w' => LayPost w0 w' e P q := by
  obtain ⟨kind, num, int, Ab, n, cb, b, t, most⟩ := o
  simp only at hk
  subst hk
  have hnum := ok.num
  have hi := ok.int
  simp only at hnum hi
  have H := Lib.hid h
  have OK := Lib.hid ok
  have HT := Lib.hid hT
  obtain ⟨g, hg⟩ : ∃ g, g = w.heap.size := ⟨_, rfl⟩
  have X := Lib.hid (Blk.new w (OpV.cells ⟨11, num, int, Ab, n, cb, b, t, most⟩) 53)
  have H1 := Lib.hid (h.below (below1 w (.cells (OpV.cells ⟨11, num, int, Ab, n, cb, b, t, most⟩) 53)))
  rw [← hg] at X
  have G := Lib.hid hg
  clear h ok hT
  unfold OpV.cells at X H1
  unfold OpV.val
  simp only at X H1 ⊢
  go_enter Tryd.func26, Tryd.ntmps26
  go_wp2
  rw [← hg]
  generalize (w.alloc (.cells #[.int .i64 11, .int .u64 (num : Int), .int .i64 int, .slice Ab n cb, .string t, .int .i64 most] 53)) = w1 at *
  have cq : w1.cell? ⟨q, 2, none⟩ = some (.slice A2 s.buf.length c2) := H1.out.rw_.blk.cell 2
  have HL : ∀ k, Hid (Calls Tryd.prog 27 #[.pointer P] (w1.drewN k) fun e w' => e = .returned (.int .i64 (s.buf.length : Int)) ∧ w1.drewN k = w') := fun k => Len_wn (H1.out.wn.chg ((Chg.refl _ (fun _ => False)).drewN k) fun _ _ => id)
  go_region_with (go_at_call 27; (first | refine (HL 1).out.mono ?_ | refine (HL 0).out.mono ?_); rintro e w' ⟨rfl, rfl⟩)
  all_goals
    go_wp2
    refine bodyPost_ret (v := .bool true) (by simp [results, Tryd.results26, go_sem, Act.put]) rfl ?_
    exact ⟨rfl, A, c, A2, c2, s, H1.out.below (below_drewN (Below.refl _ w1) 1)⟩

theorem lay0 {w0 w : World} {P A : Option Addr} {c q : Nat} {A2 : Option Addr} {c2 : Nat} {s : WrS} (h : PW w0 w P A c q A2 c2 s) (o : OpV) (hk : ∀ i : Nat, 1 ≤ i → i ≤ 11 → o.kind ≠ (i : Int)) :
    Calls Tryd.prog 26 #[.pointer P, .pointer (some ⟨q, 0, none⟩), o.val] w fun e w' => LayPost w0 w' e P q := by
  obtain ⟨kind, num, int, Ab, n, cb, b, t, most⟩ := o
  simp only at hk
  have e1 : (kind == 1) = false := by simpa using hk 1 (by decide) (by decide)
  have e2 : (kind == 2) = false := by simpa using hk 2 (by decide) (by decide)
  have e3 : (kind == 3) = false := by simpa using hk 3 (by decide) (by decide)
  have e4 : (kind == 4) = false := by simpa using hk 4 (by decide) (by decide)
  have e5 : (kind == 5) = false := by simpa using hk 5 (by decide) (by decide)
  have e6 : (kind == 6) = false := by simpa using hk 6 (by decide) (by decide)
  have e7 : (kind == 7) = false := by simpa using hk 7 (by decide) (by decide)
  have e8 : (kind == 8) = false := by simpa using hk 8 (by decide) (by decide)
  have e9 : (kind == 9) = false := by simpa using hk 9 (by decide) (by decide)
  have e10 : (kind == 10) = false := by simpa using hk 10 (by decide) (by decide)
  have e11 : (kind == 11) = false := by simpa using hk 11 (by decide) (by decide)
  have H := Lib.hid h
  clear h hk
  unfold OpV.val
  simp only
  go_enter Tryd.func26, Tryd.ntmps26
  go_wp2
  go_ret
  exact ⟨rfl, A, c, A2, c2, s, H.out.below (below1 w _)⟩
end Go.Proofs.YtbhmnkpbaeemeaaDoor
