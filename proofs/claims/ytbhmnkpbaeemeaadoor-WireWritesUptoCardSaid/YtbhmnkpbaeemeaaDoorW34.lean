import Derived.Test.YtbhmnkpbaeemeaaDoorW33
set_option linter.unusedVariables false
set_option linter.unusedSimpArgs false
namespace Go.Proofs.YtbhmnkpbaeemeaaDoor
open Go.RowKit
set_option maxHeartbeats 800000

set_option maxRecDepth 100000 in
theorem lay8 {w0 w : World} {P A : Option Addr} {c q : Nat} {A2 : Option Addr} {c2 : Nat} {s : WrS} (h : PW w0 w P A c q A2 c2 s) (o : OpV) (ok : OpOk w0 o) (hT : U8T w0) (hk : o.kind = 8) :
    Calls Tryd.prog 26 #[.pointer P, .pointer (some ⟨q, 0, none⟩), o.val] w fun e w' => LayPost w0 w' e P q := by
  obtain ⟨kind, num, int, Ab, n, cb, b, t, most⟩ := o
  simp only at hk
  subst hk
  have hnum := ok.num
  have hi := ok.int
  simp only at hnum hi
  have H := Lib.hid h
  have OK := Lib.hid ok
  have HT := Lib.hid hT
  obtain ⟨g, hg⟩ : ∃ g, g = w.heap.size := ⟨_, rfl⟩
  have X := Lib.hid (Blk.new w (OpV.cells ⟨8, num, int, Ab, n, cb, b, t, most⟩) 53)
  have H1 := Lib.hid (h.below (below1 w (.cells (OpV.cells ⟨8, num, int, Ab, n, cb, b, t, most⟩) 53)))
  rw [← hg] at X
  have G := Lib.hid hg
  clear h ok hT
  unfold OpV.cells at X H1
  unfold OpV.val
  simp only at X H1 ⊢
  go_enter Tryd.func26, Tryd.ntmps26
  go_wp2_with fail
  rw [← hg]
  clear hg
  generalize (w.alloc (.cells #[.int .i64 8, .int .u64 (num : Int), .int .i64 int, .slice Ab n cb, .string t, .int .i64 most] 53)) = w1 at *
  have hn : n ≤ 2000000 := OK.out.n
  have XB := Lib.hid (H1.out.rd OK.out.rd)
  have hgl : g < w1.heap.size := X.out.lt
  simp only at XB
  refine (lend_any w1 _ _ _ b XB.out (by omega)).mono ?_
  rintro e w2 ⟨A5, c5, rfl, ho, hb⟩
  have X2 := X.out.kept hb
  have k3 : w2.cell? ⟨g, 3, none⟩ = some (.slice Ab n cb) := X2.cell 3
  have k5 : w2.cell? ⟨g, 5, none⟩ = some (.int .i64 most) := X2.cell 5
  have H2 := Lib.hid (H1.out.below hb)
  have O5 := Lib.hid ho
  have XX2 := Lib.hid X2
  have HB2 := Lib.hid hb
  clear ho X2 hb
  go_wp2_with fail
  have hF : ∀ k, inA A5 k → ¬ wnF P A k := fun k hk hw => by
    have h1 := (O5.out.lt hk).1
    have h2 := H1.out.wn.lt hw
    omega
  refine (Blob_wn H2.out.wn _ _ _ b _ (O5.out.rd.front (by have := XB.out.len; exact this)) (fun _ k hk => hF k hk) (by omega)).mono ?_
  rintro e w3 ⟨rfl, hq⟩
  have hc3 := hq.chg_
  have X3 := XX2.out.chg hc3 fun hf => by have h2 := H1.out.wn.lt hf; have := G.out; have h3 := H.out.wn.lt hf; omega
  have k3 : w3.cell? ⟨g, 3, none⟩ = some (.slice Ab n cb) := X3.cell 3
  have k5 : w3.cell? ⟨g, 5, none⟩ = some (.int .i64 most) := X3.cell 5
  have O53 := Lib.hid (O5.out.chg hc3 hF)
  have HQ := Lib.hid hq
  have R3 := Lib.hid (H2.out.mid hq)
  have XX3 := Lib.hid X3
  have XB3 := Lib.hid ((XB.out.below HB2.out).chg hc3 fun h0 k hk hw => by
    have h1 := OK.out.rd.in_ h0 k hk
    have h2 := H.out.new k hw
    omega)
  clear hq hc3 X3
  go_wp2_with fail
  refine (rBlob_any R3.out _ _ _ b _ XB3.out (by omega)).mono ?_
  rintro e w4 ⟨rfl, hr⟩
  have hch : Chg w3 w4 (· = q) := by obtain ⟨_, _, _, h2, _⟩ := id hr; exact h2
  have hqn : w0.heap.size ≤ q := H.out.new2 q (.inl rfl)
  have hql : q < w.heap.size := H.out.rw_.lt (.inl rfl)
  have X4 := XX3.out.chg hch (fun e => by have := G.out; omega)
  have k3 : w4.cell? ⟨g, 3, none⟩ = some (.slice Ab n cb) := X4.cell 3
  have hw1 : w.heap.size < w1.heap.size := by have := G.out; omega
  have O54 := Lib.hid (O53.out.chg hch fun k hk e => by
    have h1 := (O5.out.lt hk).1
    omega)
  have XB4 := Lib.hid (XB3.out.chg hch fun h0 k hk e => by
    have h1 := OK.out.rd.in_ h0 k hk
    omega)
  have HP := Lib.hid (H2.out.step2 HQ.out hr)
  have HW4 := Lib.hid hr
  clear hr hch X4
  go_wp2_with fail
  refine (kept_true w4 _ _ _ b O54.out.rd _ _ XB4.out (by omega)).mono ?_
  rintro e w5 ⟨rfl, q5, rfl⟩
  go_wp2_with fail
  obtain ⟨A', c', A2', c2', hp, hP, hQ⟩ := HP.out
  have l3 : w2.heap.size ≤ w3.heap.size := HQ.out.chg_.size
  have l4 : w3.heap.size ≤ w4.heap.size := by
    obtain ⟨_, _, _, h2, _⟩ := HW4.out
    exact h2.size
  have hle4 : w1.heap.size ≤ (w4.drewN q5).heap.size := by
    have h1 := HB2.out.size
    show w1.heap.size ≤ w4.heap.size
    omega
  refine (spoil_any _ w1.heap.size A5 n c5 b ((O54.out.front XB4.out.len (by omega)).drewN q5) (by omega) hle4 3 (by decide)).mono ?_
  rintro e w5 ⟨rfl, hc⟩
  have HP5 := Lib.hid ((hp.below (below_drewN (Below.refl _ w4) q5)).chg hc (fun k hk hk5 => by
    have h1 := O5.out.lt hk5
    rcases hP k hk with h | h
    · exact hF k hk5 h
    · omega) (fun k hk hk5 => by
    have h1 := O5.out.lt hk5
    rcases hQ k hk with h | h
    · have := H.out.rw_.lt h
      omega
    · omega) (fun k hk5 => by
    have h1 := (O5.out.lt hk5).1
    have := H.out.bel.size
    omega))
  clear hc hp hP hQ
  go_wp2
  go_ret
  exact ⟨rfl, A', c', A2', c2', _, HP5.out⟩
end Go.Proofs.YtbhmnkpbaeemeaaDoor
