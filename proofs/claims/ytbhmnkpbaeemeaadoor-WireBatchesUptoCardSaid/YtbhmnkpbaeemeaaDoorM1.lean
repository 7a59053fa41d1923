import Derived.Test.YtbhmnkpbaeemeaaDoorK5
import Derived.Test.YtbhmnkpbaeemeaaDoorK4
import Derived.Test.YtbhmnkpbaeemeaaDoorStream1
set_option linter.unusedVariables false
set_option linter.unusedSimpArgs false
/-! # L1 -/
namespace Go.Proofs.YtbhmnkpbaeemeaaDoor
open Go.RowKit

/-! ## Rows of any element -/
/-- n elements of 'size' cells each, of the call's own. -/
def Ow (w : World) (T : TypeId) (size : Nat) (A : Option Addr) (n c : Nat) (xs : List Value) : Prop := w.ownsRow 0 T size (.slice A n c) n xs

section
variable {w w' : World} {T : TypeId} {size : Nat} {A : Option Addr} {n c : Nat} {xs : List Value}
theorem Ow.lt (h : Ow w T size A n c xs) {k : Nat} (hk : inA A k) : k < w.heap.size := (World.ownsRow.lt h k (inA_own.2 hk)).2
theorem Ow.chg {F : Nat → Prop} (h : Ow w T size A n c xs) (hb : Chg w w' F) (hF : ∀ k, inA A k → ¬ F k) : Ow w' T size A n c xs := by
  have hlt := World.ownsRow.lt h
  obtain ⟨h1, h2⟩ := h
  refine ⟨h1, ?_⟩
  rcases h2 with h2 | ⟨g, cap, cur, e, hg, hh, r⟩
  · exact .inl h2
  · cases e
    refine .inr ⟨g, _, cur, rfl, hg, ?_, r⟩
    rw [hb.block g (hlt g rfl).2 (hF g ⟨_, rfl, rfl⟩), hh]
theorem Ow.nil (w : World) (T : TypeId) (size : Nat) : Ow w T size none 0 0 [] := World.ownsRow_nil w 0 _ _
theorem Ow.len (h : Ow w T size A n c xs) : xs.length = n * size := h.1
theorem Ow.le (h : Ow w T size A n c xs) : n ≤ c ∧ c ≤ 9223372036854775807 := by
  obtain ⟨h1, h2⟩ := h
  rcases h2 with ⟨e, h0⟩ | ⟨g, cap, cur, e, _, hg, h2, h3, h4, h5⟩
  · cases e; omega
  · cases e; unfold maxLen at h3; omega
theorem Ow.form (h : Ow w T size A n c xs) : (A = none ∧ n = 0 ∧ c = 0) ∨ ∃ g, A = some ⟨g, 0, none⟩ := by
  obtain ⟨h1, h2⟩ := h
  rcases h2 with ⟨e, h2⟩ | ⟨g, cap, cur, e, hg, r⟩
  · cases e
    exact .inl ⟨rfl, h2, rfl⟩
  · cases e
    exact .inr ⟨g, rfl⟩
theorem Ow.cell {g : Nat} (h : Ow w T size (some ⟨g, 0, none⟩) n c xs) (i : Nat) (hi : i < xs.length) : w.cell? ⟨g, i, none⟩ = some (xs[i]'hi) := by
  have := World.ownsRow.cells h (g := g) rfl i (xs[i]'hi) (List.getElem?_eq_getElem hi)
  have ea : (⟨g, 0, none⟩ : Addr).add i = ⟨g, i, none⟩ := by unfold Addr.add; split <;> simp_all
  rw [ea] at this
  exact this
theorem Ow.frozen {g : Nat} (h : Ow w T size (some ⟨g, 0, none⟩) n c xs) (i : Nat) : w.frozen? ⟨g, i, none⟩ = false := by
  obtain ⟨h1, h2⟩ := h
  rcases h2 with ⟨e, h2⟩ | ⟨g', cap, cur, e, _, hg, _⟩
  · cases e
  · cases e
    simp [World.frozen?, hg]
end

def cOw (T : TypeId) (size : Nat) (A : Option Addr) (n c : Nat) (xs : List Value) : Ch where
  F := inA A
  P w := Ow w T size A n c xs
  lt w h k hk := h.lt hk
  loc w w' G h hc hF := h.chg hc hF

/-- What the program's table says of a slice's element. -/
structure ElI (sl T : TypeId) (z : Value) (size bytes : Nat) : Prop where
  und : Tryd.prog.underlying sl = some (.slice T)
  info : (Tryd.prog.info? T).map (fun i => (i.zero, i.size, i.bytes)) = some (some z, size, bytes)
  zs : z.cells.size = size
  pos : 0 < size

set_option maxRecDepth 100000 in
/-- append: in place, or in a new block. -/
theorem run_app {sl T : TypeId} {z : Value} {size bytes : Nat} (E : ElI sl T z size bytes) (ty : TypeId) {w : World} {A : Option Addr} {n c : Nat} {xs : List Value} (h : Ow w T size A n c xs)
    (ad : Addr) (m c2 : Nat) (news : List Value) (hl : news.length = m * size) (hnews : ∀ j u, news[j]? = some u → w.cell? (ad.add j) = some u) (h1 : ∀ u ∈ news, u.oneCell' = true)
    (hm : 0 < m) (hbytes : (n + m) * bytes ≤ 140737488355328) (h63 : n + m ≤ 1000000000000) :
    ∃ A' c' w', (Builtin.append_ #[sl, sl] ty #[.slice A n c, .slice (some ad) m c2]).run Tryd.prog w = .ok (.slice A' (n + m) c') w' ∧ Ow w' T size A' (n + m) c' (xs ++ news) ∧
      ((A' = A ∧ c' = c ∧ Chg w w' (inA A)) ∨ (A' = some ⟨w.heap.size, 0, none⟩ ∧ Below w.heap.size w w')) := by
  obtain ⟨i, hi, hz, hsz, hby⟩ := info_parts E.info
  subst hsz hby
  have hlen : (xs ++ news).length = (n + m) * i.size := by rw [List.length_append, h.len, hl, Nat.add_mul]
  have hpos := E.pos
  have hzs := E.zs
  have fresh : ∀ old, old < n + m → Ow (w.drew.alloc (.cells (xs.toArray ++ news.toArray ++ Builtin.zeroCells z.cells (grownCap w (n + m) old T - (n + m))) T)) T i.size (some ⟨w.heap.size, 0, none⟩) (n + m) (grownCap w (n + m) old T) (xs ++ news) ∧
      Below w.heap.size w (w.drew.alloc (.cells (xs.toArray ++ news.toArray ++ Builtin.zeroCells z.cells (grownCap w (n + m) old T - (n + m))) T)) := by
    intro old ho
    have hge := grownCap_ge w (n + m) old T
    have hcm := grownCap_le_maxLen w (n + m) old T (by unfold maxLen; omega)
    refine ⟨⟨hlen, .inr ⟨w.heap.size, _, _, rfl, Nat.zero_le _, heap_alloc_new w.drew _, hge, hcm, ?_, ?_⟩⟩, (below_drewN (Below.refl _ w) 1).alloc (Nat.le_refl _) _⟩
    · have h3 : xs.length = n * i.size := h.len
      simp only [Array.size_append, List.size_toArray, size_zeroCells, hzs, h3, hl, ← Nat.add_mul]
      congr 1
      omega
    · have e2 : (xs.toArray ++ news.toArray ++ Builtin.zeroCells z.cells (grownCap w (n + m) old T - (n + m))).toList = (xs ++ news) ++ (Builtin.zeroCells z.cells (grownCap w (n + m) old T - (n + m))).toList := by simp
      rw [e2]
      exact List.take_left' hlen
  have hx0 := h.len
  rcases id h with ⟨_, h2⟩
  rcases h2 with ⟨e, h0⟩ | ⟨g, cap, cur, e, hbg, hg, hnc, hcm, hcs, htake⟩
  · cases e
    clear h0
    have hx : xs = [] := List.eq_nil_of_length_eq_zero (by simpa using hx0)
    subst hx
    have hr := run_append_nil (P := Tryd.prog) w sl ty T i z E.und hi hz ad m c2 news hl hnews hm (by omega) (by have hb := hbytes; simp only [Nat.zero_add] at hb; omega)
    obtain ⟨f1, f2⟩ := fresh 0 (by omega)
    simp only [Nat.zero_add, List.nil_append, Array.empty_append] at f1 f2 ⊢
    exact ⟨_, _, _, hr, f1, .inr ⟨rfl, f2⟩⟩
  · cases e
    by_cases hroom : n + m ≤ c
    · have hfit : n * i.size + news.length ≤ cur.size := by rw [hl, hcs, ← Nat.add_mul]; exact Nat.mul_le_mul_right _ hroom
      have hr := run_append_room (P := Tryd.prog) w sl ty T i E.und hi g n c cur hg ad m c2 news hl hnews h1 hroom hfit
      refine ⟨_, _, _, hr, ⟨hlen, .inr ⟨g, c, _, rfl, Nat.zero_le _, setRow_heap w g cur _ T _ hg, hroom, hcm, ?_, ?_⟩⟩, .inl ⟨rfl, rfl, (Chg.refl w _).setRow (fun _ => inA_some.2 rfl) _⟩⟩
      · simp only [List.size_toArray, List.length_append, List.length_take, List.length_drop, Array.length_toList]
        omega
      · rw [htake, ← hlen]
        exact List.take_left
    · have hr := run_append_grow (P := Tryd.prog) w sl ty T i z E.und hi hz ⟨g, 0, none⟩ n c xs hx0 (World.ownsRow.cells h (g := g) rfl) ad m c2 news hl hnews (by omega) (by omega) (growslice_fits (by omega) hbytes)
      obtain ⟨f1, f2⟩ := fresh c (by omega)
      exact ⟨_, _, _, hr, f1, .inr ⟨rfl, f2⟩⟩

/-- At the operation: one element, boxed just before; the old slice is given up. -/
theorem sep_app1 {sl T : TypeId} {z : Value} {size bytes : Nat} (E : ElI sl T z size bytes) {w0 W : World} {ops : Array Oper} {rest : List Oper} {o : Oper} {a : Act} {Q : Exit → Act → World → Prop} (hgd : o.guard = none) (s x : Operand)
    (ho : o.op = .call { callee := .builtin .append, args := #[s, x], argTypes := #[sl, sl] })
    {A : Option Addr} {n c : Nat} {xs : List Value} {l : List Ch} (hs : a.eval s = .slice A n c) (S : Sep w0 W (cOw T size A n c xs :: l))
    (cs : Array Value) (hx : a.eval x = .slice (some ⟨W.heap.size, 0, none⟩) 1 1) (hcs : cs.size = size) (h1 : ∀ u ∈ cs.toList, u.oneCell' = true) (hb : (n + 1) * bytes ≤ 140737488355328) (h63 : n + 1 ≤ 1000000000000)
    (h : ∀ A' c' w', Sep w0 w' (cOw T size A' (n + 1) c' (xs ++ cs.toList) :: l) → wpList Tryd.prog ops Q rest (a.put o.dst (.slice A' (n + 1) c')) w') :
    wpList Tryd.prog ops Q (o :: rest) a (W.alloc (.cells cs T)) := by
  refine wpList_plain hgd fun K hK => ?_
  have SW := (S.box cs T).tail
  have hsz : (W.alloc (.cells cs T)).heap.size = W.heap.size + 1 := by simp
  obtain ⟨A', c', w', hr, h2, h3⟩ := run_app E o.type (show Ow (W.alloc (.cells cs T)) T size A n c xs from SW.h0) ⟨W.heap.size, 0, none⟩ 1 1 cs.toList (by simp [hcs]) (fun j u hj => by
    have ea : (⟨W.heap.size, 0, none⟩ : Addr).add j = ⟨W.heap.size, j, none⟩ := by unfold Addr.add; split <;> simp_all
    rw [ea, (Blk.new W cs T).cell j]
    simpa using hj) h1 (by omega) hb h63
  unfold Oper.wp execOp
  simp only [ho, resolve, invoke, builtin, Sem.run_bind, Sem.run_pure, Result.andThen_ok, List.map_toArray, List.map_cons, List.map_nil, hs, hx, hr]
  refine hK _ _ (h A' c' w' ?_)
  rcases h3 with ⟨rfl, rfl, hc⟩ | ⟨rfl, hbl⟩
  · exact SW.mod hc (cOw T size A' (n + 1) c' (xs ++ cs.toList)) h2 fun k hk => .inl hk
  · exact SW.tail.push hbl (cOw T size _ (n + 1) c' (xs ++ cs.toList)) h2 fun k hk => by rw [inA_some.1 hk]; exact Nat.le_refl _
end Go.Proofs.YtbhmnkpbaeemeaaDoor

/-! # L2 -/
namespace Go.Proofs.YtbhmnkpbaeemeaaDoor
open Go.RowKit

/-! ## Requests and batches -/
structure RQ where
  client : Nat
  seq : Nat
  A : Option Addr
  n : Nat
  c : Nat
  b : List UInt8
def RQ.cells (q : RQ) : List Value := [.int .u64 (q.client : Int), .int .u64 (q.seq : Int), .slice q.A q.n q.c]
structure RqOk (w : World) (q : RQ) : Prop where
  client : q.client < 18446744073709551616
  seq : q.seq < 18446744073709551616
  rd : Rd w q.A q.n q.c q.b
  n : q.n ≤ 2000000

/-- What reads as these requests. -/
structure RdQ (w : World) (A : Option Addr) (n c : Nat) (qs : List RQ) : Prop where
  len : qs.length = n
  le : n ≤ c
  max : c ≤ 9223372036854775807
  at_ : ∀ i (h : i < qs.length), ∃ b o, A = some ⟨b, o, none⟩ ∧ w.cell? ⟨b, o + i * 3, none⟩ = some (.int .u64 ((qs[i]'h).client : Int)) ∧ w.cell? ⟨b, o + i * 3 + 1, none⟩ = some (.int .u64 ((qs[i]'h).seq : Int)) ∧ w.cell? ⟨b, o + i * 3 + 2, none⟩ = some (.slice (qs[i]'h).A (qs[i]'h).n (qs[i]'h).c)
  ok : ∀ q ∈ qs, RqOk w q
theorem RqOk.below {w w' : World} {q : RQ} (h : RqOk w q) (hb : Below w.heap.size w w') : RqOk w' q := ⟨h.client, h.seq, h.rd.below hb, h.n⟩
theorem RdQ.below {w w' : World} {A : Option Addr} {n c : Nat} {qs : List RQ} (h : RdQ w A n c qs) (hb : Below w.heap.size w w') : RdQ w' A n c qs :=
  ⟨h.len, h.le, h.max, fun i hi => by
    obtain ⟨b, o, e, h0, h1, h2⟩ := h.at_ i hi
    have hl : b < w.heap.size := World.block_lt_of_cell? w _ h0
    exact ⟨b, o, e, (hb.cell hl).trans h0, (hb.cell hl).trans h1, (hb.cell hl).trans h2⟩, fun q hq => (h.ok q hq).below hb⟩
theorem RdQ.drewN {w : World} {A : Option Addr} {n c : Nat} {qs : List RQ} (h : RdQ w A n c qs) (k : Nat) : RdQ (w.drewN k) A n c qs := h.below (below_drewN (Below.refl _ _) k)

/-! ### why a batch may not be laid down; its bytes -/
def rqBad (q : RQ) : Nat := if q.client < 256 then 29 else if 700 < q.b.length then 21 else 0
def reqsNo : List RQ → Nat → Nat × Nat
  | [], _ => (0, 0)
  | q :: l, i => if rqBad q ≠ 0 then (rqBad q, 2 + i) else reqsNo l (i + 1)
def batchNo (stamp : Nat) (qs : List RQ) : Nat × Nat := if 1099511627776 < stamp then (29, 0) else if 8 < qs.length then (21, 1) else reqsNo qs 0
def encRq (q : RQ) : List UInt8 := numB q.client ++ (numB q.seq ++ (numB q.b.length ++ q.b))
def encBt (stamp : Nat) (qs : List RQ) : List UInt8 := numB stamp ++ (numB qs.length ++ (qs.map encRq).flatten)
theorem reqsNo_at (qs : List RQ) (k : Nat) (h : k < qs.length) : reqsNo (qs.drop k) k = if rqBad (qs[k]'h) ≠ 0 then (rqBad (qs[k]'h), 2 + k) else reqsNo (qs.drop (k + 1)) (k + 1) := by
  rw [List.drop_eq_getElem_cons h]
  rfl
theorem reqsNo_zero {qs : List RQ} : ∀ i, (reqsNo qs i).1 = 0 → ∀ q ∈ qs, rqBad q = 0 := by
  induction qs with
  | nil => intro i _ q hq; simp at hq
  | cons q l ih =>
    intro i h q' hq'
    unfold reqsNo at h
    by_cases hb : rqBad q ≠ 0
    · rw [if_pos hb] at h; exact absurd h hb
    · rw [if_neg hb] at h
      rcases List.mem_cons.1 hq' with rfl | hq'
      · omega
      · exact ih _ h q' hq'
theorem rqBad_zero {q : RQ} (h : rqBad q = 0) : 256 ≤ q.client ∧ q.b.length ≤ 700 := by
  unfold rqBad at h
  split at h
  · omega
  · split at h <;> omega
theorem encRq_le {q : RQ} (h : q.b.length ≤ 700) (h1 : q.client < 18446744073709551616) (h2 : q.seq < 18446744073709551616) : (encRq q).length ≤ 730 := by
  have a := numB_len64 q.client h1
  have b := numB_len64 q.seq h2
  have c := numB_len64 q.b.length (by omega)
  simp only [encRq, List.length_append]
  omega
theorem encRqs_le {qs : List RQ} (h : ∀ q ∈ qs, (encRq q).length ≤ 730) : ((qs.map encRq).flatten).length ≤ 730 * qs.length := by
  induction qs with
  | nil => simp
  | cons q l ih =>
    have h1 := h q (.head _)
    have h2 := ih fun x hx => h x (.tail _ hx)
    simp only [List.map_cons, List.flatten_cons, List.length_append, List.length_cons]
    omega

/-! ### the reference: batchNo -/
set_option maxRecDepth 100000 in
set_option maxHeartbeats 1000000 in
theorem rBatchNo (w : World) (stamp : Nat) (hst : stamp < 18446744073709551616) (A : Option Addr) (n c : Nat) (qs : List RQ) (hq : RdQ w A n c qs) :
    Calls Tryd.prog 104 #[.agg #[.int .u64 (stamp : Int), .slice A n c]] w fun e w' => e = .returned (.agg #[.int .i64 ((batchNo stamp qs).1 : Int), .int .i64 ((batchNo stamp qs).2 : Int)]) ∧ Below w.heap.size w w' := by
  have hl := hq.len
  subst hl
  have hle := hq.le
  have hmx := hq.max
  have HQ := Lib.hid hq
  clear hq
  by_cases h1 : 1099511627776 < stamp
  · have e : batchNo stamp qs = (29, 0) := by simp [batchNo, h1]
    rw [e]
    clear e
    go_enter Tryd.func104, Tryd.ntmps104
    go_wp2
    refine bodyPost_ret (v := .agg #[.int .i64 29, .int .i64 0]) (by simp [results, Tryd.results104, go_sem]) rfl ?_
    exact ⟨rfl, by go_grown⟩
  · by_cases h2 : 8 < qs.length
    · have e : batchNo stamp qs = (21, 1) := by simp [batchNo, h1, h2]
      rw [e]
      clear e
      go_enter Tryd.func104, Tryd.ntmps104
      go_wp2
      refine bodyPost_ret (v := .agg #[.int .i64 21, .int .i64 1]) (by simp [results, Tryd.results104, go_sem]) rfl ?_
      exact ⟨rfl, by go_grown⟩
    · have e : batchNo stamp qs = reqsNo qs 0 := by simp [batchNo, h1, h2]
      rw [e]
      clear e
      go_enter Tryd.func104, Tryd.ntmps104
      go_wp2
      go_loop [3] (fun i => ∃ k : Nat, k ≤ qs.length ∧ i = .int .i64 (k : Int) ∧ Hid (reqsNo qs 0 = reqsNo (qs.drop k) k)) (fun i => qs.length - (intOf i).toNat)
      case atStart => exact ⟨0, Nat.zero_le _, rfl, rfl⟩
      case round =>
        obtain ⟨k, hk, rfl, HR⟩ := hrel
        by_cases hlt : k < qs.length
        · obtain ⟨b, o, rfl, c0, c1, c2⟩ := HQ.out.at_ k hlt
          have hb0 : b < w.heap.size := World.block_lt_of_cell? w _ c0
          have hne0 : ¬ b = w.heap.size := by omega
          have hne1 : ¬ b = w.heap.size + 1 := by omega
          have ok := HQ.out.ok _ (List.getElem_mem hlt)
          have hcl := ok.client
          have hql := ok.rd.len
          have hn := ok.n
          have HS := Lib.hid (reqsNo_at qs k hlt)
          generalize (qs[k]'hlt) = q at *
          by_cases hb1 : q.client < 256
          · have HZ : Hid (reqsNo qs 0 = (29, 2 + k)) := by
              have : rqBad q = 29 := by simp [rqBad, hb1]
              show _ = _
              rw [HR.out, HS.out, this]; rfl
            clear HR HS ok
            go_wp2
            refine bodyPost_ret (v := .agg #[.int .i64 29, .int .i64 (2 + (k : Int))]) (by simp [results, Tryd.results104, go_sem]) rfl ?_
            exact ⟨by rw [HZ.out]; simp, by go_grown⟩
          · by_cases hb2 : 700 < q.n
            · have HZ : Hid (reqsNo qs 0 = (21, 2 + k)) := by
                have : rqBad q = 21 := by simp [rqBad, hb1]; omega
                show _ = _
                rw [HR.out, HS.out, this]; rfl
              clear HR HS ok
              go_wp2
              refine bodyPost_ret (v := .agg #[.int .i64 21, .int .i64 (2 + (k : Int))]) (by simp [results, Tryd.results104, go_sem]) rfl ?_
              exact ⟨by rw [HZ.out]; simp, by go_grown⟩
            · have HZ : Hid (reqsNo qs 0 = reqsNo (qs.drop (k + 1)) (k + 1)) := by
                have : rqBad q = 0 := by simp [rqBad, hb1]; omega
                show _ = _
                rw [HR.out, HS.out, this]; rfl
              clear HR HS ok
              go_wp2
              go_round
              case rel => exact ⟨k + 1, by omega, by go_num, HZ⟩
              case measure => simp [intOf]; omega
        · have HZ : Hid (reqsNo qs 0 = (0, 0)) := by
            have := HR.out
            rw [List.drop_eq_nil_of_le (by omega)] at this
            exact this
          clear HR
          go_wp2
          refine bodyPost_ret (v := .agg #[.int .i64 0, .int .i64 0]) (by simp [results, Tryd.results104, go_sem]) rfl ?_
          exact ⟨by rw [HZ.out]; rfl, by go_grown⟩
end Go.Proofs.YtbhmnkpbaeemeaaDoor

/-! # L3 -/
set_option maxRecDepth 100000
namespace Go.Proofs.YtbhmnkpbaeemeaaDoor
open Go.RowKit

/-! ## laying a batch down -/
def cRw (q : Nat) (A : Option Addr) (c : Nat) (s : WrS) : Ch where
  F := wrF q A
  P w := Rw w q A c s
  lt w h k hk := h.lt hk
  loc w w' G h hc hF := h.chg hc hF
/-- What a call on the reference's writer leaves. -/
def RwG (w0 : World) (q : Nat) (bf : List UInt8) (l : List Ch) (e : Ending) (w' : World) : Prop :=
  e = .returned (.tuple #[]) ∧ ∃ A' c', Sep w0 w' (cRw q A' c' (gW bf) :: l)
/-- What a call on the program's writer leaves. -/
def WrG (w0 : World) (p : Nat) (bf : List UInt8) (l : List Ch) (e : Ending) (w' : World) : Prop :=
  e = .returned (.tuple #[]) ∧ ∃ A' c', Sep w0 w' (cWr p A' c' (gW bf) :: l)

section
variable {w0 w w' : World} {A : Option Addr} {c : Nat} {l : List Ch} {p q : Nat} {bf : List UInt8}
theorem Sep.rwP (S : Sep w0 w (cRw q A c (gW bf) :: l)) {xs : List UInt8} (hf : bf.length + xs.length ≤ 65507) (h : RwPost w w' q A ((gW bf).lay 0 xs)) : ∃ A' c', Sep w0 w' (cRw q A' c' (gW (bf ++ xs)) :: l) := by
  rw [gW_lay _ _ hf] at h
  obtain ⟨A', c', h1, h2, h3⟩ := h
  refine ⟨A', c', S.mod (h2.mono fun k _ e => .inl e) (cRw q A' c' _) h1 fun k hk => ?_⟩
  rcases hk with rfl | hk
  · exact .inl (.inl rfl)
  · rcases h3 k hk with h | h
    · exact .inl (.inr h)
    · exact .inr h
theorem Sep.wrP (S : Sep w0 w (cWr p A c (gW bf) :: l)) {xs : List UInt8} (hf : bf.length + xs.length ≤ 65507) (h : WrPost w w' p A ((gW bf).lay 0 xs)) : ∃ A' c', Sep w0 w' (cWr p A' c' (gW (bf ++ xs)) :: l) := by
  rw [gW_lay _ _ hf] at h
  exact S.wr h

theorem rwNum (S : Sep w0 w (cRw q A c (gW bf) :: l)) (v : Nat) (hv : v < 18446744073709551616) (hf : bf.length + (numB v).length ≤ 65507) :
    Calls Tryd.prog 76 #[.pointer (some ⟨q, 0, none⟩), .int .u64 (v : Int)] w (RwG w0 q (bf ++ numB v) l) :=
  (rNum_any S.h0 v hv).mono fun e w' ⟨h1, h2⟩ => ⟨h1, S.rwP hf h2⟩
theorem rwBlob (S : Sep w0 w (cRw q A c (gW bf) :: l)) (Ab : Option Addr) (n cb : Nat) (b : List UInt8) (hr : Rd w Ab n cb b) (most : Int) (hm : (b.length : Int) ≤ most) (hn : n ≤ 2000000) (hf : bf.length + (numB b.length ++ b).length ≤ 65507) :
    Calls Tryd.prog 82 #[.pointer (some ⟨q, 0, none⟩), .slice Ab n cb, .int .i64 most] w (RwG w0 q (bf ++ (numB b.length ++ b)) l) := by
  refine (rBlob_any S.h0 Ab n cb b most hr (by omega)).mono fun e w' ⟨h1, h2⟩ => ⟨h1, S.rwP hf ?_⟩
  rw [show (gW bf).blob b most = (gW bf).lay 0 (numB b.length ++ b) by unfold WrS.blob; rw [if_neg (by omega)]] at h2
  exact h2
theorem wrNum (S : Sep w0 w (cWr p A c (gW bf) :: l)) (v : Nat) (hv : v < 18446744073709551616) (hf : bf.length + (numB v).length ≤ 65507) :
    Calls Tryd.prog 75 #[.pointer (some ⟨p, 0, none⟩), .int .u64 (v : Int)] w (WrG w0 p (bf ++ numB v) l) :=
  (Num_any S.h0 v hv).mono fun e w' ⟨h1, h2⟩ => ⟨h1, S.wrP hf h2⟩
theorem wrCount (S : Sep w0 w (cWr p A c (gW bf) :: l)) (v : Nat) (m : Int) (hm : (v : Int) ≤ m) (hv : v ≤ 1000000000) (hf : bf.length + (numB v).length ≤ 65507) :
    Calls Tryd.prog 79 #[.pointer (some ⟨p, 0, none⟩), .int .i64 (v : Int), .int .i64 m] w (WrG w0 p (bf ++ numB v) l) := by
  refine (Count_any S.h0 (v : Int) m (by omega)).mono fun e w' ⟨h1, h2⟩ => ⟨h1, S.wrP hf ?_⟩
  rw [show (gW bf).count (v : Int) m = (gW bf).lay 0 (numB v) by unfold WrS.count; rw [if_neg (by omega), Int.toNat_natCast]] at h2
  exact h2
theorem wrBlob (S : Sep w0 w (cWr p A c (gW bf) :: l)) (Ab : Option Addr) (n cb : Nat) (b : List UInt8) (hr : Rd w Ab n cb b) (hF : 0 < n → ∀ k, inA Ab k → ¬ wrF p A k) (most : Int) (hm : (b.length : Int) ≤ most) (hn : n ≤ 2000000) (hf : bf.length + (numB b.length ++ b).length ≤ 65507) :
    Calls Tryd.prog 81 #[.pointer (some ⟨p, 0, none⟩), .slice Ab n cb, .int .i64 most] w (WrG w0 p (bf ++ (numB b.length ++ b)) l) := by
  refine (Blob_any S.h0 Ab n cb b most hr hF (by omega)).mono fun e w' ⟨h1, h2⟩ => ⟨h1, S.wrP hf ?_⟩
  rw [show (gW bf).blob b most = (gW bf).lay 0 (numB b.length ++ b) by unfold WrS.blob; rw [if_neg (by omega)]] at h2
  exact h2
end

def rqs (qs : List RQ) : List UInt8 := (qs.map encRq).flatten
theorem rqs_succ (qs : List RQ) (k : Nat) (h : k < qs.length) : rqs (qs.take (k + 1)) = rqs (qs.take k) ++ encRq (qs[k]'h) := by
  unfold rqs
  rw [List.take_succ_eq_append_getElem h, List.map_append, List.flatten_append]
  simp
theorem rqs_le (qs : List RQ) (k : Nat) : (rqs (qs.take k)).length ≤ (rqs qs).length := by
  have e : rqs qs = rqs (qs.take k) ++ rqs (qs.drop k) := by
    unfold rqs
    conv => lhs; rw [← List.take_append_drop k qs, List.map_append, List.flatten_append]
  rw [e, List.length_append]
  omega

section
variable {w0 w w' : World} {A : Option Addr} {c : Nat} {l : List Ch} {p q : Nat} {bf : List UInt8}
set_option maxHeartbeats 1000000 in
theorem rLayBatch (S : Sep w0 w (cRw q A c (gW bf) :: l)) (stamp : Nat) (hst : stamp < 18446744073709551616) (Aq : Option Addr) (n cq : Nat) (qs : List RQ) (hq : RdQ w0 Aq n cq qs) (hb : ∀ x ∈ qs, x.b.length ≤ 700) (hn : n ≤ 1000000)
    (hf : bf.length + (encBt stamp qs).length ≤ 65507) :
    Calls Tryd.prog 105 #[.pointer (some ⟨q, 0, none⟩), .agg #[.int .u64 (stamp : Int), .slice Aq n cq]] w (RwG w0 q (bf ++ encBt stamp qs) l) := by
  have hl := hq.len
  subst hl
  have hle := hq.le
  have hmx := hq.max
  have HQ := Lib.hid hq
  have HB := Lib.hid hb
  have he : encBt stamp qs = numB stamp ++ (numB qs.length ++ rqs qs) := rfl
  rw [he] at hf ⊢
  simp only [List.length_append] at hf
  have HF := Lib.hid hf
  have X := Lib.hid (S.box #[.int .u64 (stamp : Int), .slice Aq qs.length cq] 83).fr1
  obtain ⟨g, hg⟩ : ∃ g, g = w.heap.size := ⟨_, rfl⟩
  rw [← hg] at X
  clear hq hb he hf S
  unfold RwG
  go_enter Tryd.func105, Tryd.ntmps105
  go_wp2_with fail
  rw [← hg]
  clear hg
  generalize (w.alloc (.cells #[.int .u64 (stamp : Int), .slice Aq qs.length cq] 83)) = w1 at *
  refine (rwNum X.out stamp hst (by have := HF.out; omega)).mono ?_
  rintro e w2 ⟨rfl, A2, c2, hS⟩
  have S2 := Lib.hid hS
  have XB : Blk w2 g _ _ := hS.h1
  have k1 : w2.cell? ⟨g, 1, none⟩ = some (.slice Aq qs.length cq) := XB.cell 1
  clear hS XB
  go_wp2_with fail
  refine (rwNum S2.out qs.length (by omega) (by have := HF.out; simp only [List.length_append]; omega)).mono ?_
  rintro e w3 ⟨rfl, A3, c3, hS⟩
  have S3 := Lib.hid hS
  clear hS
  go_wp2
  go_loopw [4] (fun i wr => ∃ (k : Nat) (A' : Option Addr) (c' : Nat), k ≤ qs.length ∧ i = .int .i64 (k : Int) ∧ Hid (Sep w0 wr (cRw q A' c' (gW (bf ++ numB stamp ++ numB qs.length ++ rqs (qs.take k))) :: cBlk g #[.int .u64 (stamp : Int), .slice Aq qs.length cq] 83 :: l))) (fun i _ => qs.length - (intOf i).toNat)
  case atStart => exact ⟨0, A3, c3, Nat.zero_le _, rfl, by rw [show rqs (qs.take 0) = [] from rfl, List.append_nil]; exact S3.out⟩
  case round =>
    obtain ⟨k, A4, c4, hk, rfl, R⟩ := hrel
    have XB : Blk wr g _ _ := R.out.h1
    have k1 : wr.cell? ⟨g, 1, none⟩ = some (.slice Aq qs.length cq) := XB.cell 1
    clear XB
    by_cases hlt : k < qs.length
    · obtain ⟨b, o, rfl, c0, c1, cc2⟩ := HQ.out.at_ k hlt
      have hb0 : b < w0.heap.size := World.block_lt_of_cell? w0 _ c0
      have d0 := (R.out.bel.cell hb0).trans c0
      clear c0
      have ok := HQ.out.ok _ (List.getElem_mem hlt)
      have hbl := HB.out _ (List.getElem_mem hlt)
      have hcl := ok.client
      have hsq := ok.seq
      have hrn := ok.n
      have HRD := Lib.hid ok.rd
      have HSU := Lib.hid (rqs_succ qs k hlt)
      have hff : bf.length + (numB stamp).length + (numB qs.length).length + (rqs (qs.take k)).length + (encRq (qs[k]'hlt)).length ≤ 65507 := by
        have h1 := rqs_le qs (k + 1)
        rw [HSU.out, List.length_append] at h1
        have := HF.out
        omega
      have HFF := Lib.hid hff
      clear hff ok
      generalize (qs[k]'hlt) = x at *
      simp only [encRq, List.length_append] at HFF
      go_wp2_with fail
      refine (rwNum R.out x.client hcl (by have := HFF.out; simp only [List.length_append]; omega)).mono ?_
      rintro e w5 ⟨rfl, A5, c5, hS⟩
      have S5 := Lib.hid hS
      have XB : Blk w5 g _ _ := hS.h1
      have k1 : w5.cell? ⟨g, 1, none⟩ = some (.slice (some ⟨b, o, none⟩) qs.length cq) := XB.cell 1
      have d1 := (S5.out.bel.cell hb0).trans c1
      clear hS XB c1
      go_wp2_with fail
      refine (rwNum S5.out x.seq hsq (by have := HFF.out; simp only [List.length_append]; omega)).mono ?_
      rintro e w6 ⟨rfl, A6, c6, hS⟩
      have S6 := Lib.hid hS
      have XB : Blk w6 g _ _ := hS.h1
      have k1 : w6.cell? ⟨g, 1, none⟩ = some (.slice (some ⟨b, o, none⟩) qs.length cq) := XB.cell 1
      have d2 := (S6.out.bel.cell hb0).trans cc2
      clear hS XB cc2
      go_wp2_with fail
      refine (rwBlob S6.out x.A x.n x.c x.b (S6.out.rd HRD.out) 700 (by omega) hrn (by have := HFF.out; simp only [List.length_append]; omega)).mono ?_
      rintro e w7 ⟨rfl, A7, c7, hS⟩
      have S7 := Lib.hid hS
      clear hS
      go_wp2
      go_roundw
      case rel => exact ⟨k + 1, A7, c7, by omega, by go_num, by rw [HSU.out]; show Sep _ _ _; simpa [encRq, List.append_assoc] using S7.out⟩
      case measure => simp [intOf]; omega
    · have hkk : k = qs.length := by omega
      subst hkk
      go_wp2
      go_returns
      have := R.out.d1
      rw [List.take_length] at this
      exact ⟨rfl, A4, c4, by simpa [List.append_assoc] using this⟩
end
end Go.Proofs.YtbhmnkpbaeemeaaDoor

/-! # L4 -/
set_option maxRecDepth 100000
namespace Go.Proofs.YtbhmnkpbaeemeaaDoor
open Go.RowKit

theorem short_any (n m : Int) (w : World) : Calls Tryd.prog 117 #[.int .i64 n, .int .i64 m] w fun e w' => e = .returned (.int .i64 (if n ≤ m then 0 else 21)) ∧ w = w' := by
  by_cases h : n ≤ m
  · rw [if_pos h]
    go_enter Tryd.func117, Tryd.ntmps117
    go_wp2
    go_ret
    exact ⟨rfl, rfl⟩
  · rw [if_neg h]
    go_enter Tryd.func117, Tryd.ntmps117
    go_wp2
    go_ret
    exact ⟨rfl, rfl⟩
theorem requestFits_any (w : World) (q : RQ) (ok : RqOk w q) : Calls Tryd.prog 106 #[.agg #[.int .u64 (q.client : Int), .int .u64 (q.seq : Int), .slice q.A q.n q.c]] w fun e w' => e = .returned (.int .i64 (rqBad q : Int)) ∧ Below w.heap.size w w' := by
  have hl := ok.rd.len
  have hc := ok.client
  have hn := ok.n
  by_cases h1 : q.client < 256
  · have e : rqBad q = 29 := by simp [rqBad, h1]
    rw [e]
    clear e ok
    go_enter Tryd.func106, Tryd.ntmps106
    go_wp2
    go_ret
    exact ⟨rfl, by go_grown⟩
  · by_cases h2 : 700 < q.n
    · have e : rqBad q = 21 := by simp [rqBad, h1]; omega
      have HS : ∀ W, Hid (Calls Tryd.prog 117 #[.int .i64 (q.n : Int), .int .i64 700] W fun e w' => e = .returned (.int .i64 21) ∧ W = w') := fun W => by
        have := short_any (q.n : Int) 700 W
        rw [if_neg (by omega)] at this
        exact this
      rw [e]
      clear e ok
      go_enter Tryd.func106, Tryd.ntmps106
      go_wp2_with (go_at_call 117; refine (HS _).out.mono ?_; rintro e w' ⟨rfl, rfl⟩)
      go_ret
      exact ⟨rfl, by go_grown⟩
    · have e : rqBad q = 0 := by simp [rqBad, h1]; omega
      have HS : ∀ W, Hid (Calls Tryd.prog 117 #[.int .i64 (q.n : Int), .int .i64 700] W fun e w' => e = .returned (.int .i64 0) ∧ W = w') := fun W => by
        have := short_any (q.n : Int) 700 W
        rw [if_pos (by omega)] at this
        exact this
      rw [e]
      clear e ok
      go_enter Tryd.func106, Tryd.ntmps106
      go_wp2_with (go_at_call 117; refine (HS _).out.mono ?_; rintro e w' ⟨rfl, rfl⟩)
      go_ret
      exact ⟨rfl, by go_grown⟩

section
variable {w0 w w' : World} {A : Option Addr} {c : Nat} {l : List Ch} {p q : Nat} {bf : List UInt8}
/-- What is known at w0 lies apart from a writer of ours. -/
theorem apart_of (S : Sep w0 w (cWr p A c (gW bf) :: l)) {Ab : Option Addr} {n cb : Nat} {b : List UInt8} (hr : Rd w0 Ab n cb b) : 0 < n → ∀ k, inA Ab k → ¬ wrF p A k := fun h0 k hk hw => by
  have h1 := hr.in_ h0 k hk
  have h2 := S.new _ (.head _) k hw
  omega

set_option maxHeartbeats 2000000 in
theorem wList (S : Sep w0 w (cWr p A c (gW bf) :: l)) (M : Option Addr) (stamp : Nat) (hst : stamp < 18446744073709551616) (Aq : Option Addr) (n cq : Nat) (qs : List RQ) (hq : RdQ w0 Aq n cq qs) (hb : ∀ x ∈ qs, x.b.length ≤ 700) (hn : n ≤ 8)
    (hf : bf.length + (encBt stamp qs).length ≤ 65507) :
    Calls Tryd.prog 107 #[.agg #[.pointer (some ⟨p, 0, none⟩), .pointer M], .agg #[.int .u64 (stamp : Int), .slice Aq n cq]] w (WrG w0 p (bf ++ encBt stamp qs) l) := by
  have hl := hq.len
  subst hl
  have hle := hq.le
  have hmx := hq.max
  have HQ := Lib.hid hq
  have HB := Lib.hid hb
  have he : encBt stamp qs = numB stamp ++ (numB qs.length ++ rqs qs) := rfl
  rw [he] at hf ⊢
  simp only [List.length_append] at hf
  have HF := Lib.hid hf
  have X := Lib.hid ((S.box #[.pointer (some ⟨p, 0, none⟩), .pointer M] 159).box #[.int .u64 (stamp : Int), .slice Aq qs.length cq] 83).fr2
  obtain ⟨g, hg⟩ : ∃ g, g = w.heap.size := ⟨_, rfl⟩
  have hg2 : (w.alloc (.cells #[.pointer (some ⟨p, 0, none⟩), .pointer M] 159)).heap.size = w.heap.size + 1 := by simp
  rw [hg2, ← hg] at X
  clear hq hb he hf S hg2
  unfold WrG
  go_enter Tryd.func107, Tryd.ntmps107
  go_wp2_with fail
  rw [← hg]
  clear hg
  generalize ((w.alloc (.cells #[.pointer (some ⟨p, 0, none⟩), .pointer M] 159)).alloc (.cells #[.int .u64 (stamp : Int), .slice Aq qs.length cq] 83)) = w1 at *
  refine (wrNum X.out stamp hst (by have := HF.out; omega)).mono ?_
  rintro e w2 ⟨rfl, A2, c2, hS⟩
  have S2 := Lib.hid hS
  have XB : Blk w2 (g + 1) _ _ := hS.h1
  have k1 : w2.cell? ⟨g + 1, 1, none⟩ = some (.slice Aq qs.length cq) := XB.cell 1
  have XO : Blk w2 g _ _ := hS.h2
  have j0 : w2.cell? ⟨g, 0, none⟩ = some (.pointer (some ⟨p, 0, none⟩)) := XO.cell 0
  clear hS XB XO
  go_wp2_with fail
  refine (wrCount S2.out qs.length 8 (by omega) (by omega) (by have := HF.out; simp only [List.length_append]; omega)).mono ?_
  rintro e w3 ⟨rfl, A3, c3, hS⟩
  have S3 := Lib.hid hS
  have XB : Blk w3 (g + 1) _ _ := hS.h1
  have k1 : w3.cell? ⟨g + 1, 1, none⟩ = some (.slice Aq qs.length cq) := XB.cell 1
  clear hS XB
  go_wp2
  go_loopw [20] (fun i wr => ∃ (k : Nat) (A' : Option Addr) (c' : Nat), k ≤ qs.length ∧ i = .int .i64 (k : Int) ∧ Hid (Sep w0 wr (cWr p A' c' (gW (bf ++ numB stamp ++ numB qs.length ++ rqs (qs.take k))) :: cBlk (g + 1) #[.int .u64 (stamp : Int), .slice Aq qs.length cq] 83 :: cBlk g #[.pointer (some ⟨p, 0, none⟩), .pointer M] 159 :: l))) (fun i _ => qs.length - (intOf i).toNat)
  case atStart => exact ⟨0, A3, c3, Nat.zero_le _, rfl, by rw [show rqs (qs.take 0) = [] from rfl, List.append_nil]; exact S3.out⟩
  case round =>
    obtain ⟨k, A4, c4, hk, rfl, R⟩ := hrel
    by_cases hlt : k < qs.length
    · obtain ⟨b, o, rfl, c0, c1, cc2⟩ := HQ.out.at_ k hlt
      have hb0 : b < w0.heap.size := World.block_lt_of_cell? w0 _ c0
      have d0 := (R.out.bel.cell hb0).trans c0
      have d1 := (R.out.bel.cell hb0).trans c1
      have d2 := (R.out.bel.cell hb0).trans cc2
      clear c0 c1 cc2
      have XO : Blk wr g _ _ := R.out.h2
      have j0 : wr.cell? ⟨g, 0, none⟩ = some (.pointer (some ⟨p, 0, none⟩)) := XO.cell 0
      have hgl : g < wr.heap.size := XO.lt
      have hbl2 : b < wr.heap.size := World.block_lt_of_cell? wr _ d0
      have hne1 : ¬ b = wr.heap.size := by omega
      have hne2 : ¬ g = wr.heap.size := by omega
      clear XO
      have ok := HQ.out.ok _ (List.getElem_mem hlt)
      have hbl := HB.out _ (List.getElem_mem hlt)
      have hcl := ok.client
      have hsq := ok.seq
      have hrn := ok.n
      have HRD := Lib.hid ok.rd
      have HSU := Lib.hid (rqs_succ qs k hlt)
      have hff : bf.length + (numB stamp).length + (numB qs.length).length + (rqs (qs.take k)).length + (encRq (qs[k]'hlt)).length ≤ 65507 := by
        have h1 := rqs_le qs (k + 1)
        rw [HSU.out, List.length_append] at h1
        have := HF.out
        omega
      have HFF := Lib.hid hff
      clear hff ok
      generalize (qs[k]'hlt) = x at *
      simp only [encRq, List.length_append] at HFF
      have XX := Lib.hid (R.out.box #[.int .u64 (x.client : Int), .int .u64 (x.seq : Int), .slice x.A x.n x.c] 155).fr1
      obtain ⟨h, hh⟩ : ∃ h, h = wr.heap.size := ⟨_, rfl⟩
      rw [← hh] at XX
      go_wp2_with fail
      rw [← hh]
      clear hh hne1 hne2 hgl hbl2 d0 d1 d2 j0
      generalize (wr.alloc (.cells #[.int .u64 (x.client : Int), .int .u64 (x.seq : Int), .slice x.A x.n x.c] 155)) = wx at *
      refine (wrNum XX.out x.client hcl (by have := HFF.out; simp only [List.length_append]; omega)).mono ?_
      rintro e w5 ⟨rfl, A5, c5, hS⟩
      have S5 := Lib.hid hS
      have XB : Blk w5 h _ _ := hS.h1
      have k1 : w5.cell? ⟨h, 1, none⟩ = some (.int .u64 (x.seq : Int)) := XB.cell 1
      have XO : Blk w5 g _ _ := hS.h3
      have j0 : w5.cell? ⟨g, 0, none⟩ = some (.pointer (some ⟨p, 0, none⟩)) := XO.cell 0
      clear hS XB XO
      go_wp2_with fail
      refine (wrNum S5.out x.seq hsq (by have := HFF.out; simp only [List.length_append]; omega)).mono ?_
      rintro e w6 ⟨rfl, A6, c6, hS⟩
      have S6 := Lib.hid hS
      have XB : Blk w6 h _ _ := hS.h1
      have k1 : w6.cell? ⟨h, 2, none⟩ = some (.slice x.A x.n x.c) := XB.cell 2
      have XO : Blk w6 g _ _ := hS.h3
      have j0 : w6.cell? ⟨g, 0, none⟩ = some (.pointer (some ⟨p, 0, none⟩)) := XO.cell 0
      clear hS XB XO
      go_wp2_with fail
      refine (wrBlob S6.out x.A x.n x.c x.b (S6.out.rd HRD.out) (apart_of S6.out HRD.out) 700 (by omega) hrn (by have := HFF.out; simp only [List.length_append]; omega)).mono ?_
      rintro e w7 ⟨rfl, A7, c7, hS⟩
      have S7 := Lib.hid hS.d1
      clear hS
      go_wp2
      go_roundw
      case rel => exact ⟨k + 1, A7, c7, by omega, by go_num, by rw [HSU.out]; show Sep _ _ _; simpa [encRq, List.append_assoc] using S7.out⟩
      case measure => simp [intOf]; omega
    · have hkk : k = qs.length := by omega
      subst hkk
      go_wp2
      go_returns
      have := R.out.d1.d1
      rw [List.take_length] at this
      exact ⟨rfl, A4, c4, by simpa [List.append_assoc] using this⟩
end
end Go.Proofs.YtbhmnkpbaeemeaaDoor

/-! # L5 -/
set_option maxRecDepth 100000
namespace Go.Proofs.YtbhmnkpbaeemeaaDoor
open Go.RowKit

def encBOut (stamp : Nat) (qs : List RQ) : List UInt8 := if (batchNo stamp qs).1 = 0 then encBt stamp qs else []
theorem batchNo_zero {stamp : Nat} {qs : List RQ} (h : (batchNo stamp qs).1 = 0) : stamp ≤ 1099511627776 ∧ qs.length ≤ 8 ∧ ∀ q ∈ qs, rqBad q = 0 := by
  unfold batchNo at h
  split at h
  · simp at h
  · split at h
    · simp at h
    · exact ⟨by omega, by omega, reqsNo_zero 0 h⟩
theorem encBt_le {stamp : Nat} {qs : List RQ} (h : (batchNo stamp qs).1 = 0) (ho : ∀ q ∈ qs, q.client < 18446744073709551616 ∧ q.seq < 18446744073709551616) : (encBt stamp qs).length ≤ 5870 := by
  obtain ⟨h1, h2, h3⟩ := batchNo_zero h
  have a := numB_len64 stamp (by omega)
  have b := numB_len64 qs.length (by omega)
  have c := encRqs_le (qs := qs) fun q hq => encRq_le (rqBad_zero (h3 q hq)).2 (ho q hq).1 (ho q hq).2
  simp only [encBt, List.length_append]
  omega

/-- Bytes to be read, in blocks of their own. -/
def cRd (A : Option Addr) (n c : Nat) (xs : List UInt8) : Ch where
  F := inA A
  P w := Rd w A n c xs ∧ ∀ k, inA A k → k < w.heap.size
  lt w h k hk := h.2 k hk
  loc w w' G h hc hF := ⟨h.1.chg hc fun _ => hF, fun k hk => Nat.lt_of_lt_of_le (h.2 k hk) hc.size⟩
/-- What the reference's call that lays something down leaves. -/
def EncR (w w' : World) (e : Ending) (out : List UInt8) (code at_ : Int) : Prop :=
  ∃ A m c, e = .returned (.tuple #[.slice A m c, .agg #[.int .i64 code, .int .i64 at_]]) ∧ Rd w' A m c out ∧ (∀ k, inA A k → w.heap.size ≤ k ∧ k < w'.heap.size) ∧ Below w.heap.size w w'
theorem reqsNo_snd : ∀ (l : List RQ) i, (reqsNo l i).1 = 0 → (reqsNo l i).2 = 0 := by
  intro l
  induction l with
  | nil => intro i _; rfl
  | cons q l ih =>
    intro i h
    unfold reqsNo at h ⊢
    by_cases hb : rqBad q ≠ 0
    · rw [if_pos hb] at h; exact absurd h hb
    · rw [if_neg hb] at h ⊢; exact ih _ h
theorem batchNo_snd {stamp : Nat} {qs : List RQ} (hno : (batchNo stamp qs).1 = 0) : (batchNo stamp qs).2 = 0 := by
  unfold batchNo at hno ⊢
  split at hno
  · simp at hno
  · rename_i h1
    rw [if_neg h1]
    split at hno
    · simp at hno
    · rename_i h2
      rw [if_neg h2]
      exact reqsNo_snd _ _ hno

set_option maxHeartbeats 2000000 in
theorem rEncodeBatch (w : World) (stamp : Nat) (hst : stamp < 18446744073709551616) (A : Option Addr) (n c : Nat) (qs : List RQ) (hq : RdQ w A n c qs) :
    Calls Tryd.prog 43 #[.agg #[.int .u64 (stamp : Int), .slice A n c]] w fun e w' => EncR w w' e (encBOut stamp qs) ((batchNo stamp qs).1 : Int) ((batchNo stamp qs).2 : Int) := by
  have hl := hq.len
  subst hl
  have HQ := Lib.hid hq
  have hle := hq.le
  have hmx := hq.max
  have S0 := Lib.hid (((Sep.start w).box #[.int .u64 (stamp : Int), .slice A qs.length c] 83).box #[.int .i64 0, .int .i64 0] 29)
  have hz : (w.alloc (.cells #[.int .u64 (stamp : Int), .slice A qs.length c] 83)).heap.size = w.heap.size + 1 := by simp
  rw [hz] at S0
  clear hz hq
  have HN := Lib.hid (rBatchNo _ stamp hst A qs.length c qs (HQ.out.below S0.out.bel))
  by_cases hno : (batchNo stamp qs).1 = 0
  · have ho : encBOut stamp qs = encBt stamp qs := by unfold encBOut; rw [if_pos hno]
    have hz0 := batchNo_zero hno
    have hfit := encBt_le hno fun q hq => ⟨(HQ.out.ok q hq).client, (HQ.out.ok q hq).seq⟩
    have hat := batchNo_snd hno
    rw [ho, hno, hat]
    rw [hno, hat] at HN
    have HF := Lib.hid hfit
    have HZ := Lib.hid hz0
    have hn8 : qs.length ≤ 1000000 := by omega
    clear hno ho hat hfit hz0
    unfold EncR
    go_enter Tryd.func43, Tryd.ntmps43
    go_wp2_with fail
    refine HN.out.mono ?_
    rintro e w2 ⟨rfl, hb⟩
    have S2 := Lib.hid ((S0.out.kept hb).box #[.int .i64 0, .int .i64 0] 29)
    have hw2 : w.heap.size + 1 < w2.heap.size := by have h1 := S0.out.h0; have h2 : Blk _ _ _ _ := h1; have h3 := h2.lt; exact Nat.lt_of_lt_of_le h3 hb.size
    have hne1 : ¬ w.heap.size = w2.heap.size := by omega
    have hne2 : ¬ w.heap.size + 1 = w2.heap.size := by omega
    have hb2 := S0.out.kept hb
    have XB : Blk w2 w.heap.size _ _ := hb2.h1
    have k0 : w2.cell? ⟨w.heap.size, 0, none⟩ = some (.int .u64 (stamp : Int)) := XB.cell 0
    have k1 : w2.cell? ⟨w.heap.size, 1, none⟩ = some (.slice A qs.length c) := XB.cell 1
    have XR : Blk w2 (w.heap.size + 1) _ _ := hb2.h0
    clear hb hb2 XB
    have SL : Hid (Sep w (w2.alloc (.cells #[.int .i64 0, .int .i64 0] 29)) [cBlk (w.heap.size + 1) #[.int .i64 0, .int .i64 0] 29, cBlk w.heap.size #[.int .u64 (stamp : Int), .slice A qs.length c] 83]) := S2.out.tail
    clear S2
    go_wp2_with fail
    refine (rNewWriter_any 65507 _).mono ?_
    rintro e w4 ⟨rfl, hw, hb⟩
    have S4 : Hid (Sep w w4 (cRw (w2.alloc (.cells #[.int .i64 0, .int .i64 0] 29)).heap.size none 0 (gW []) :: [cBlk (w.heap.size + 1) #[.int .i64 0, .int .i64 0] 29, cBlk w.heap.size #[.int .u64 (stamp : Int), .slice A qs.length c] 83])) :=
      SL.out.push hb (cRw _ none 0 (gW [])) hw fun k hk => by
        rcases hk with rfl | ⟨a, e, _⟩
        · exact Nat.le_refl _
        · cases e
    generalize (w2.alloc (.cells #[.int .i64 0, .int .i64 0] 29)).heap.size = q at *
    have XB : Blk w4 w.heap.size _ _ := S4.out.h2
    have k0 : w4.cell? ⟨w.heap.size, 0, none⟩ = some (.int .u64 (stamp : Int)) := XB.cell 0
    have k1 : w4.cell? ⟨w.heap.size, 1, none⟩ = some (.slice A qs.length c) := XB.cell 1
    clear hw hb XB XR SL
    go_wp2_with fail
    refine (rLayBatch S4.out stamp hst A qs.length c qs HQ.out (fun x hx => (rqBad_zero (HZ.out.2.2 x hx)).2) hn8 (by have := HF.out; simp; omega)).mono ?_
    rintro e w5 ⟨rfl, A5, c5, hS⟩
    rw [List.nil_append] at hS
    have S5 := Lib.hid hS
    have XW : Rw w5 q A5 c5 (gW (encBt stamp qs)) := hS.h0
    have j2 : w5.cell? ⟨q, 2, none⟩ = some (.slice A5 (encBt stamp qs).length c5) := XW.blk.cell 2
    have XR : Blk w5 (w.heap.size + 1) _ _ := hS.h1
    have n0 : w5.cell? ⟨w.heap.size + 1, 0, none⟩ = some (.int .i64 0) := XR.cell 0
    have n1 : w5.cell? ⟨w.heap.size + 1, 1, none⟩ = some (.int .i64 0) := XR.cell 1
    have f0 := XR.frozen 0
    have f1 := XR.frozen 1
    clear hS XW XR
    go_wp2
    refine bodyPost_ret (v := .tuple #[.slice A5 (encBt stamp qs).length c5, .agg #[.int .i64 0, .int .i64 0]]) (by simp [results, Tryd.results43, go_sem, n0, n1]) rfl ?_
    have S6 := (S5.out.fr1.set 0 (.int .i64 0)).set 1 (.int .i64 0)
    have XW : Rw _ q A5 c5 (gW (encBt stamp qs)) := S6.h1
    refine ⟨A5, _, c5, rfl, XW.row, fun k hk => ⟨S6.new _ (.tail _ (.head _)) k (.inr hk), XW.lt (.inr hk)⟩, S6.bel⟩
  · have ho : encBOut stamp qs = [] := by unfold encBOut; rw [if_neg hno]
    rw [ho]
    have hnb : (((batchNo stamp qs).1 : Int) != 0) = true := by simp; omega
    clear ho hno
    generalize (batchNo stamp qs) = cc at *
    obtain ⟨code, at_⟩ := cc
    simp only at *
    unfold EncR
    go_enter Tryd.func43, Tryd.ntmps43
    go_wp2_with fail
    refine HN.out.mono ?_
    rintro e w2 ⟨rfl, hb⟩
    have S2 := Lib.hid (S0.out.kept hb)
    have hw2 : w.heap.size + 1 < w2.heap.size := by have h1 := S0.out.h0; have h2 : Blk _ _ _ _ := h1; have h3 := h2.lt; exact Nat.lt_of_lt_of_le h3 hb.size
    have hne2 : ¬ w.heap.size + 1 = w2.heap.size := by omega
    have XR : Blk w2 (w.heap.size + 1) _ _ := (S0.out.kept hb).h0
    have n0 : w2.cell? ⟨w.heap.size + 1, 0, none⟩ = some (.int .i64 0) := XR.cell 0
    have n1 : w2.cell? ⟨w.heap.size + 1, 1, none⟩ = some (.int .i64 0) := XR.cell 1
    have f0 := XR.frozen 0
    have f1 := XR.frozen 1
    clear hb XR
    go_wp2
    go_region
    all_goals
      go_wp2
      have S5 := ((S2.out.set 0 (.int .i64 (code : Int))).set 1 (.int .i64 (at_ : Int))).box #[.int .i64 (code : Int), .int .i64 (at_ : Int)] 29
      have XF : Blk _ (w.heap.size + 1) _ _ := S5.h1
      have m0 : World.cell? _ ⟨w.heap.size + 1, 0, none⟩ = some (.int .i64 (code : Int)) := XF.cell 0
      have m1 : World.cell? _ ⟨w.heap.size + 1, 1, none⟩ = some (.int .i64 (at_ : Int)) := XF.cell 1
      refine bodyPost_ret (v := .tuple #[.slice none 0 0, .agg #[.int .i64 (code : Int), .int .i64 (at_ : Int)]]) (by simp [results, Tryd.results43, go_sem, m0, m1]) rfl ?_
      exact ⟨none, 0, 0, rfl, Rd.nilRd _, (fun k hk => by obtain ⟨a, e, _⟩ := hk; cases e), S5.drew.bel⟩
end Go.Proofs.YtbhmnkpbaeemeaaDoor

/-! # L6 -/
set_option maxRecDepth 100000
namespace Go.Proofs.YtbhmnkpbaeemeaaDoor
open Go.RowKit

theorem fault_e (code at_ : Int) (w : World) (hc : code ≠ 0) : Calls Tryd.prog 61 #[.int .i64 code, .int .i64 at_] w fun e w' => ∃ err, e = .returned err ∧ ErrIs w' err code at_ ∧ Below w.heap.size w w' := by
  refine (fault_any code at_ w).mono ?_
  rintro e w' ⟨rfl, rfl⟩
  exact ⟨_, rfl, .inr ⟨_, rfl, Blk.new _ _ _, hc⟩, below1 _ _⟩

set_option maxHeartbeats 2000000 in
theorem wEncodeBatch (w : World) (stamp : Nat) (hst : stamp < 18446744073709551616) (A : Option Addr) (n c : Nat) (qs : List RQ) (hq : RdQ w A n c qs) :
    Calls Tryd.prog 45 #[.agg #[.int .u64 (stamp : Int), .slice A n c]] w fun e w' => FrmW w w' e (encBOut stamp qs) ((batchNo stamp qs).1 : Int) ((batchNo stamp qs).2 : Int) := by
  have hl := hq.len
  subst hl
  have HQ := Lib.hid hq
  have hle := hq.le
  have hmx := hq.max
  have S0 := Lib.hid ((Sep.start w).box #[.int .u64 (stamp : Int), .slice A qs.length c] 83)
  clear hq
  by_cases h1 : 1099511627776 < stamp
  · have e : batchNo stamp qs = (29, 0) := by simp [batchNo, h1]
    have ho : encBOut stamp qs = [] := by simp [encBOut, e]
    rw [ho, e]
    clear e ho
    unfold FrmW
    go_enter Tryd.func45, Tryd.ntmps45
    go_wp2_with (go_at_call 61; refine (fault_e _ _ _ (by decide)).mono ?_; rintro e w2 ⟨err, rfl, he, hb⟩)
    go_ret2
    exact ⟨none, 0, 0, err, rfl, Ob.nil _ _, he, (S0.out.kept hb).bel⟩
  by_cases h2 : 8 < qs.length
  · have e : batchNo stamp qs = (21, 1) := by simp [batchNo, h1, h2]
    have ho : encBOut stamp qs = [] := by simp [encBOut, e]
    rw [ho, e]
    clear e ho
    unfold FrmW
    go_enter Tryd.func45, Tryd.ntmps45
    go_wp2_with (go_at_call 61; refine (fault_e _ _ _ (by decide)).mono ?_; rintro e w2 ⟨err, rfl, he, hb⟩)
    go_ret2
    exact ⟨none, 0, 0, err, rfl, Ob.nil _ _, he, (S0.out.kept hb).bel⟩
  have e : batchNo stamp qs = reqsNo qs 0 := by simp [batchNo, h1, h2]
  have HE := Lib.hid e
  clear e
  unfold FrmW
  go_enter Tryd.func45, Tryd.ntmps45
  go_wp2
  go_loopw [20] (fun i wr => ∃ (k : Nat), k ≤ qs.length ∧ i = .int .i64 (k : Int) ∧ Hid (reqsNo qs 0 = reqsNo (qs.drop k) k) ∧ Hid (Sep w wr [cBlk w.heap.size #[.int .u64 (stamp : Int), .slice A qs.length c] 83])) (fun i _ => qs.length - (intOf i).toNat)
  case atStart => exact ⟨0, Nat.zero_le _, rfl, rfl, S0.out⟩
  case round =>
    obtain ⟨k, hk, rfl, HR, R⟩ := hrel
    by_cases hlt : k < qs.length
    · obtain ⟨b, o, rfl, c0, c1, c2⟩ := HQ.out.at_ k hlt
      have hb0 : b < w.heap.size := World.block_lt_of_cell? w _ c0
      have d0 := (R.out.bel.cell hb0).trans c0
      have d1 := (R.out.bel.cell hb0).trans c1
      have d2 := (R.out.bel.cell hb0).trans c2
      clear c0 c1 c2
      have hne : ¬ b = wr.heap.size := by have := R.out.bel.size; omega
      have HS := Lib.hid (reqsNo_at qs k hlt)
      have R1 := Lib.hid (R.out.box #[.int .u64 ((qs[k]'hlt).client : Int), .int .u64 ((qs[k]'hlt).seq : Int), .slice (qs[k]'hlt).A (qs[k]'hlt).n (qs[k]'hlt).c] 155).tail
      have ok := HQ.out.ok _ (List.getElem_mem hlt)
      have HF := Lib.hid (requestFits_any _ _ (ok.below R1.out.bel))
      clear ok
      generalize (qs[k]'hlt) = q at *
      by_cases hbd : rqBad q = 0
      · have HZ : Hid (reqsNo qs 0 = reqsNo (qs.drop (k + 1)) (k + 1)) := by
          show _ = _
          rw [HR.out, HS.out, hbd]; rfl
        rw [hbd] at HF
        clear HR HS hbd
        go_wp2_with (go_at_call 106; refine HF.out.mono ?_; rintro e w5 ⟨rfl, hb⟩)
        go_roundw
        case rel => exact ⟨k + 1, by omega, by go_num, HZ, R1.out.kept hb⟩
        case measure => simp [intOf]; omega
      · have HZ : Hid (batchNo stamp qs = (rqBad q, 2 + k)) := by
          show _ = _
          rw [HE.out, HR.out, HS.out, if_pos hbd]
        have hbb : ((rqBad q : Int) != 0) = true := by simp; omega
        have hbi : (rqBad q : Int) ≠ 0 := by omega
        have HO : Hid (encBOut stamp qs = []) := by show _ = _; unfold encBOut; rw [HZ.out, if_neg hbd]
        have HBI := Lib.hid hbi
        clear HR HS hbd hbi
        generalize rqBad q = bad at *
        go_wp2_with first | (go_at_call 106; refine HF.out.mono ?_; rintro e w5 ⟨rfl, hb⟩) | (go_at_call 61; refine (fault_e _ _ _ HBI.out).mono ?_; rintro e w6 ⟨err, rfl, he, hb6⟩)
        go_ret2
        rw [HO.out, HZ.out]
        exact ⟨none, 0, 0, err, rfl, Ob.nil _ _, by simpa using he, ((R1.out.kept hb).kept hb6).bel⟩
    · have HZ : Hid (batchNo stamp qs = (0, 0)) := by
        have := HR.out
        rw [List.drop_eq_nil_of_le (by omega)] at this
        show _ = _
        rw [HE.out, this]; rfl
      have HO : Hid (encBOut stamp qs = encBt stamp qs) := by show _ = _; unfold encBOut; rw [HZ.out, if_pos rfl]
      have hno : (batchNo stamp qs).1 = 0 := by rw [HZ.out]
      have HN := Lib.hid (batchNo_zero hno)
      have hfit := Lib.hid (encBt_le hno fun q hq => ⟨(HQ.out.ok q hq).client, (HQ.out.ok q hq).seq⟩)
      clear hno HR
      go_wp2_with fail
      refine (newWriter_any 65507 _).mono ?_
      rintro e w4 ⟨rfl, hw, hb⟩
      have S4 : Hid (Sep w w4 (cWr wr.heap.size none 0 (gW []) :: [cBlk w.heap.size #[.int .u64 (stamp : Int), .slice A qs.length c] 83])) :=
        R.out.push hb (cWr _ none 0 (gW [])) hw fun k hk => by
          rcases hk with rfl | ⟨a, e, _⟩
          · exact Nat.le_refl _
          · cases e
      generalize wr.heap.size = p at *
      have S5 := Lib.hid (S4.out.box #[.pointer (some ⟨p, 0, none⟩), .pointer none] 159).fr1
      have XB : Blk w4 w.heap.size _ _ := S4.out.h1
      have k0 : w4.cell? ⟨w.heap.size, 0, none⟩ = some (.int .u64 (stamp : Int)) := XB.cell 0
      have k1 : w4.cell? ⟨w.heap.size, 1, none⟩ = some (.slice A qs.length c) := XB.cell 1
      have hlt4 : w.heap.size < w4.heap.size := XB.lt
      have hne : ¬ w.heap.size = w4.heap.size := by omega
      clear hw hb XB
      obtain ⟨g, hg⟩ : ∃ g, g = w4.heap.size := ⟨_, rfl⟩
      rw [← hg] at S5
      go_wp2_with fail
      rw [← hg]
      clear hg hne k0 k1
      generalize (w4.alloc (.cells #[.pointer (some ⟨p, 0, none⟩), .pointer none] 159)) = w5 at *
      refine (wList S5.out none stamp hst A qs.length c qs HQ.out (fun x hx => (rqBad_zero (HN.out.2.2 x hx)).2) (by omega) (by have := hfit.out; simp; omega)).mono ?_
      rintro e w6 ⟨rfl, A6, c6, hS⟩
      rw [List.nil_append] at hS
      have S6 := Lib.hid hS
      have XO : Blk w6 g _ _ := hS.h1
      have j0 : w6.cell? ⟨g, 0, none⟩ = some (.pointer (some ⟨p, 0, none⟩)) := XO.cell 0
      have XW : Hid (Wr w6 p A6 c6 (gW (encBt stamp qs))) := hS.h0
      clear hS XO
      go_wp2_with fail
      refine (Bytes_good XW.out rfl rfl).mono ?_
      rintro e w7 ⟨A7, rfl, ho, hb⟩
      have HOO := Lib.hid ho
      clear ho
      go_wp2
      go_ret2
      rw [HO.out, HZ.out]
      exact ⟨A7, _, _, .nilIface, rfl, HOO.out.mono S6.out.bel.size, .inl ⟨rfl, rfl, rfl⟩, (S6.out.kept hb).bel⟩
end Go.Proofs.YtbhmnkpbaeemeaaDoor

/-! # L7 -/
set_option maxRecDepth 100000
namespace Go.Proofs.YtbhmnkpbaeemeaaDoor
open Go.RowKit

/-! ## Many pieces as one -/
def cAll (l : List Ch) : Ch where
  F k := ∃ c ∈ l, c.F k
  P w := (∀ c ∈ l, c.P w) ∧ l.Pairwise fun (c d : Ch) => ∀ k : Nat, c.F k → ¬ d.F k
  lt w h k hk := by obtain ⟨c, hc, hk⟩ := hk; exact c.lt w (h.1 c hc) k hk
  loc w w' G h hc hF := ⟨fun c hm => c.loc w w' G (h.1 c hm) hc fun k hk => hF k ⟨c, hm, hk⟩, h.2⟩
section
variable {w0 w w' : World} {l r : List Ch} {x : Ch}
theorem Sep.packNil (S : Sep w0 w r) : Sep w0 w (cAll [] :: r) :=
  S.push (Below.refl _ _) (cAll []) ⟨fun c h => by simp at h, .nil⟩ fun k hk => by obtain ⟨c, h, _⟩ := hk; simp at h
theorem Sep.packCons (S : Sep w0 w (x :: cAll l :: r)) : Sep w0 w (cAll (l ++ [x]) :: r) := by
  have h1 := List.pairwise_cons.1 S.sep
  have h2 := List.pairwise_cons.1 h1.2
  have hl : (∀ c ∈ l, c.P w) ∧ l.Pairwise fun (c d : Ch) => ∀ k : Nat, c.F k → ¬ d.F k := S.h1
  have hx : x.P w := S.h0
  have hxl : ∀ c ∈ l, ∀ k, x.F k → ¬ c.F k := fun c hc k hk hk' => h1.1 (cAll l) (.head _) k hk ⟨c, hc, hk'⟩
  refine ⟨S.bel, ?_, List.pairwise_cons.2 ⟨?_, h2.2⟩, ?_⟩
  · intro c hc
    rcases List.mem_cons.1 hc with rfl | hc
    · refine ⟨fun c hc => ?_, List.pairwise_append.2 ⟨hl.2, List.pairwise_singleton _ _, fun a ha b hb => ?_⟩⟩
      · rcases List.mem_append.1 hc with hc | hc
        · exact hl.1 c hc
        · rw [List.mem_singleton.1 hc]; exact hx
      · rw [List.mem_singleton.1 hb]
        exact sep_symm (hxl a ha)
    · exact S.all c (.tail _ (.tail _ hc))
  · rintro d hd k ⟨c, hc, hk⟩ hk'
    rcases List.mem_append.1 hc with hc | hc
    · exact h2.1 d hd k ⟨c, hc, hk⟩ hk'
    · rw [List.mem_singleton.1 hc] at hk
      exact h1.1 d (.tail _ hd) k hk hk'
  · intro c hc k hk
    rcases List.mem_cons.1 hc with rfl | hc
    · obtain ⟨c, hc, hk⟩ := hk
      rcases List.mem_append.1 hc with hc | hc
      · exact S.new _ (.tail _ (.head _)) k ⟨c, hc, hk⟩
      · rw [List.mem_singleton.1 hc] at hk
        exact S.new _ (.head _) k hk
    · exact S.new c (.tail _ (.tail _ hc)) k hk
end

/-! ## requests of the call's own -/
def qcells (qs : List RQ) : List Value := (qs.map RQ.cells).flatten
theorem qcells_len (qs : List RQ) : (qcells qs).length = qs.length * 3 := by
  induction qs with
  | nil => rfl
  | cons q l ih =>
    have : qcells (q :: l) = q.cells ++ qcells l := rfl
    rw [this, List.length_append, ih]
    simp [RQ.cells]; omega
theorem qcells_get (qs : List RQ) (i j : Nat) (hi : i < qs.length) (hj : j < 3) : (qcells qs)[i * 3 + j]? = (qs[i]'hi).cells[j]? := by
  induction qs generalizing i with
  | nil => simp at hi
  | cons q l ih =>
    have e : qcells (q :: l) = q.cells ++ qcells l := rfl
    have e3 : q.cells.length = 3 := rfl
    rw [e]
    cases i with
    | zero => rw [List.getElem?_append_left (by omega)]; simp
    | succ i =>
      rw [List.getElem?_append_right (by omega), e3, show (i + 1) * 3 + j - 3 = i * 3 + j by omega]
      exact ih i (by simpa using hi)
theorem qcells_snoc (qs : List RQ) (q : RQ) : qcells (qs ++ [q]) = qcells qs ++ q.cells := by simp [qcells]

/-- A command that was lent: with its marks behind. -/
def cLent (q : RQ) : Ch := cOb q.A (q.n + 4) q.c (q.b ++ marks)
/-- A command that is one's own. -/
def cOwn (q : RQ) : Ch := cOb q.A q.n q.c q.b

theorem rdq_of {w : World} {A : Option Addr} {n c : Nat} {qs : List RQ} (h : Ow w 155 3 A n c (qcells qs)) (hn : qs.length = n) (ok : ∀ q ∈ qs, RqOk w q) : RdQ w A n c qs := by
  refine ⟨hn, h.le.1, h.le.2, fun i hi => ?_, ok⟩
  rcases h.form with ⟨_, h0, _⟩ | ⟨g, rfl⟩
  · omega
  have hq := qcells_len qs
  have hg : ∀ j, j < 3 → ∀ v, (qs[i]'hi).cells[j]? = some v → w.cell? ⟨g, i * 3 + j, none⟩ = some v := fun j hj v hv => by
    have hl : i * 3 + j < (qcells qs).length := by omega
    rw [h.cell (i * 3 + j) hl]
    have := qcells_get qs i j hi hj
    rw [List.getElem?_eq_getElem hl, hv] at this
    exact this
  refine ⟨g, 0, rfl, ?_, ?_, ?_⟩
  · rw [Nat.zero_add]; exact hg 0 (by omega) _ rfl
  · rw [Nat.zero_add]; exact hg 1 (by omega) _ rfl
  · rw [Nat.zero_add]; exact hg 2 (by omega) _ rfl

theorem elQ : ElI 81 155 (.agg #[.int .u64 0, .int .u64 0, .slice none 0 0]) 3 40 := ⟨by kernel_rfl, by kernel_rfl, by rfl, by decide⟩
end Go.Proofs.YtbhmnkpbaeemeaaDoor

/-! # L8 -/
set_option maxRecDepth 100000
namespace Go.Proofs.YtbhmnkpbaeemeaaDoor
open Go.RowKit

def RQ.key (q : RQ) : Nat × Nat × List UInt8 := (q.client, q.seq, q.b)

theorem lentAll {w : World} {qs' : List RQ} (h : (cAll (qs'.map cLent)).P w) (q : RQ) (hq : q ∈ qs') : Ob w 0 q.A (q.n + 4) q.c (q.b ++ marks) := h.1 _ (List.mem_map_of_mem hq)

set_option maxHeartbeats 2000000 in
theorem copyBatch_any {w0 : World} (w : World) (l : List Ch) (S : Sep w0 w l) (stamp : Nat) (hst : stamp < 18446744073709551616) (A : Option Addr) (n c : Nat) (qs : List RQ) (hq : RdQ w0 A n c qs) (hn : n ≤ 2000000) :
    Calls Tryd.prog 44 #[.agg #[.int .u64 (stamp : Int), .slice A n c]] w fun e w' => ∃ A' c' qs', e = .returned (.agg #[.int .u64 (stamp : Int), .slice A' n c']) ∧ qs'.map RQ.key = qs.map RQ.key ∧ (∀ q ∈ qs', q.n = q.b.length) ∧
      Sep w0 w' (cOw 155 3 A' n c' (qcells qs') :: cAll (qs'.map cLent) :: l) := by
  have hl := hq.len
  subst hl
  have HQ := Lib.hid hq
  have hle := hq.le
  have hmx := hq.max
  have hsz := S.bel.size
  have S0 := Lib.hid (((S.box #[.int .u64 (stamp : Int), .slice A qs.length c] 83).box #[.int .u64 0, .slice none 0 0] 83).box #[.int .u64 (stamp : Int), .slice none 0 0] 83)
  clear hq S
  go_enter Tryd.func44, Tryd.ntmps44
  go_wp2
  have S1 : Hid (Sep w0 (((w.alloc (.cells #[.int .u64 (stamp : Int), .slice A qs.length c] 83)).alloc (.cells #[.int .u64 0, .slice none 0 0] 83)).alloc (.cells #[.int .u64 (stamp : Int), .slice none 0 0] 83)) (cBlk (w.heap.size + 1 + 1) #[.int .u64 (stamp : Int), .slice none 0 0] 83 :: cBlk (w.heap.size + 1) #[.int .u64 0, .slice none 0 0] 83 :: cBlk w.heap.size #[.int .u64 (stamp : Int), .slice A qs.length c] 83 :: l)) := by
    have e1 : ∀ (u : World) o, (u.alloc o).heap.size = u.heap.size + 1 := fun u o => by simp
    have := S0.out
    rw [e1, e1] at this
    exact this
  clear S0
  generalize w.heap.size = g at *
  go_loopw [4] (fun i wr => ∃ (k : Nat) (A' : Option Addr) (c' : Nat) (qs' : List RQ), k ≤ qs.length ∧ i = .int .i64 (k : Int) ∧ Hid (qs'.map RQ.key = (qs.take k).map RQ.key ∧ ∀ q ∈ qs', q.n = q.b.length) ∧
    Hid (Sep w0 wr (cOw 155 3 A' k c' (qcells qs') :: cAll (qs'.map cLent) :: cBlk (g + 1 + 1) #[.int .u64 (stamp : Int), .slice A' k c'] 83 :: cBlk (g + 1) #[.int .u64 0, .slice none 0 0] 83 :: cBlk g #[.int .u64 (stamp : Int), .slice A qs.length c] 83 :: l))) (fun i _ => qs.length - (intOf i).toNat)
  case atStart => exact ⟨0, none, 0, [], Nat.zero_le _, rfl, ⟨by simp, by simp⟩, (S1.out.packNil).push (Below.refl _ _) (cOw 155 3 none 0 0 []) (Ow.nil _ _ _) fun k hk => by obtain ⟨a, e, _⟩ := hk; cases e⟩
  case round =>
    obtain ⟨k, A', c', qs', hk, rfl, HK, R⟩ := hrel
    have XC : Blk wr (g + 1 + 1) _ _ := R.out.h2
    have XA : Blk wr g _ _ := R.out.h4
    have a1 : wr.cell? ⟨g, 1, none⟩ = some (.slice A qs.length c) := XA.cell 1
    have c0 : wr.cell? ⟨g + 1 + 1, 0, none⟩ = some (.int .u64 (stamp : Int)) := XC.cell 0
    have c1 : wr.cell? ⟨g + 1 + 1, 1, none⟩ = some (.slice A' k c') := XC.cell 1
    have hgl : g + 1 + 1 < wr.heap.size := XC.lt
    clear XA XC
    by_cases hlt : k < qs.length
    · obtain ⟨b, o, rfl, c0, c1, cc2⟩ := HQ.out.at_ k hlt
      have hb0 : b < w0.heap.size := World.block_lt_of_cell? w0 _ c0
      have d0 := (R.out.bel.cell hb0).trans c0
      have d1 := (R.out.bel.cell hb0).trans c1
      have d2 := (R.out.bel.cell hb0).trans cc2
      clear c0 c1 cc2
      have hbl2 : b < wr.heap.size := World.block_lt_of_cell? wr _ d0
      have hne1 : ¬ b = wr.heap.size := by omega
      have ok := HQ.out.ok _ (List.getElem_mem hlt)
      have hrn := ok.n
      have HRD := Lib.hid ok.rd
      have hxl := HRD.out.len
      have HT : Hid ((qs.take (k + 1)).map RQ.key = (qs.take k).map RQ.key ++ [(qs[k]'hlt).key]) := by show _ = _; rw [List.take_succ_eq_append_getElem hlt, List.map_append]; rfl
      clear ok
      generalize (qs[k]'hlt) = x at *
      have XX := Lib.hid (R.out.box #[.int .u64 (x.client : Int), .int .u64 (x.seq : Int), .slice x.A x.n x.c] 155)
      obtain ⟨h, hh⟩ : ∃ h, h = wr.heap.size := ⟨_, rfl⟩
      rw [← hh] at XX
      go_wp2_with fail
      rw [← hh]
      clear hne1 hbl2 d0 d1 d2
      have hgh : ¬ g + 1 + 1 = h := by omega
      have hgg : ¬ g = h := by omega
      clear hh hgl
      generalize (wr.alloc (.cells #[.int .u64 (x.client : Int), .int .u64 (x.seq : Int), .slice x.A x.n x.c] 155)) = wx at *
      refine (lend_any wx x.A x.n x.c x.b (XX.out.rd HRD.out) (by omega)).mono ?_
      rintro e w5 ⟨A5, c5, rfl, ho, hb⟩
      have S5 := Lib.hid (XX.out.pushO hb ho)
      have XB : Blk w5 h _ _ := S5.out.h1
      have XC : Blk w5 (g + 1 + 1) _ _ := S5.out.h4
      have j0 : w5.cell? ⟨h, 0, none⟩ = some (.int .u64 (x.client : Int)) := XB.cell 0
      have j1 : w5.cell? ⟨h, 1, none⟩ = some (.int .u64 (x.seq : Int)) := XB.cell 1
      have j2 : w5.cell? ⟨h, 2, none⟩ = some (.slice x.A x.n x.c) := XB.cell 2
      have i1 : w5.cell? ⟨g + 1 + 1, 1, none⟩ = some (.slice A' k c') := XC.cell 1
      have f2 := XB.frozen 2
      have f1 := XC.frozen 1
      have S6 := Lib.hid (S5.out.fr1.set 2 (.slice A5 x.n c5)).tail.fr1
      clear XB XC ho hb a1 c0 c1
      go_wp2_with (at_builtin; refine sep_app1 elQ rfl (.tmp 26) (.tmp 28) rfl rfl S6.out #[.int .u64 (x.client : Int), .int .u64 (x.seq : Int), .slice A5 x.n c5] (congrArg (fun z => Value.slice (some ⟨z, 0, none⟩) 1 1) (show w5.heap.size = (w5.setCell ⟨h, 2, none⟩ (.slice A5 x.n c5)).heap.size by simp)) rfl (by simp [Value.oneCell']) (by omega) (by omega) ?_; intro A6 c6 w6 S7; have S8 := Lib.hid S7; have XC : Blk w6 (g + 1 + 1) _ _ := S7.h3; have i6 : w6.cell? ⟨g + 1 + 1, 1, none⟩ = some (.slice A' k c') := XC.cell 1; have f6 := XC.frozen 1; clear XC S7)
      go_roundw
      case rel =>
        have S9 : Sep w0 (w6.setCell ⟨g + 1 + 1, 1, none⟩ (.slice A6 (k + 1) c6)) (cBlk (g + 1 + 1) #[.int .u64 (stamp : Int), .slice A6 (k + 1) c6] 83 :: cOw 155 3 A6 (k + 1) c6 (qcells (qs' ++ [⟨x.client, x.seq, A5, x.n, c5, x.b⟩])) :: cOb A5 (x.n + 4) c5 (x.b ++ marks) :: cAll (qs'.map cLent) :: cBlk (g + 1) #[.int .u64 0, .slice none 0 0] 83 :: cBlk g #[.int .u64 (stamp : Int), .slice (some ⟨b, o, none⟩) qs.length c] 83 :: l) := by
          rw [qcells_snoc]
          exact S8.out.fr3.set 1 _
        refine ⟨k + 1, A6, c6, qs' ++ [⟨x.client, x.seq, A5, x.n, c5, x.b⟩], by omega, by go_num, ⟨?_, ?_⟩, ?_⟩
        · rw [HT.out, List.map_append, HK.out.1]; rfl
        · intro q hq
          rcases List.mem_append.1 hq with hq | hq
          · exact HK.out.2 q hq
          · rw [List.mem_singleton.1 hq]; exact hxl.symm
        · have S12 : Sep w0 _ (cAll (qs'.map cLent ++ [cLent ⟨x.client, x.seq, A5, x.n, c5, x.b⟩]) :: _ :: _ :: _) := Sep.packCons S9.fr3.fr3
          show Sep w0 _ (_ :: cAll ((qs' ++ [(⟨x.client, x.seq, A5, x.n, c5, x.b⟩ : RQ)]).map cLent) :: _)
          rw [List.map_append]
          exact S12.fr2
      case measure => simp [intOf]; omega
    · obtain rfl : k = qs.length := by omega
      have XR : Blk wr (g + 1) _ _ := R.out.h3
      have r0 : wr.cell? ⟨g + 1, 0, none⟩ = some (.int .u64 0) := XR.cell 0
      have r1 : wr.cell? ⟨g + 1, 1, none⟩ = some (.slice none 0 0) := XR.cell 1
      have s0 := XR.frozen 0
      have s1 := XR.frozen 1
      clear XR
      have SF := (((R.out.fr3.set 0 (.int .u64 (stamp : Int))).set 1 (.slice A' qs.length c')))
      have XR : Blk _ (g + 1) _ _ := SF.h0
      have e0 := XR.cell 0
      have e1 := XR.cell 1
      have SG := Lib.hid SF.tail.fr2.tail.fr2.tail
      clear XR SF
      go_wp2
      refine bodyPost_ret (v := .agg #[.int .u64 (stamp : Int), .slice A' qs.length c']) (by simp [results, Tryd.results44, go_sem, e0, e1]) rfl ?_
      refine ⟨A', c', qs', rfl, ?_, HK.out.2, SG.out⟩
      rw [HK.out.1, List.take_length]
end Go.Proofs.YtbhmnkpbaeemeaaDoor

/-! # L9 -/
set_option maxRecDepth 100000
namespace Go.Proofs.YtbhmnkpbaeemeaaDoor
open Go.RowKit

def RQ.val (q : RQ) : Value := .agg #[.int .u64 (q.client : Int), .int .u64 (q.seq : Int), .slice q.A q.n q.c]

theorem sameRequest_true (w : World) (q r : RQ) (hq : RqOk w q) (hr : RqOk w r) (hk : q.key = r.key) :
    Calls Tryd.prog 126 #[q.val, r.val] w fun e w' => e = .returned (.bool true) ∧ Below w.heap.size w w' := by
  rcases q with ⟨c1, s1, A1, n1, k1, b1⟩
  rcases r with ⟨c2, s2, A2, n2, k2, b2⟩
  simp only [RQ.key, Prod.mk.injEq] at hk
  obtain ⟨rfl, rfl, rfl⟩ := hk
  have S1 := Lib.hid (((Sep.start w).box #[.int .u64 (c1 : Int), .int .u64 (s1 : Int), .slice A1 n1 k1] 155).box #[.int .u64 (c1 : Int), .int .u64 (s1 : Int), .slice A2 n2 k2] 155)
  have HB : ∀ w2, Below w.heap.size w w2 → Hid (Calls Tryd.prog 20 #[.slice A1 n1 k1, .slice A2 n2 k2] w2 fun e w' => e = .returned (.bool true) ∧ ∃ q, w' = w2.drewN q) := fun w2 hb => by
    have := sameBytes_any w2 _ _ _ _ _ _ _ _ (hq.rd.below hb) (hr.rd.below hb)
    rw [decide_eq_true (Eq.refl b1)] at this
    exact this
  clear hq hr
  simp only [RQ.val]
  go_enter Tryd.func126, Tryd.ntmps126
  go_wp2_with (go_at_call 20; go_loud (refine (HB _ (S1.out.bel)).out.mono ?_; rintro e w5 ⟨rfl, q5, rfl⟩))
  go_ret
  exact ⟨by simp, (S1.out.drewN _).bel⟩

set_option maxHeartbeats 2000000 in
theorem sameBatch_true (w : World) (stamp : Nat) (A : Option Addr) (n c : Nat) (qs : List RQ) (A' : Option Addr) (c' : Nat) (rs : List RQ) (hq : RdQ w A n c qs) (hr : RdQ w A' n c' rs) (hk : qs.map RQ.key = rs.map RQ.key) (hn : n ≤ 2000000) :
    Calls Tryd.prog 56 #[.agg #[.int .u64 (stamp : Int), .slice A n c], .agg #[.int .u64 (stamp : Int), .slice A' n c']] w fun e w' => e = .returned (.bool true) ∧ Below w.heap.size w w' := by
  have HQ := Lib.hid hq
  have HR := Lib.hid hr
  have HK := Lib.hid hk
  have e1 := hq.len
  have e2 := hr.len
  clear hq hr hk
  have S1 := Lib.hid (((Sep.start w).box #[.int .u64 (stamp : Int), .slice A n c] 83).box #[.int .u64 (stamp : Int), .slice A' n c'] 83)
  go_enter Tryd.func56, Tryd.ntmps56
  go_wp2
  have S2 : Hid (Sep w ((w.alloc (.cells #[.int .u64 (stamp : Int), .slice A n c] 83)).alloc (.cells #[.int .u64 (stamp : Int), .slice A' n c'] 83)) (cBlk (w.heap.size + 1) #[.int .u64 (stamp : Int), .slice A' n c'] 83 :: cBlk w.heap.size #[.int .u64 (stamp : Int), .slice A n c] 83 :: [])) := by
    have e1 : ∀ (u : World) o, (u.alloc o).heap.size = u.heap.size + 1 := fun u o => by simp
    have := S1.out
    rw [e1] at this
    exact this
  clear S1
  obtain ⟨g, hg⟩ : ∃ g, g = w.heap.size := ⟨_, rfl⟩
  rw [← hg] at S2 ⊢
  clear hg
  go_loopw [5] (fun i wr => ∃ (k : Nat), k ≤ n ∧ i = .int .i64 (k : Int) ∧ Hid (Sep w wr (cBlk (g + 1) #[.int .u64 (stamp : Int), .slice A' n c'] 83 :: cBlk g #[.int .u64 (stamp : Int), .slice A n c] 83 :: []))) (fun i _ => n - (intOf i).toNat)
  case atStart => exact ⟨0, Nat.zero_le _, rfl, S2.out⟩
  case round =>
    obtain ⟨k, hk, rfl, R⟩ := hrel
    have XA : Blk wr g _ _ := R.out.h1
    have XC : Blk wr (g + 1) _ _ := R.out.h0
    have a1 : wr.cell? ⟨g, 1, none⟩ = some (.slice A n c) := XA.cell 1
    have c1 : wr.cell? ⟨g + 1, 1, none⟩ = some (.slice A' n c') := XC.cell 1
    clear XA XC
    by_cases hlt : k < n
    · obtain ⟨b, o, rfl, q0, q1, q2⟩ := HQ.out.at_ k (by omega)
      obtain ⟨b', o', rfl, r0, r1, r2⟩ := HR.out.at_ k (by omega)
      have hb0 : b < w.heap.size := World.block_lt_of_cell? w _ q0
      have hb1 : b' < w.heap.size := World.block_lt_of_cell? w _ r0
      replace q0 := (R.out.bel.cell hb0).trans q0
      replace q1 := (R.out.bel.cell hb0).trans q1
      replace q2 := (R.out.bel.cell hb0).trans q2
      replace r0 := (R.out.bel.cell hb1).trans r0
      replace r1 := (R.out.bel.cell hb1).trans r1
      replace r2 := (R.out.bel.cell hb1).trans r2
      have ok := HQ.out.ok _ (List.getElem_mem (show k < qs.length by omega))
      have ok' := HR.out.ok _ (List.getElem_mem (show k < rs.length by omega))
      have hkk : (qs[k]'(by omega)).key = (rs[k]'(by omega)).key := by
        have h1 : (qs.map RQ.key)[k]? = (rs.map RQ.key)[k]? := by rw [HK.out]
        rw [List.getElem?_map, List.getElem?_map, List.getElem?_eq_getElem (by omega), List.getElem?_eq_getElem (by omega)] at h1
        exact Option.some.inj h1
      have HC : Hid (Calls Tryd.prog 126 _ wr.drew _) := sameRequest_true wr.drew _ _ (ok.below R.out.drew.bel) (ok'.below R.out.drew.bel) hkk
      simp only [RQ.val] at HC
      clear ok ok' hkk hb0 hb1
      generalize (qs[k]'(by omega)) = x at *
      generalize (rs[k]'(by omega)) = y at *
      go_wp2
      go_region_with (go_at_call 126; refine HC.out.mono ?_; rintro e w5 ⟨rfl, hb⟩)
      all_goals
        go_wp2
        go_roundw
        case rel => exact ⟨k + 1, by omega, by go_num, R.out.drew.kept hb⟩
        case measure => simp [intOf]; omega
    · obtain rfl : k = n := by omega
      go_wp2
      go_ret
      exact ⟨rfl, R.out.bel⟩
end Go.Proofs.YtbhmnkpbaeemeaaDoor

/-! # L10 -/
set_option maxRecDepth 100000
namespace Go.Proofs.YtbhmnkpbaeemeaaDoor
open Go.RowKit

set_option maxHeartbeats 2000000 in
theorem keptBatch_true (w : World) (stamp : Nat) (A : Option Addr) (n c : Nat) (qs : List RQ) (A' : Option Addr) (c' : Nat) (rs : List RQ) (hq : RdQ w A n c qs) (hr : RdQ w A' n c' rs) (hk : qs.map RQ.key = rs.map RQ.key) (hn : n ≤ 2000000)
    (hl : ∀ q ∈ qs, Rd w q.A (q.n + 4) q.c (q.b ++ marks)) :
    Calls Tryd.prog 46 #[.agg #[.int .u64 (stamp : Int), .slice A n c], .agg #[.int .u64 (stamp : Int), .slice A' n c']] w fun e w' => e = .returned (.bool true) ∧ Below w.heap.size w w' := by
  have HQ := Lib.hid hq
  have HR := Lib.hid hr
  have HK := Lib.hid hk
  have HL := Lib.hid hl
  have e1 := hq.len
  have e2 := hr.len
  clear hq hr hk hl
  have S1 := Lib.hid (((Sep.start w).box #[.int .u64 (stamp : Int), .slice A n c] 83).box #[.int .u64 (stamp : Int), .slice A' n c'] 83)
  go_enter Tryd.func46, Tryd.ntmps46
  go_wp2_with fail
  have S2 : Hid (Sep w ((w.alloc (.cells #[.int .u64 (stamp : Int), .slice A n c] 83)).alloc (.cells #[.int .u64 (stamp : Int), .slice A' n c'] 83)) (cBlk (w.heap.size + 1) #[.int .u64 (stamp : Int), .slice A' n c'] 83 :: cBlk w.heap.size #[.int .u64 (stamp : Int), .slice A n c] 83 :: [])) := by
    have e1 : ∀ (u : World) o, (u.alloc o).heap.size = u.heap.size + 1 := fun u o => by simp
    have := S1.out
    rw [e1] at this
    exact this
  clear S1
  obtain ⟨g, hg⟩ : ∃ g, g = w.heap.size := ⟨_, rfl⟩
  rw [← hg] at S2 ⊢
  clear hg
  refine (sameBatch_true _ stamp A n c qs A' c' rs (HQ.out.below S2.out.bel) (HR.out.below S2.out.bel) HK.out hn).mono ?_
  rintro e w2 ⟨rfl, hb2⟩
  have S3 := Lib.hid (S2.out.kept hb2)
  clear S2 hb2
  go_wp2
  go_loopw [5] (fun i wr => ∃ (k : Nat), k ≤ n ∧ i = .int .i64 (k : Int) ∧ Hid (Sep w wr (cBlk (g + 1) #[.int .u64 (stamp : Int), .slice A' n c'] 83 :: cBlk g #[.int .u64 (stamp : Int), .slice A n c] 83 :: []))) (fun i _ => n - (intOf i).toNat)
  case atStart => exact ⟨0, Nat.zero_le _, rfl, S3.out⟩
  case round =>
    obtain ⟨k, hk, rfl, R⟩ := hrel
    have XA : Blk wr g _ _ := R.out.h1
    have XC : Blk wr (g + 1) _ _ := R.out.h0
    have a1 : wr.cell? ⟨g, 1, none⟩ = some (.slice A n c) := XA.cell 1
    have c1 : wr.cell? ⟨g + 1, 1, none⟩ = some (.slice A' n c') := XC.cell 1
    clear XA XC
    by_cases hlt : k < n
    · obtain ⟨b, o, rfl, q0, q1, q2⟩ := HQ.out.at_ k (by omega)
      obtain ⟨b', o', rfl, r0, r1, r2⟩ := HR.out.at_ k (by omega)
      have hb0 : b < w.heap.size := World.block_lt_of_cell? w _ q0
      have hb1 : b' < w.heap.size := World.block_lt_of_cell? w _ r0
      replace q2 := (R.out.bel.cell hb0).trans q2
      replace r2 := (R.out.bel.cell hb1).trans r2
      clear q0 q1 r0 r1
      have ok := HQ.out.ok _ (List.getElem_mem (show k < qs.length by omega))
      have ok' := HR.out.ok _ (List.getElem_mem (show k < rs.length by omega))
      have hll := HL.out _ (List.getElem_mem (show k < qs.length by omega))
      have hkk : (qs[k]'(by omega)).key = (rs[k]'(by omega)).key := by
        have h1 : (qs.map RQ.key)[k]? = (rs.map RQ.key)[k]? := by rw [HK.out]
        rw [List.getElem?_map, List.getElem?_map, List.getElem?_eq_getElem (by omega), List.getElem?_eq_getElem (by omega)] at h1
        exact Option.some.inj h1
      generalize (qs[k]'(by omega)) = x at *
      generalize (rs[k]'(by omega)) = y at *
      have hbb : x.b = y.b := (Prod.mk.inj (Prod.mk.inj hkk).2).2
      have hnn : y.n = x.n := by rw [← ok.rd.len, ← ok'.rd.len, hbb]
      have hnx := ok.n
      have HC := Lib.hid (kept_true wr.drew x.A x.n x.c x.b (R.out.drew.rd hll) y.A y.c (by rw [← hnn, hbb]; exact R.out.drew.rd ok'.rd) (by omega))
      rw [hnn] at r2
      clear ok ok' hkk hb0 hb1 hll hbb hnn hnx
      go_wp2
      go_region_with (go_at_call 16; refine HC.out.mono ?_; rintro e w5 ⟨rfl, q5, rfl⟩)
      all_goals
        go_wp2
        go_roundw
        case rel => exact ⟨k + 1, by omega, by go_num, R.out.drewN _⟩
        case measure => simp [intOf]; omega
    · obtain rfl : k = n := by omega
      go_wp2
      go_ret
      exact ⟨rfl, R.out.bel⟩
end Go.Proofs.YtbhmnkpbaeemeaaDoor
