import Derived.Test.YtbhmnkpbaeemeaaDoorM1
import Derived.Test.YtbhmnkpbaeemeaaDoorM2
set_option linter.unusedVariables false
set_option linter.unusedSimpArgs false
/-! # L20 -/
set_option maxRecDepth 100000
namespace Go.Proofs.YtbhmnkpbaeemeaaDoor
open Go.RowKit

section
variable {w0 w w' : World} {a b r : List Ch} {x : Ch}
/-- One piece taken out of many. -/
theorem Sep.takeAt (S : Sep w0 w (cAll (a ++ x :: b) :: r)) : Sep w0 w (x :: cAll (a ++ b) :: r) := by
  have h1 := List.pairwise_cons.1 S.sep
  have hl : (∀ c ∈ a ++ x :: b, c.P w) ∧ (a ++ x :: b).Pairwise fun (c d : Ch) => ∀ k : Nat, c.F k → ¬ d.F k := S.h0
  have hp : (x :: (a ++ b)).Pairwise fun (c d : Ch) => ∀ k : Nat, c.F k → ¬ d.F k := (List.Perm.pairwise_iff (fun h => sep_symm h) (List.perm_middle)).1 hl.2
  have hp1 := List.pairwise_cons.1 hp
  have hm : ∀ c, c ∈ a ++ b → c ∈ a ++ x :: b := fun c hc => by
    rcases List.mem_append.1 hc with h | h
    · exact List.mem_append.2 (.inl h)
    · exact List.mem_append.2 (.inr (.tail _ h))
  have hx : x ∈ a ++ x :: b := List.mem_append.2 (.inr (.head _))
  refine ⟨S.bel, ?_, List.pairwise_cons.2 ⟨?_, List.pairwise_cons.2 ⟨?_, h1.2⟩⟩, ?_⟩
  · intro c hc
    rcases List.mem_cons.1 hc with rfl | hc
    · exact hl.1 _ hx
    · rcases List.mem_cons.1 hc with rfl | hc
      · exact ⟨fun c hc => hl.1 c (hm c hc), hp1.2⟩
      · exact S.all c (.tail _ hc)
  · intro d hd k hk hk'
    rcases List.mem_cons.1 hd with rfl | hd
    · obtain ⟨c, hc, hk'⟩ := hk'
      exact hp1.1 c hc k hk hk'
    · exact h1.1 d hd k ⟨x, hx, hk⟩ hk'
  · rintro d hd k ⟨c, hc, hk⟩ hk'
    exact h1.1 d hd k ⟨c, hm c hc, hk⟩ hk'
  · intro c hc k hk
    rcases List.mem_cons.1 hc with rfl | hc
    · exact S.new _ (.head _) k ⟨_, hx, hk⟩
    · rcases List.mem_cons.1 hc with rfl | hc
      · obtain ⟨c, hc, hk⟩ := hk
        exact S.new _ (.head _) k ⟨c, hm c hc, hk⟩
      · exact S.new c (.tail _ hc) k hk
/-- One piece put back among many. -/
theorem Sep.putAt (S : Sep w0 w (x :: cAll (a ++ b) :: r)) : Sep w0 w (cAll (a ++ x :: b) :: r) := by
  have h1 := List.pairwise_cons.1 S.sep
  have h2 := List.pairwise_cons.1 h1.2
  have hl : (∀ c ∈ a ++ b, c.P w) ∧ (a ++ b).Pairwise fun (c d : Ch) => ∀ k : Nat, c.F k → ¬ d.F k := S.h1
  have hxl : ∀ c ∈ a ++ b, ∀ k, x.F k → ¬ c.F k := fun c hc k hk hk' => h1.1 (cAll (a ++ b)) (.head _) k hk ⟨c, hc, hk'⟩
  have hp : (x :: (a ++ b)).Pairwise fun (c d : Ch) => ∀ k : Nat, c.F k → ¬ d.F k := List.pairwise_cons.2 ⟨hxl, hl.2⟩
  have hm : ∀ c, c ∈ a ++ x :: b → c = x ∨ c ∈ a ++ b := fun c hc => by
    rcases List.mem_append.1 hc with h | h
    · exact .inr (List.mem_append.2 (.inl h))
    · rcases List.mem_cons.1 h with h | h
      · exact .inl h
      · exact .inr (List.mem_append.2 (.inr h))
  refine ⟨S.bel, ?_, List.pairwise_cons.2 ⟨?_, h2.2⟩, ?_⟩
  · intro c hc
    rcases List.mem_cons.1 hc with rfl | hc
    · refine ⟨fun c hc => ?_, (List.Perm.pairwise_iff (fun h => sep_symm h) (List.perm_middle)).2 hp⟩
      rcases hm c hc with rfl | hc
      · exact S.h0
      · exact hl.1 c hc
    · exact S.all c (.tail _ (.tail _ hc))
  · rintro d hd k ⟨c, hc, hk⟩ hk'
    rcases hm c hc with rfl | hc
    · exact h1.1 d (.tail _ hd) k hk hk'
    · exact h2.1 d hd k ⟨c, hc, hk⟩ hk'
  · intro c hc k hk
    rcases List.mem_cons.1 hc with rfl | hc
    · obtain ⟨c, hc, hk⟩ := hk
      rcases hm c hc with rfl | hc
      · exact S.new _ (.head _) k hk
      · exact S.new _ (.tail _ (.head _)) k ⟨c, hc, hk⟩
    · exact S.new c (.tail _ (.tail _ hc)) k hk
end
end Go.Proofs.YtbhmnkpbaeemeaaDoor

/-! # L21 -/
set_option maxRecDepth 100000
namespace Go.Proofs.YtbhmnkpbaeemeaaDoor
open Go.RowKit

/-! ## A row and what is laid behind it: in place, or elsewhere -/
theorem Ow.front {w : World} {T : TypeId} {size : Nat} {A : Option Addr} {n m c : Nat} {xs ys : List Value} (h : Ow w T size A (n + m) c (xs ++ ys)) (hx : xs.length = n * size) : Ow w T size A n c xs := by
  obtain ⟨h1, h2⟩ := h
  refine ⟨hx, ?_⟩
  rcases h2 with ⟨e, h0⟩ | ⟨g, cap, cur, e, hg, hh, hnc, hcm, hcs, htake⟩
  · left
    have h3 : n = 0 := by omega
    have h4 : m = 0 := by omega
    subst h3 h4
    cases e
    exact ⟨rfl, rfl⟩
  · cases e
    refine .inr ⟨g, c, cur, rfl, hg, hh, by omega, hcm, hcs, ?_⟩
    have e1 : cur.toList.take (n * size) = (cur.toList.take ((n + m) * size)).take (n * size) := by
      rw [List.take_take, Nat.min_eq_left (Nat.mul_le_mul_right _ (by omega))]
    rw [e1, htake, ← hx]
    exact List.take_left

/-- One cell of a row is written. -/
theorem Ow.put {w : World} {T : TypeId} {size : Nat} {g n c : Nat} {xs : List Value} (h : Ow w T size (some ⟨g, 0, none⟩) n c xs) (i : Nat) (hi : i < xs.length) (v : Value) : Ow (w.setCell ⟨g, i, none⟩ v) T size (some ⟨g, 0, none⟩) n c (xs.set i v) := by
  obtain ⟨h1, h2⟩ := h
  refine ⟨by rw [List.length_set]; exact h1, ?_⟩
  rcases h2 with ⟨e, h0⟩ | ⟨g', cap, cur, e, hg, hh, hnc, hcm, hcs, htake⟩
  · cases e
  · cases e
    have hb := Blk.set (w := w) (g := g) (cs := cur) (e := T) hh i v
    refine .inr ⟨g, _, _, rfl, hg, hb, hnc, hcm, by rw [Array.size_setIfInBounds]; exact hcs, ?_⟩
    rw [Array.toList_setIfInBounds, List.take_set, htake]

structure TW where
  A : Option Addr
  n : Nat
  c : Nat
  xs : List Value
  X : Option Addr
  m : Nat
  cX : Nat
  ys : List Value
def TW.P (T : TypeId) (size : Nat) (t : TW) (w : World) : Prop := Ow w T size t.A t.n t.c t.xs ∧ Ow w T size t.X (t.n + t.m) t.cX (t.xs ++ t.ys) ∧ ((t.X = t.A ∧ t.cX = t.c) ∨ ∀ k, inA t.A k → ¬ inA t.X k)
def cTW (T : TypeId) (size : Nat) (t : TW) : Ch where
  F k := inA t.A k ∨ inA t.X k
  P w := t.P T size w
  lt w h k hk := hk.elim (fun hk => h.1.lt hk) (fun hk => h.2.1.lt hk)
  loc w w' G h hc hF := ⟨h.1.chg hc fun k hk => hF k (.inl hk), h.2.1.chg hc fun k hk => hF k (.inr hk), h.2.2⟩
def TW.start (A : Option Addr) (n c : Nat) (xs : List Value) : TW := ⟨A, n, c, xs, A, 0, c, []⟩
theorem TW.startP {w : World} {T : TypeId} {size : Nat} {A : Option Addr} {n c : Nat} {xs : List Value} (h : Ow w T size A n c xs) : (TW.start A n c xs).P T size w := ⟨h, by show Ow w T size A (n + 0) c (xs ++ []); rw [List.append_nil]; exact h, .inl ⟨rfl, rfl⟩⟩
def TW.more (t : TW) (A' : Option Addr) (c' : Nat) (cs : List Value) : TW := ⟨t.A, t.n, t.c, t.xs, A', t.m + 1, c', t.ys ++ cs⟩

theorem sep_app2 {sl T : TypeId} {z : Value} {size bytes : Nat} (E : ElI sl T z size bytes) {w0 W : World} {ops : Array Oper} {rest : List Oper} {o : Oper} {a : Act} {Q : Exit → Act → World → Prop} (hgd : o.guard = none) (s x : Operand)
    (ho : o.op = .call { callee := .builtin .append, args := #[s, x], argTypes := #[sl, sl] })
    {t : TW} {l : List Ch} (hs : a.eval s = .slice t.X (t.n + t.m) t.cX) (S : Sep w0 W (cTW T size t :: l))
    (cs : Array Value) (hx : a.eval x = .slice (some ⟨W.heap.size, 0, none⟩) 1 1) (hcs : cs.size = size) (h1 : ∀ u ∈ cs.toList, u.oneCell' = true) (hb : (t.n + t.m + 1) * bytes ≤ 140737488355328) (h63 : t.n + t.m + 1 ≤ 1000000000000)
    (h : ∀ A' c' w', Sep w0 w' (cTW T size (t.more A' c' cs.toList) :: l) → wpList Tryd.prog ops Q rest (a.put o.dst (.slice A' (t.n + t.m + 1) c')) w') :
    wpList Tryd.prog ops Q (o :: rest) a (W.alloc (.cells cs T)) := by
  refine wpList_plain hgd fun K hK => ?_
  have SW := (S.box cs T).tail
  have hP : t.P T size (W.alloc (.cells cs T)) := SW.h0
  obtain ⟨p1, p2, p3⟩ := hP
  obtain ⟨A', c', w', hr, h2, h3⟩ := run_app E o.type p2 ⟨W.heap.size, 0, none⟩ 1 1 cs.toList (by simp [hcs]) (fun j u hj => by
    have ea : (⟨W.heap.size, 0, none⟩ : Addr).add j = ⟨W.heap.size, j, none⟩ := by unfold Addr.add; split <;> simp_all
    rw [ea, (Blk.new W cs T).cell j]
    simpa using hj) h1 (by omega) hb h63
  unfold Oper.wp execOp
  simp only [ho, resolve, invoke, builtin, Sem.run_bind, Sem.run_pure, Result.andThen_ok, List.map_toArray, List.map_cons, List.map_nil, hs, hx, hr]
  refine hK _ _ (h A' c' w' ?_)
  rw [List.append_assoc] at h2
  rcases h3 with ⟨rfl, rfl, hc⟩ | ⟨rfl, hbl⟩
  · refine SW.mod (hc.mono fun k _ hk => .inr hk) (cTW T size (t.more t.X t.cX cs.toList)) ⟨?_, h2, p3⟩ fun k hk => .inl hk
    rcases p3 with ⟨e1, e2⟩ | hd
    · have h4 : Ow w' T size t.X (t.n + (t.m + 1)) t.cX (t.xs ++ (t.ys ++ cs.toList)) := h2
      rw [e1, e2] at h4
      exact h4.front p1.len
    · exact p1.chg hc hd
  · refine SW.mod (Chg.ofBelow hbl _) (cTW T size (t.more (some ⟨(W.alloc (.cells cs T)).heap.size, 0, none⟩) c' cs.toList)) ⟨p1.chg (Chg.ofBelow hbl fun _ => False) fun _ _ => id, h2, .inr fun k hk hk' => ?_⟩ fun k hk => ?_
    · have := p1.lt hk
      rw [inA_some.1 hk'] at this
      omega
    · rcases hk with hk | hk
      · exact .inl (.inl hk)
      · right
        rw [← inA_some.1 hk]
        exact Nat.le_refl _

section
variable {w0 w w' : World} {r : List Ch}
/-- Many pieces said otherwise, one by one. -/
theorem Sep.allMap {α : Type} {L : List α} {f g : α → Ch} (S : Sep w0 w (cAll (L.map g) :: r)) (hP : ∀ x ∈ L, (g x).P w → (f x).P w) (hF : ∀ x ∈ L, ∀ k, (f x).F k → (g x).F k) : Sep w0 w (cAll (L.map f) :: r) := by
  have hl : (∀ c ∈ L.map g, c.P w) ∧ (L.map g).Pairwise fun (c d : Ch) => ∀ k : Nat, c.F k → ¬ d.F k := S.h0
  refine S.as (cAll (L.map f)) ⟨fun c hc => ?_, ?_⟩ fun k hk => ?_
  · obtain ⟨x, hx, rfl⟩ := List.mem_map.1 hc
    exact hP x hx (hl.1 _ (List.mem_map_of_mem hx))
  · rw [List.pairwise_map] at hl ⊢
    exact hl.2.imp_of_mem fun ha hb h k hk hk' => h k (hF _ ha k hk) (hF _ hb k hk')
  · obtain ⟨c, hc, hk⟩ := hk
    obtain ⟨x, hx, rfl⟩ := List.mem_map.1 hc
    exact ⟨_, List.mem_map_of_mem hx, hF x hx k hk⟩
theorem Sep.allAt {l : List Ch} {x : Ch} (S : Sep w0 w (cAll l :: r)) (hx : x ∈ l) : x.P w := by
  have hl : (∀ c ∈ l, c.P w) ∧ _ := S.h0
  exact hl.1 _ hx
end
theorem elB : ElI 22 5 (.int .u8 0) 1 1 := ⟨by kernel_rfl, by kernel_rfl, by rfl, by decide⟩
section
variable {w0 w w' : World} {r : List Ch} {α : Type} {L : List α} {f : α → Ch} {i : Nat} {x : α}
theorem Sep.takeI (hi : i < L.length) (S : Sep w0 w (cAll (L.map f) :: r)) : Sep w0 w (f (L[i]'hi) :: cAll ((L.eraseIdx i).map f) :: r) := by
  have e : L.map f = (L.take i).map f ++ f (L[i]'hi) :: (L.drop (i + 1)).map f := by
    rw [← List.map_cons, ← List.map_append, ← List.drop_eq_getElem_cons hi, List.take_append_drop]
  rw [e] at S
  have := S.takeAt
  rw [List.eraseIdx_eq_take_drop_succ, List.map_append]
  exact this
theorem Sep.putI (hi : i < L.length) (S : Sep w0 w (f x :: cAll ((L.eraseIdx i).map f) :: r)) : Sep w0 w (cAll ((L.set i x).map f) :: r) := by
  rw [List.set_eq_take_append_cons_drop, if_pos hi, List.map_append, List.map_cons]
  rw [List.eraseIdx_eq_take_drop_succ, List.map_append] at S
  exact S.putAt
end

structure EX where
  X : Option Addr
  m : Nat
  cX : Nat
  ys : List Value
end Go.Proofs.YtbhmnkpbaeemeaaDoor

/-! # L22 -/
set_option maxRecDepth 100000
namespace Go.Proofs.YtbhmnkpbaeemeaaDoor
open Go.RowKit

def mk (j : Nat) : UInt8 := UInt8.ofNat (192 + j % 40)
theorem mk_toNat (j : Nat) : ((mk j).toNat : Int) = 192 + (j : Int) % 40 := by
  unfold mk
  rw [UInt8.toNat_ofNat', Nat.mod_eq_of_lt (by omega)]
  omega
theorem lastB_mod (j : Nat) : ((lastB (j % 191)).toNat : Int) = (j : Int) % 191 := by
  rw [lastB_toNat _ (by omega)]
  omega

def twB (p : RQ × EX) : TW := ⟨p.1.A, p.1.n, p.1.c, bs p.1.b, p.2.X, p.2.m, p.2.cX, p.2.ys⟩
def cF (p : RQ × EX) : Ch := cTW 5 1 (twB p)
def gcell (p : RQ × EX) : Value := .slice p.2.X (p.1.n + p.2.m) p.2.cX
def EX.st (q : RQ) : EX := ⟨q.A, 0, q.c, []⟩
theorem cF_start {w : World} (q : RQ) (h : (cOwn q).P w) : (cF (q, EX.st q)).P w := TW.startP (T := 5) (size := 1) (show Ow w 5 1 q.A q.n q.c (bs q.b) from h)
theorem cF_own {w : World} (p : RQ × EX) (h : (cF p).P w) : (cOwn p.1).P w := h.1
theorem cF_ob {w : World} (p : RQ × EX) (h : (cF p).P w) : Ob w 0 p.1.A p.1.n p.1.c p.1.b := h.1

set_option maxHeartbeats 40000000 in
theorem free_any {w0 : World} (w : World) (l : List Ch) (A : Option Addr) (n c : Nat) (qs : List RQ) (hl : qs.length = n) (hn : n ≤ 1000000) (ok : ∀ q ∈ qs, q.n ≤ 2000000)
    (S : Sep w0 w (cOw 22 1 A n c (ccells qs) :: cAll (qs.map cOwn) :: l)) :
    Calls Tryd.prog 109 #[.slice A n c] w fun e w' => e = .returned (.bool true) ∧ Sep w0 w' l := by
  have S0 := Lib.hid S
  have hf := Ow.form (show Ow w _ 1 A n c _ from S.h0)
  have hle := Ow.le (show Ow w _ 1 A n c _ from S.h0)
  have OK := Lib.hid ok
  have hcc : (ccells qs).length = n := by simp [ccells, hl]
  have HCC : ∀ (k : Nat) (h : k < n), Hid ((ccells qs)[k]'(by omega) = .slice (qs[k]'(by omega)).A (qs[k]'(by omega)).n (qs[k]'(by omega)).c) := fun k h => by show _ = _; simp [ccells]
  clear S ok
  go_enter Tryd.func109, Tryd.ntmps109
  go_wp2
  go_loopw [3, 5] (fun b i wr => ∃ (k : Nat) (A' : Option Addr) (c' : Nat) (ws : List RQ), k ≤ n ∧ i = .int .i64 (k : Int) ∧ b = .slice A' k c' ∧ Hid (ws.map RQ.b = (qs.take k).map RQ.b ∧ ws.map RQ.n = (qs.take k).map RQ.n) ∧
    Hid (Sep w0 wr (cOw 22 1 A' k c' (ccells ws) :: cAll (ws.map cLent) :: cOw 22 1 A n c (ccells qs) :: cAll (qs.map cOwn) :: l))) (fun _ i _ => n - (intOf i).toNat)
  case atStart => exact ⟨0, none, 0, [], Nat.zero_le _, rfl, rfl, ⟨by simp, by simp⟩, (S0.out.packNil).push (Below.refl _ _) (cOw 22 1 none 0 0 []) (Ow.nil _ _ _) fun k hk => by obtain ⟨a, e, _⟩ := hk; cases e⟩
  case round =>
    obtain ⟨k, A', c', ws, hk, rfl, rfl, HW, R⟩ := hrel
    clear S0
    by_cases hlt : k < n
    · rcases hf with ⟨_, h0, _⟩ | ⟨a, rfl⟩
      · omega
      have XO : Ow wr 22 1 (some ⟨a, 0, none⟩) n c (ccells qs) := R.out.h2
      have hq2 : wr.cell? ⟨a, k, none⟩ = some (.slice (qs[k]'(by omega)).A (qs[k]'(by omega)).n (qs[k]'(by omega)).c) := (XO.cell k (by omega)).trans (congrArg some (HCC k hlt).out)
      have XR : Ob wr 0 (qs[k]'(by omega)).A (qs[k]'(by omega)).n (qs[k]'(by omega)).c (qs[k]'(by omega)).b := Sep.allAt R.out.fr3 (List.mem_map_of_mem (List.getElem_mem (show k < qs.length by omega)))
      have HRD := Lib.hid XR.rd
      have hrn := OK.out _ (List.getElem_mem (show k < qs.length by omega))
      have HT : Hid ((qs.take (k + 1)).map RQ.b = (qs.take k).map RQ.b ++ [(qs[k]'(by omega)).b] ∧ (qs.take (k + 1)).map RQ.n = (qs.take k).map RQ.n ++ [(qs[k]'(by omega)).n]) := by
        constructor <;> (rw [List.take_succ_eq_append_getElem (by omega), List.map_append]; rfl)
      clear XO XR
      generalize (qs[k]'(by omega)) = x at *
      go_wp2_with fail
      refine (lend_any wr x.A x.n x.c x.b HRD.out (by omega)).mono ?_
      rintro e w5 ⟨A5, c5, rfl, ho, hb⟩
      have S5 := Lib.hid (R.out.pushO hb ho).fr1
      clear ho hb hq2 HRD
      go_wp2_with (at_builtin; refine sep_app1 elC rfl (.tmp 22) (.tmp 28) rfl rfl S5.out #[.slice A5 x.n c5] rfl rfl (by simp [Value.oneCell']) (by omega) (by omega) ?_; intro A6 c6 w6 S7; have S8 := Lib.hid S7; clear S7)
      go_roundw
      case rel =>
        refine ⟨k + 1, A6, c6, ws ++ [⟨0, 0, A5, x.n, c5, x.b⟩], by omega, by go_num, rfl, ⟨?_, ?_⟩, ?_⟩
        · rw [HT.out.1, List.map_append, HW.out.1]; rfl
        · rw [HT.out.2, List.map_append, HW.out.2]; rfl
        · have S12 : Sep w0 _ (cAll (ws.map cLent ++ [cLent ⟨0, 0, A5, x.n, c5, x.b⟩]) :: _ :: _) := Sep.packCons S8.out.fr1.fr2.fr1
          have e1 : ccells (ws ++ [(⟨0, 0, A5, x.n, c5, x.b⟩ : RQ)]) = ccells ws ++ #[Value.slice A5 x.n c5].toList := by simp [ccells]
          rw [List.map_append, e1]
          exact S12.fr1
      case measure => simp [intOf]; omega
    · obtain rfl : k = n := by omega
      have SX : Hid (Sep w0 wr (cAll ((qs.map fun q => (q, EX.st q)).map cF) :: cOw 22 1 A' k c' (ccells ws) :: cAll (ws.map cLent) :: cOw 22 1 A k c (ccells qs) :: l)) := by
        have h1 := Sep.allMap (f := fun q => cF (q, EX.st q)) R.out.fr3 (fun q _ h => cF_start q h) (fun q _ k hk => hk.elim id id)
        show Sep _ _ _
        rw [List.map_map]
        exact h1
      rw [List.take_of_length_le (by omega)] at HW
      have hlw : ws.length = k := by have := congrArg List.length HW.out.1; simpa [hl] using this
      clear R
      go_wp2
      go_loopw [4, 6] (fun b i wr => ∃ (j : Nat) (gA : Option Addr) (gc : Nat) (ts : List (RQ × EX)), j ≤ k ∧ i = .int .i64 (j : Int) ∧ b = .slice gA j gc ∧ Hid (ts.map Prod.fst = qs ∧ ∀ (m : Nat) (h : m < ts.length), m < j → (ts[m]'h).2.m = 64 ∧ (ts[m]'h).2.ys = bs (List.replicate 64 (mk m))) ∧
        Hid (Sep w0 wr (cOw 22 1 gA j gc ((ts.take j).map gcell) :: cAll (ts.map cF) :: cOw 22 1 A' k c' (ccells ws) :: cAll (ws.map cLent) :: cOw 22 1 A k c (ccells qs) :: l))) (fun _ i _ => k - (intOf i).toNat)
      case atStart => exact ⟨0, none, 0, qs.map fun q => (q, EX.st q), Nat.zero_le _, rfl, rfl, ⟨by simp [Function.comp_def], fun m h h0 => by omega⟩, SX.out.push (Below.refl _ _) (cOw 22 1 none 0 0 []) (Ow.nil _ _ _) fun k hk => by obtain ⟨a, e, _⟩ := hk; cases e⟩
      case round =>
        obtain ⟨j, gA, gc, ts, hj, rfl, rfl, HT, R⟩ := hrel
        have htl : ts.length = k := by have := congrArg List.length HT.out.1; simpa [hl] using this
        by_cases hjt : j < k
        · rcases hf with ⟨_, h0, _⟩ | ⟨a, rfl⟩
          · omega
          have XO : Ow wr 22 1 (some ⟨a, 0, none⟩) k c (ccells qs) := R.out.h4
          have hq2 : wr.cell? ⟨a, j, none⟩ = some (.slice (qs[j]'(by omega)).A (qs[j]'(by omega)).n (qs[j]'(by omega)).c) := (XO.cell j (by omega)).trans (congrArg some (HCC j hjt).out)
          have hrn := OK.out _ (List.getElem_mem (show j < qs.length by omega))
          have hq1 : (ts[j]'(by omega)).1 = qs[j]'(by omega) := by
            have h1 : (ts.map Prod.fst)[j]? = qs[j]? := by rw [HT.out.1]
            rw [List.getElem?_map, List.getElem?_eq_getElem (by omega), List.getElem?_eq_getElem (by omega)] at h1
            exact Option.some.inj h1
          have S2 := R.out.fr1.takeI (i := j) (by omega)
          have S3 : Hid (Sep w0 wr (cF ((qs[j]'(by omega)), ⟨(qs[j]'(by omega)).A, 0, (qs[j]'(by omega)).c, bs (List.replicate 0 (mk j))⟩) :: cAll ((ts.eraseIdx j).map cF) :: cOw 22 1 gA j gc ((ts.take j).map gcell) :: cOw 22 1 A' k c' (ccells ws) :: cAll (ws.map cLent) :: cOw 22 1 (some ⟨a, 0, none⟩) k c (ccells qs) :: l)) := by
            rw [← hq1]
            refine S2.as _ (cF_start _ (cF_own _ S2.h0)) fun k hk => ?_
            exact hk.elim Or.inl Or.inl
          have HQ := Lib.hid (show qs[j]? = some (qs[j]'(by omega)) from List.getElem?_eq_getElem (by omega))
          clear XO S2 hq1
          generalize (qs[j]'(by omega)) = x at *
          go_wp2
          clear hq2
          go_loopw [7, 8] (fun b i wr => ∃ (m : Nat) (X : Option Addr) (cX : Nat), m ≤ 64 ∧ i = .int .i64 (m : Int) ∧ b = .slice X (x.n + m) cX ∧
            Hid (Sep w0 wr (cF (x, ⟨X, m, cX, bs (List.replicate m (mk j))⟩) :: cAll ((ts.eraseIdx j).map cF) :: cOw 22 1 gA j gc ((ts.take j).map gcell) :: cOw 22 1 A' k c' (ccells ws) :: cAll (ws.map cLent) :: cOw 22 1 (some ⟨a, 0, none⟩) k c (ccells qs) :: l))) (fun _ i _ => 64 - (intOf i).toNat)
          case atStart => exact ⟨0, x.A, x.c, Nat.zero_le _, rfl, rfl, S3.out⟩
          case round =>
            obtain ⟨m, X, cX, hm, rfl, rfl, R2⟩ := hrel
            clear R S3
            by_cases hmt : m < 64
            · go_wp2_with (at_builtin; refine sep_app2 (t := twB (x, ⟨X, m, cX, bs (List.replicate m (mk j))⟩)) elB rfl (.tmp 44) (.tmp 49) rfl rfl R2.out _ rfl rfl (by simp [Value.oneCell']) (by show (x.n + m + 1) * 1 ≤ _; omega) (by show x.n + m + 1 ≤ _; omega) ?_; intro A6 c6 w6 S7; have S8 := Lib.hid S7; clear S7)
              go_roundw
              case rel =>
                refine ⟨m + 1, A6, c6, by omega, by go_num, rfl, ?_⟩
                have e1 : bs (List.replicate (m + 1) (mk j)) = bs (List.replicate m (mk j)) ++ [.int .u8 (192 + (j : Int) % 40)] := by
                  rw [List.replicate_succ', bs_append]
                  simp only [bs, List.map_cons, List.map_nil, mk_toNat]
                rw [e1]
                exact S8.out
              case measure => simp [intOf]; omega
            · obtain rfl : m = 64 := by omega
              go_wp2_with (at_builtin; refine sep_app1 elC rfl (.tmp 51) (.tmp 53) rfl rfl R2.out.fr2 #[.slice X (x.n + 64) cX] rfl rfl (by simp [Value.oneCell']) (by omega) (by omega) ?_; intro A6 c6 w6 S7; have S8 := Lib.hid S7; clear S7)
              go_roundw
              case rel =>
                have e1 : ((ts.set j (x, ⟨X, 64, cX, bs (List.replicate 64 (mk j))⟩)).take (j + 1)).map gcell = (ts.take j).map gcell ++ #[Value.slice X (x.n + 64) cX].toList := by
                  rw [List.take_succ_eq_append_getElem (by rw [List.length_set]; omega), List.map_append, List.getElem_set_self, List.take_set_of_le (Nat.le_refl _)]
                  rfl
                refine ⟨j + 1, A6, c6, ts.set j (x, ⟨X, 64, cX, bs (List.replicate 64 (mk j))⟩), by omega, by go_num, rfl, ⟨?_, ?_⟩, ?_⟩
                · rw [List.map_set, HT.out.1]
                  refine List.ext_getElem? fun i => ?_
                  rw [List.getElem?_set]
                  split
                  · rename_i h; subst h
                    rw [if_pos (by omega), HQ.out]
                  · rfl
                · intro i h hi
                  rw [List.getElem_set]
                  split
                  · rename_i h; subst h
                    exact ⟨rfl, rfl⟩
                  · exact HT.out.2 i (by simpa using h) (by omega)
                · rw [e1]
                  exact (Sep.putI (by omega) S8.out.fr1.fr2.fr1).fr1
              case measure => simp [intOf]; omega
        · obtain rfl : j = k := by omega
          rw [List.take_of_length_le (by omega)] at R
          go_wp2
          go_loopw [9] (fun i wr => ∃ (m : Nat), m ≤ j ∧ i = .int .i64 (m : Int) ∧
            Hid (Sep w0 wr (cOw 22 1 gA j gc (ts.map gcell) :: cAll (ts.map cF) :: cOw 22 1 A' j c' (ccells ws) :: cAll (ws.map cLent) :: cOw 22 1 A j c (ccells qs) :: l))) (fun i _ => j - (intOf i).toNat)
          case atStart => exact ⟨0, Nat.zero_le _, rfl, R⟩
          case round =>
            obtain ⟨m, hm, rfl, R3⟩ := hrel
            clear R SX
            by_cases hmt : m < j
            · rcases hf with ⟨_, h0, _⟩ | ⟨a, rfl⟩
              · omega
              have XO : Ow wr 22 1 (some ⟨a, 0, none⟩) j c (ccells qs) := R3.out.h4
              have XW : Ow wr 22 1 A' j c' (ccells ws) := R3.out.h2
              have XG : Ow wr 22 1 gA j gc (ts.map gcell) := R3.out.h0
              have hW' := XW.form
              have hG' := XG.form
              have hlW := XW.le
              have hlG := XG.le
              rcases hW' with ⟨_, h0, _⟩ | ⟨aw, rfl⟩
              · omega
              rcases hG' with ⟨_, h0, _⟩ | ⟨ag, rfl⟩
              · omega
              have hq1 : (ts[m]'(by omega)).1 = qs[m]'(by omega) := by
                have h1 : (ts.map Prod.fst)[m]? = qs[m]? := by rw [HT.out.1]
                rw [List.getElem?_map, List.getElem?_eq_getElem (by omega), List.getElem?_eq_getElem (by omega)] at h1
                exact Option.some.inj h1
              have hq2 : (ws[m]'(by omega)).b = (qs[m]'(by omega)).b ∧ (ws[m]'(by omega)).n = (qs[m]'(by omega)).n := by
                constructor
                · have h1 : (ws.map RQ.b)[m]? = (qs.map RQ.b)[m]? := by rw [HW.out.1]
                  rw [List.getElem?_map, List.getElem?_map, List.getElem?_eq_getElem (by omega), List.getElem?_eq_getElem (by omega)] at h1
                  exact Option.some.inj h1
                · have h1 : (ws.map RQ.n)[m]? = (qs.map RQ.n)[m]? := by rw [HW.out.2]
                  rw [List.getElem?_map, List.getElem?_map, List.getElem?_eq_getElem (by omega), List.getElem?_eq_getElem (by omega)] at h1
                  exact Option.some.inj h1
              have hcl : wr.cell? ⟨a, m, none⟩ = some (.slice (qs[m]'(by omega)).A (qs[m]'(by omega)).n (qs[m]'(by omega)).c) := (XO.cell m (by omega)).trans (congrArg some (HCC m hmt).out)
              have hcw : wr.cell? ⟨aw, m, none⟩ = some (.slice (ws[m]'(by omega)).A (ws[m]'(by omega)).n (ws[m]'(by omega)).c) := (XW.cell m (by simp [ccells]; omega)).trans (by simp [ccells])
              have hcg : ∀ (W : World), Ow W 22 1 (some ⟨ag, 0, none⟩) j gc (ts.map gcell) → W.cell? ⟨ag, m, none⟩ = some (.slice (ts[m]'(by omega)).2.X ((ts[m]'(by omega)).1.n + (ts[m]'(by omega)).2.m) (ts[m]'(by omega)).2.cX) := fun W h => (h.cell m (by simp; omega)).trans (by simp [gcell])
              have XF : ∀ (W : World), (cAll (ts.map cF)).P W → (twB (ts[m]'(by omega))).P 5 1 W := fun W h => h.1 _ (List.mem_map_of_mem (List.getElem_mem (show m < ts.length by omega)))
              have HM := HT.out.2 m (by omega) (by omega)
              have hrn := OK.out _ (List.getElem_mem (show m < qs.length by omega))
              have HRQ : Rd wr (qs[m]'(by omega)).A (qs[m]'(by omega)).n (qs[m]'(by omega)).c (qs[m]'(by omega)).b := by
                rw [← hq1]
                exact Ob.rd (cF_ob _ (XF wr R3.out.h1))
              have HRW : Rd wr (ws[m]'(by omega)).A (ws[m]'(by omega)).n (ws[m]'(by omega)).c (ws[m]'(by omega)).b := by
                refine Rd.front (m := (ws[m]'(by omega)).n + 4) (Ob.rd (lentAll R3.out.h3 (ws[m]'(by omega)) (List.getElem_mem _))) ?_
                rw [hq2.1, hq2.2]
                exact HRQ.len
              have HSB : Hid (∀ q, Calls Tryd.prog 20 #[.slice (qs[m]'(by omega)).A (qs[m]'(by omega)).n (qs[m]'(by omega)).c, .slice (ws[m]'(by omega)).A (ws[m]'(by omega)).n (ws[m]'(by omega)).c] (wr.drewN q) fun e w' => e = .returned (.bool true) ∧ ∃ q', w' = (wr.drewN q).drewN q') := fun q => by
                have := sameBytes_any (wr.drewN q) _ _ _ _ _ _ _ _ (HRQ.drewN q) (HRW.drewN q)
                rw [decide_eq_true hq2.1.symm] at this
                exact this
              have hcg0 := hcg wr XG
              have HCG : ∀ (W : World), Ow W 22 1 (some ⟨ag, 0, none⟩) j gc (ts.map gcell) → Hid (W.cell? ⟨ag, m, none⟩ = some (.slice (ts[m]'(by omega)).2.X ((qs[m]'(by omega)).n + 64) (ts[m]'(by omega)).2.cX)) := fun W h => by
                show _ = _
                rw [hcg W h, HM.1, hq1]
              have HXB : ∀ (W : World), (cAll (ts.map cF)).P W → Hid (Rd W (ts[m]'(by omega)).2.X ((qs[m]'(by omega)).n + 64) (ts[m]'(by omega)).2.cX ((qs[m]'(by omega)).b ++ List.replicate 64 (mk m))) := fun W h => by
                have h2 : Ow W 5 1 (ts[m]'(by omega)).2.X ((ts[m]'(by omega)).1.n + (ts[m]'(by omega)).2.m) (ts[m]'(by omega)).2.cX (bs (ts[m]'(by omega)).1.b ++ (ts[m]'(by omega)).2.ys) := (XF W h).2.1
                rw [HM.1, HM.2, hq1, ← bs_append] at h2
                exact Ob.rd (B := 0) h2
              have hlq := HRQ.len
              rw [HM.1, hq1] at hcg0
              rw [hq2.2] at hcw HSB
              clear hcg XF HM hq1 hq2 HRQ HRW XO XW XG
              generalize (qs[m]'(by omega)) = x at *
              generalize (ts[m]'(by omega)).2.X = gX at *
              generalize (ts[m]'(by omega)).2.cX = gcX at *
              generalize (ws[m]'(by omega)).A = wA at *
              generalize (ws[m]'(by omega)).n = wn at *
              generalize (ws[m]'(by omega)).c = wc at *
              go_wp2
              go_quiet ((go_at_call 20; exact Calls.quiet_of (HSB.out _)))
              · go_wp2
                go_loopw [11] (fun i wr => ∃ (d : Nat), d ≤ 64 ∧ i = .int .i64 (d : Int) ∧
                  Hid (Sep w0 wr (cOw 22 1 (some ⟨ag, 0, none⟩) j gc (ts.map gcell) :: cAll (ts.map cF) :: cOw 22 1 (some ⟨aw, 0, none⟩) j c' (ccells ws) :: cAll (ws.map cLent) :: cOw 22 1 (some ⟨a, 0, none⟩) j c (ccells qs) :: l))) (fun i _ => 64 - (intOf i).toNat)
                case atStart => exact ⟨0, Nat.zero_le _, rfl, R3.out.drewN _⟩
                case round =>
                  obtain ⟨d, hd, rfl, R4⟩ := hrel
                  clear R3 hcl hcw hcg0 HSB
                  by_cases hdt : d < 64
                  · have hcg1 := (HCG wr R4.out.h0).out
                    have XB := (HXB wr R4.out.h1).out
                    obtain ⟨b, o, rfl, hc⟩ := XB.at_ (x.n + d) (by rw [List.length_append, List.length_replicate]; omega)
                    rw [List.getElem_append_right (by omega), List.getElem_replicate, mk_toNat] at hc
                    have hcap := XB.le
                    clear XB
                    go_wp2
                    go_roundw
                    case rel => exact ⟨d + 1, by omega, by go_num, R4.out⟩
                    case measure => simp [intOf]; omega
                  · go_wp2
                    go_roundw
                    case rel => exact ⟨m + 1, by omega, by go_num, R4.out⟩
                    case measure => simp [intOf]; omega
            · obtain rfl : m = j := by omega
              have SY : Hid (Sep w0 wr (cAll (qs.map cOwn) :: cOw 22 1 A m c (ccells qs) :: l)) := by
                have h1 := Sep.allMap (f := fun (p : RQ × EX) => cOwn p.1) (g := cF) R3.out.tail (fun p _ h => cF_own p h) (fun p _ k hk => (show inA p.1.A k ∨ inA p.2.X k from Or.inl hk))
                have e1 : qs.map cOwn = ts.map fun p => cOwn p.1 := by rw [← HT.out.1, List.map_map]; rfl
                show Sep _ _ _
                rw [e1]
                exact h1.d1.d1
              clear R3 HW HT
              go_wp2
              go_loopw [12] (fun i wr => ∃ (j : Nat) (ps : List RQ), j ≤ m ∧ i = .int .i64 (j : Int) ∧ Hid (ps.length = m ∧ (∀ (d : Nat) (h : d < ps.length) (h' : d < qs.length), (ps[d]'h).A = (qs[d]'h').A ∧ (ps[d]'h).n = (qs[d]'h').n ∧ (ps[d]'h).c = (qs[d]'h').c) ∧ ∀ (d : Nat) (h : d < ps.length), d < j → (ps[d]'h).b = List.replicate (ps[d]'h).n (lastB (d % 191))) ∧
                Hid (Sep w0 wr (cAll (ps.map cOwn) :: cOw 22 1 A m c (ccells qs) :: l))) (fun i _ => m - (intOf i).toNat)
              case atStart => exact ⟨0, qs, Nat.zero_le _, rfl, ⟨hl, fun d h h' => ⟨rfl, rfl, rfl⟩, fun d h h' => by omega⟩, SY.out⟩
              case round =>
                obtain ⟨j, ps, hj, rfl, HP, R⟩ := hrel
                clear SY
                have hpl := HP.out.1
                by_cases hjt : j < m
                · rcases hf with ⟨_, h0, _⟩ | ⟨a, rfl⟩
                  · omega
                  have HCL : ∀ (W : World), Ow W 22 1 (some ⟨a, 0, none⟩) m c (ccells qs) → Hid (W.cell? ⟨a, j, none⟩ = some (.slice (qs[j]'(by omega)).A (qs[j]'(by omega)).n (qs[j]'(by omega)).c)) := fun W h => (h.cell j (by omega)).trans (congrArg some (HCC j hjt).out)
                  have hcl := (HCL wr R.out.h1).out
                  have hpe := HP.out.2.1 j (by omega) (by omega)
                  have S3 : Hid (Sep w0 wr (cOb (qs[j]'(by omega)).A (qs[j]'(by omega)).n (qs[j]'(by omega)).c (ps[j]'(by omega)).b :: cAll ((ps.eraseIdx j).map cOwn) :: cOw 22 1 (some ⟨a, 0, none⟩) m c (ccells qs) :: l)) := by
                    have := R.out.takeI (i := j) (by omega)
                    show Sep _ _ _
                    rw [← hpe.1, ← hpe.2.1, ← hpe.2.2]
                    exact this
                  have hrn := OK.out _ (List.getElem_mem (show j < qs.length by omega))
                  have HQ := Lib.hid (show qs[j]? = some (qs[j]'(by omega)) from List.getElem?_eq_getElem (by omega))
                  have hb0 : ∃ b, b = (ps[j]'(by omega)).b := ⟨_, rfl⟩
                  obtain ⟨b0, hb0⟩ := hb0
                  rw [← hb0] at S3
                  clear hpe hb0
                  generalize (qs[j]'(by omega)) = x at *
                  go_wp2
                  clear hcl R
                  go_loopw [13] (fun i wr => ∃ (d : Nat) (b : List UInt8), d ≤ x.n ∧ i = .int .i64 (d : Int) ∧ Hid (b.take d = List.replicate d (lastB (j % 191))) ∧
                    Hid (Sep w0 wr (cOb x.A x.n x.c b :: cAll ((ps.eraseIdx j).map cOwn) :: cOw 22 1 (some ⟨a, 0, none⟩) m c (ccells qs) :: l))) (fun i _ => x.n - (intOf i).toNat)
                  case atStart => exact ⟨0, b0, Nat.zero_le _, rfl, rfl, S3.out⟩
                  case round =>
                    obtain ⟨d, b, hd, rfl, HB, R4⟩ := hrel
                    clear S3
                    have hcl := (HCL wr R4.out.h2).out
                    have XB : Ob wr 0 x.A x.n x.c b := R4.out.h0
                    have hbl := XB.rd.len
                    have hxc := XB.rd.le
                    by_cases hdt : d < x.n
                    · obtain ⟨g, hg, _⟩ := XB.form (by omega)
                      rw [hg] at XB
                      obtain ⟨z, hz⟩ := XB.cellX d hdt
                      have hfz := XB.frz d
                      have XP := Lib.hid (fun v z hz => XB.put d v z hz)
                      rw [hg] at hcl
                      clear XB
                      go_wp2
                      go_roundw
                      case rel =>
                        refine ⟨d + 1, b.set d (lastB (j % 191)), by omega, by go_num, ?_, ?_⟩
                        · show _ = _
                          rw [List.take_succ_eq_append_getElem (by rw [List.length_set]; omega), List.take_set_of_le (Nat.le_refl _), HB.out, List.getElem_set_self, List.replicate_succ']
                        · refine R4.out.mod (Chg.set (Chg.refl _ _) (fun _ => ?_) _) (cOb x.A x.n x.c (b.set d (lastB (j % 191)))) ?_ fun k hk => .inl hk
                          · exact ⟨_, hg, rfl⟩
                          · show Ob _ 0 x.A x.n x.c _
                            rw [hg]
                            exact XP.out _ _ (lastB_mod j).symm
                      case measure => simp [intOf]; omega
                    · obtain rfl : d = x.n := by omega
                      have HBB : Hid (b = List.replicate x.n (lastB (j % 191))) := by
                        have := HB.out
                        rw [List.take_of_length_le (by omega)] at this
                        exact this
                      clear XB
                      go_wp2
                      go_roundw
                      case rel =>
                        refine ⟨j + 1, ps.set j ⟨0, 0, x.A, x.n, x.c, b⟩, by omega, by go_num, ⟨by rw [List.length_set]; exact hpl, ?_, ?_⟩, ?_⟩
                        · intro i h h'
                          rw [List.getElem_set]
                          split
                          · rename_i h; subst h
                            rw [show qs[j]'h' = x from Option.some.inj ((List.getElem?_eq_getElem h').symm.trans HQ.out)]
                            exact ⟨rfl, rfl, rfl⟩
                          · exact HP.out.2.1 i (by simpa using h) h'
                        · intro i h hi
                          rw [List.getElem_set]
                          split
                          · rename_i h; subst h
                            exact HBB.out
                          · exact HP.out.2.2 i (by simpa using h) (by omega)
                        · exact Sep.putI (f := cOwn) (x := ⟨0, 0, x.A, x.n, x.c, b⟩) (by omega) R4.out
                      case measure => simp [intOf]; omega
                · obtain rfl : j = m := by omega
                  go_wp2
                  go_loopw [14] (fun i wr => ∃ (m : Nat), m ≤ j ∧ i = .int .i64 (m : Int) ∧ Hid (Sep w0 wr (cAll (ps.map cOwn) :: cOw 22 1 A j c (ccells qs) :: l))) (fun i _ => j - (intOf i).toNat)
                  case atStart => exact ⟨0, Nat.zero_le _, rfl, R⟩
                  case round =>
                    obtain ⟨m, hm, rfl, R3⟩ := hrel
                    clear R
                    by_cases hmt : m < j
                    · rcases hf with ⟨_, h0, _⟩ | ⟨a, rfl⟩
                      · omega
                      have HCL : ∀ (W : World), Ow W 22 1 (some ⟨a, 0, none⟩) j c (ccells qs) → Hid (W.cell? ⟨a, m, none⟩ = some (.slice (qs[m]'(by omega)).A (qs[m]'(by omega)).n (qs[m]'(by omega)).c)) := fun W h => (h.cell m (by omega)).trans (congrArg some (HCC m hmt).out)
                      have hcl := (HCL wr R3.out.h1).out
                      have hpe := HP.out.2.1 m (by omega) (by omega)
                      have hpb := HP.out.2.2 m (by omega) hmt
                      have HRD : ∀ (W : World), (cAll (ps.map cOwn)).P W → Hid (Rd W (qs[m]'(by omega)).A (qs[m]'(by omega)).n (qs[m]'(by omega)).c (List.replicate (qs[m]'(by omega)).n (lastB (m % 191)))) := fun W h => by
                        have h2 : Ob W 0 (ps[m]'(by omega)).A (ps[m]'(by omega)).n (ps[m]'(by omega)).c (ps[m]'(by omega)).b := h.1 _ (List.mem_map_of_mem (List.getElem_mem (show m < ps.length by omega)))
                        rw [hpb, hpe.1, hpe.2.1, hpe.2.2] at h2
                        exact h2.rd
                      have hrn := OK.out _ (List.getElem_mem (show m < qs.length by omega))
                      clear hpe hpb
                      generalize (qs[m]'(by omega)) = x at *
                      go_wp2
                      clear hcl
                      go_loopw [15] (fun i wr => ∃ (d : Nat), d ≤ x.n ∧ i = .int .i64 (d : Int) ∧ Hid (Sep w0 wr (cAll (ps.map cOwn) :: cOw 22 1 (some ⟨a, 0, none⟩) j c (ccells qs) :: l))) (fun i _ => x.n - (intOf i).toNat)
                      case atStart => exact ⟨0, Nat.zero_le _, rfl, R3⟩
                      case round =>
                        obtain ⟨d, hd, rfl, R4⟩ := hrel
                        clear R3
                        have hcl := (HCL wr R4.out.h1).out
                        have XB := (HRD wr R4.out.h0).out
                        have hxc := XB.le
                        by_cases hdt : d < x.n
                        · obtain ⟨b, o, hg, hc⟩ := XB.at_ d (by rw [List.length_replicate]; omega)
                          rw [List.getElem_replicate, lastB_mod] at hc
                          rw [hg] at hcl
                          clear XB
                          go_wp2
                          go_roundw
                          case rel => exact ⟨d + 1, by omega, by go_num, R4.out⟩
                          case measure => simp [intOf]; omega
                        · clear XB
                          go_wp2
                          go_roundw
                          case rel => exact ⟨m + 1, by omega, by go_num, R4.out⟩
                          case measure => simp [intOf]; omega
                    · go_wp2
                      go_ret
                      exact ⟨rfl, R3.out.tail.tail⟩
end Go.Proofs.YtbhmnkpbaeemeaaDoor

/-! # L23 -/
set_option maxRecDepth 100000
namespace Go.Proofs.YtbhmnkpbaeemeaaDoor
open Go.RowKit

structure BT where
  stamp : Nat
  A : Option Addr
  n : Nat
  c : Nat
  xs : List Value
def BT.cells (b : BT) : List Value := [.int .u64 (b.stamp : Int), .slice b.A b.n b.c]
def bcells (l : List BT) : List Value := (l.map BT.cells).flatten
theorem bcells_len (l : List BT) : (bcells l).length = l.length * 2 := by
  induction l with
  | nil => rfl
  | cons q l ih =>
    have : bcells (q :: l) = q.cells ++ bcells l := rfl
    rw [this, List.length_append, ih]
    simp [BT.cells]; omega
theorem bcells_get (l : List BT) (i j : Nat) (hi : i < l.length) (hj : j < 2) : (bcells l)[i * 2 + j]? = (l[i]'hi).cells[j]? := by
  induction l generalizing i with
  | nil => simp at hi
  | cons q l ih =>
    have e : bcells (q :: l) = q.cells ++ bcells l := rfl
    have e3 : q.cells.length = 2 := rfl
    rw [e]
    cases i with
    | zero => rw [List.getElem?_append_left (by omega)]; simp
    | succ i =>
      rw [List.getElem?_append_right (by omega), e3, show (i + 1) * 2 + j - 2 = i * 2 + j by omega]
      exact ih i (by simpa using hi)
def cRq (b : BT) : Ch := cOw 155 3 b.A b.n b.c b.xs
theorem elBt : ElI 167 83 (.agg #[.int .u64 0, .slice none 0 0]) 2 32 := ⟨by kernel_rfl, by kernel_rfl, by rfl, by decide⟩
theorem elRR : ElI 195 81 (.slice none 0 0) 1 24 := ⟨by kernel_rfl, by kernel_rfl, by rfl, by decide⟩

/-- Each request's second number is so and so. -/
def Nmb (f : Nat → Nat) (m : Nat) (xs : List Value) : Prop := ∀ k, k < m → xs[k * 3 + 1]? = some (.int .u64 (f k : Int))
theorem Nmb.set {f : Nat → Nat} {m : Nat} {xs : List Value} (h : Nmb f m xs) (hl : m * 3 + 1 < xs.length) : Nmb f (m + 1) (xs.set (m * 3 + 1) (.int .u64 (f m : Int))) := by
  intro k hk
  rw [List.getElem?_set]
  split
  · rename_i h2
    have : m = k := by omega
    subst this
    simp
  · rename_i h2
    exact h k (by omega)
theorem Nmb.snoc {f : Nat → Nat} {m : Nat} {xs : List Value} (h : Nmb f m xs) (hl : xs.length = m * 3) (a b : Value) : Nmb f (m + 1) (xs ++ [a, .int .u64 (f m : Int), b]) := by
  intro k hk
  by_cases hkm : k < m
  · rw [List.getElem?_append_left (by omega)]
    exact h k hkm
  · have : k = m := by omega
    subst this
    rw [List.getElem?_append_right (by omega), show k * 3 + 1 - xs.length = 1 by omega]
    rfl
def offs (ts : List BT) (j : Nat) : Nat := ((ts.take j).map (·.n)).sum
theorem offs_succ (ts : List BT) (j : Nat) (h : j < ts.length) : offs ts (j + 1) = offs ts j + (ts[j]'h).n := by
  unfold offs
  rw [List.take_succ_eq_append_getElem h, List.map_append, List.sum_append]
  simp
theorem offs_le (ts : List BT) (M : Nat) (h : ∀ b ∈ ts, b.n ≤ M) (j : Nat) (hj : j ≤ ts.length) : offs ts j ≤ j * M := by
  induction j with
  | zero => simp [offs]
  | succ j ih =>
    rw [offs_succ ts j (by omega)]
    have := ih (by omega)
    have := h _ (List.getElem_mem (show j < ts.length by omega))
    rw [Nat.add_mul]
    omega

def twR (p : BT × EX) : TW := ⟨p.1.A, p.1.n, p.1.c, p.1.xs, p.2.X, p.2.m, p.2.cX, p.2.ys⟩
def cG (p : BT × EX) : Ch := cTW 155 3 (twR p)
def rcell (p : BT × EX) : Value := .slice p.2.X (p.1.n + p.2.m) p.2.cX
def EX.stR (q : BT) : EX := ⟨q.A, 0, q.c, []⟩
theorem cG_start {w : World} (q : BT) (h : (cRq q).P w) : (cG (q, EX.stR q)).P w := TW.startP h
theorem cG_own {w : World} (p : BT × EX) (h : (cG p).P w) : (cRq p.1).P w := h.1

set_option maxHeartbeats 4000000 in
theorem freeReqs_any {w0 : World} (w : World) (l : List Ch) (A : Option Addr) (n c : Nat) (ts : List BT) (hl : ts.length = n) (hn : n ≤ 1000) (ok : ∀ b ∈ ts, b.n ≤ 1000000)
    (S : Sep w0 w (cOw 83 2 A n c (bcells ts) :: cAll (ts.map cRq) :: l)) :
    Calls Tryd.prog 111 #[.slice A n c] w fun e w' => e = .returned (.bool true) ∧ Sep w0 w' l := by
  have S0 := Lib.hid S.fr1
  have hf := Ow.form (show Ow w _ 2 A n c _ from S.h0)
  have hle := Ow.le (show Ow w _ 2 A n c _ from S.h0)
  have OK := Lib.hid ok
  have hcc := bcells_len ts
  have HO : ∀ j, j ≤ n → Hid (offs ts j ≤ 1000000000) := fun j hj => by
    have := offs_le ts 1000000 ok j (by omega)
    have : j * 1000000 ≤ 1000 * 1000000 := Nat.mul_le_mul_right _ (by omega)
    show _ ≤ _
    omega
  have HO0 : Hid (offs ts 0 = 0) := by show _ = _; simp [offs]
  have HO1 : ∀ j (h : j < n), Hid (offs ts (j + 1) = offs ts j + (ts[j]'(by omega)).n) := fun j h => offs_succ ts j (by omega)
  have HCL : ∀ (j : Nat) (h : j < n) (W : World) (a : Nat), Ow W 83 2 (some ⟨a, 0, none⟩) n c (bcells ts) → Hid (W.cell? ⟨a, j * 2 + 1, none⟩ = some (.slice (ts[j]'(by omega)).A (ts[j]'(by omega)).n (ts[j]'(by omega)).c)) := fun j h W a hW => by
    show _ = _
    rw [hW.cell (j * 2 + 1) (by omega)]
    have := bcells_get ts j 1 (by omega) (by omega)
    rw [List.getElem?_eq_getElem (by omega)] at this
    exact this
  clear S ok
  generalize ho : offs ts = O at *
  clear ho
  go_enter Tryd.func111, Tryd.ntmps111
  go_wp2
  go_loopw [3, 4] (fun v i wr => ∃ (j : Nat) (ps : List BT), j ≤ n ∧ i = .int .i64 (j : Int) ∧ v = .int .u64 (O j : Int) ∧ Hid (ps.length = n ∧ (∀ (d : Nat) (h : d < ps.length) (h' : d < ts.length), (ps[d]'h).A = (ts[d]'h').A ∧ (ps[d]'h).n = (ts[d]'h').n ∧ (ps[d]'h).c = (ts[d]'h').c) ∧ ∀ (d : Nat) (h : d < ps.length), d < j → Nmb (fun k => O d + k + 1) (ps[d]'h).n (ps[d]'h).xs) ∧
    Hid (Sep w0 wr (cAll (ps.map cRq) :: cOw 83 2 A n c (bcells ts) :: l))) (fun _ i _ => n - (intOf i).toNat)
  case atStart => exact ⟨0, ts, Nat.zero_le _, rfl, by rw [HO0.out]; rfl, ⟨hl, fun d h h' => ⟨rfl, rfl, rfl⟩, fun d h h' => by omega⟩, S0.out⟩
  case round =>
    obtain ⟨j, ps, hj, rfl, rfl, HP, R⟩ := hrel
    clear S0
    have hpl := HP.out.1
    have hOj := (HO j hj).out
    by_cases hjt : j < n
    · rcases hf with ⟨_, h0, _⟩ | ⟨a, rfl⟩
      · omega
      have hcl := (HCL j hjt wr a R.out.h1).out
      have hpe := HP.out.2.1 j (by omega) (by omega)
      have S3 : Hid (Sep w0 wr (cRq ⟨0, (ts[j]'(by omega)).A, (ts[j]'(by omega)).n, (ts[j]'(by omega)).c, (ps[j]'(by omega)).xs⟩ :: cAll ((ps.eraseIdx j).map cRq) :: cOw 83 2 (some ⟨a, 0, none⟩) n c (bcells ts) :: l)) := by
        have := R.out.takeI (i := j) (by omega)
        show Sep _ _ _
        rw [← hpe.1, ← hpe.2.1, ← hpe.2.2]
        exact this
      have hrn := OK.out _ (List.getElem_mem (show j < ts.length by omega))
      have HQ := Lib.hid (show ts[j]? = some (ts[j]'(by omega)) from List.getElem?_eq_getElem (by omega))
      have HC1 := HCL j hjt
      have HO2 := HO1 j hjt
      obtain ⟨b0, hb0⟩ : ∃ b, b = (ps[j]'(by omega)).xs := ⟨_, rfl⟩
      rw [← hb0] at S3
      clear hpe hb0
      generalize (ts[j]'(by omega)) = x at *
      go_wp2
      clear hcl R
      go_loopw [3, 5] (fun v i wr => ∃ (d : Nat) (b : List Value), d ≤ x.n ∧ i = .int .i64 (d : Int) ∧ v = .int .u64 ((O j : Int) + (d : Int)) ∧ Hid (Nmb (fun k => O j + k + 1) d b) ∧
        Hid (Sep w0 wr (cRq ⟨0, x.A, x.n, x.c, b⟩ :: cAll ((ps.eraseIdx j).map cRq) :: cOw 83 2 (some ⟨a, 0, none⟩) n c (bcells ts) :: l))) (fun _ i _ => x.n - (intOf i).toNat)
      case atStart => exact ⟨0, b0, Nat.zero_le _, rfl, by simp, fun k hk => by omega, S3.out⟩
      case round =>
        obtain ⟨d, b, hd, rfl, rfl, HB, R4⟩ := hrel
        clear S3
        have hcl := (HC1 wr a R4.out.h2).out
        have XB : Ow wr 155 3 x.A x.n x.c b := R4.out.h0
        have hbl := XB.len
        have hxc := XB.le
        by_cases hdt : d < x.n
        · rcases XB.form with ⟨_, h0, _⟩ | ⟨g, hg⟩
          · omega
          rw [hg] at XB
          obtain ⟨z, hz⟩ : ∃ z, wr.cell? ⟨g, d * 3 + 1, none⟩ = some z := ⟨_, XB.cell (d * 3 + 1) (by omega)⟩
          have hfz := XB.frozen (d * 3 + 1)
          have XP := Lib.hid (XB.put (d * 3 + 1) (by omega) (.int .u64 ((O j + d + 1 : Nat) : Int)))
          rw [hg] at hcl
          have HBL := Lib.hid hbl
          clear XB hbl
          go_wp2
          go_roundw
          case rel =>
            refine ⟨d + 1, b.set (d * 3 + 1) (.int .u64 ((O j + d + 1 : Nat) : Int)), by omega, by go_num, by go_num, ?_, ?_⟩
            · exact HB.out.set (by have := HBL.out; omega)
            · refine R4.out.mod (Chg.set (Chg.refl _ _) (fun _ => ?_) _) (cRq ⟨0, x.A, x.n, x.c, b.set (d * 3 + 1) (.int .u64 ((O j + d + 1 : Nat) : Int))⟩) ?_ fun k hk => .inl hk
              · exact ⟨_, hg, rfl⟩
              · show Ow _ _ 3 x.A x.n x.c _
                rw [hg]
                exact XP.out
          case measure => simp [intOf]; omega
        · obtain rfl : d = x.n := by omega
          clear XB
          go_wp2
          go_roundw
          case rel =>
            refine ⟨j + 1, ps.set j ⟨0, x.A, x.n, x.c, b⟩, by omega, by go_num, by rw [HO2.out]; simp, ⟨by rw [List.length_set]; exact hpl, ?_, ?_⟩, ?_⟩
            · intro i h h'
              rw [List.getElem_set]
              split
              · rename_i h; subst h
                rw [show ts[j]'h' = x from Option.some.inj ((List.getElem?_eq_getElem h').symm.trans HQ.out)]
                exact ⟨rfl, rfl, rfl⟩
              · exact HP.out.2.1 i (by simpa using h) h'
            · intro i h hi
              rw [List.getElem_set]
              split
              · rename_i h; subst h
                exact HB.out
              · exact HP.out.2.2 i (by simpa using h) (by omega)
            · exact Sep.putI (f := cRq) (x := ⟨0, x.A, x.n, x.c, b⟩) (by omega) R4.out
          case measure => simp [intOf]; omega
    · obtain rfl : j = n := by omega
      have SX : Hid (Sep w0 wr (cAll ((ps.map fun q => (q, EX.stR q)).map cG) :: cOw 83 2 A j c (bcells ts) :: l)) := by
        have h1 := Sep.allMap (f := fun q => cG (q, EX.stR q)) R.out (fun q _ h => cG_start q h) (fun q _ k hk => hk.elim id id)
        show Sep _ _ _
        rw [List.map_map]
        exact h1
      clear R
      go_wp2
      go_loopw [6, 7] (fun b i wr => ∃ (k : Nat) (gA : Option Addr) (gc : Nat) (us : List (BT × EX)), k ≤ j ∧ i = .int .i64 (k : Int) ∧ b = .slice gA k gc ∧ Hid (us.map Prod.fst = ps ∧ ∀ (m : Nat) (h : m < us.length), m < k → (us[m]'h).2.m = 64 ∧ Nmb (fun d => 1000000 * (m + 1) + d) 64 (us[m]'h).2.ys) ∧
        Hid (Sep w0 wr (cOw 81 1 gA k gc ((us.take k).map rcell) :: cAll (us.map cG) :: cOw 83 2 A j c (bcells ts) :: l))) (fun _ i _ => j - (intOf i).toNat)
      case atStart => exact ⟨0, none, 0, ps.map fun q => (q, EX.stR q), Nat.zero_le _, rfl, rfl, ⟨by simp [Function.comp_def], fun m h h0 => by omega⟩, SX.out.push (Below.refl _ _) (cOw 81 1 none 0 0 []) (Ow.nil _ _ _) fun k hk => by obtain ⟨a, e, _⟩ := hk; cases e⟩
      case round =>
        obtain ⟨k, gA, gc, us, hk, rfl, rfl, HT, R⟩ := hrel
        have htl : us.length = j := by have := congrArg List.length HT.out.1; simpa [hpl] using this
        by_cases hkt : k < j
        · rcases hf with ⟨_, h0, _⟩ | ⟨a, rfl⟩
          · omega
          have hcl := (HCL k hkt wr a R.out.h2).out
          have hpe := HP.out.2.1 k (by omega) (by omega)
          have hq1 : (us[k]'(by omega)).1 = ps[k]'(by omega) := by
            have h1 : (us.map Prod.fst)[k]? = ps[k]? := by rw [HT.out.1]
            rw [List.getElem?_map, List.getElem?_eq_getElem (by omega), List.getElem?_eq_getElem (by omega)] at h1
            exact Option.some.inj h1
          have hrn := OK.out _ (List.getElem_mem (show k < ts.length by omega))
          have S2 := R.out.fr1.takeI (i := k) (by omega)
          have S3 : Hid (Sep w0 wr (cG ((ps[k]'(by omega)), ⟨(ps[k]'(by omega)).A, 0, (ps[k]'(by omega)).c, []⟩) :: cAll ((us.eraseIdx k).map cG) :: cOw 81 1 gA k gc ((us.take k).map rcell) :: cOw 83 2 (some ⟨a, 0, none⟩) j c (bcells ts) :: l)) := by
            rw [← hq1]
            refine S2.as _ (cG_start _ (cG_own _ S2.h0)) fun k hk => ?_
            exact hk.elim Or.inl Or.inl
          have HQ := Lib.hid (show ps[k]? = some (ps[k]'(by omega)) from List.getElem?_eq_getElem (by omega))
          rw [← hpe.1, ← hpe.2.1, ← hpe.2.2] at hcl
          rw [← hpe.2.1] at hrn
          clear S2 hq1 hpe
          generalize (ps[k]'(by omega)) = x at *
          go_wp2
          clear hcl
          go_loopw [8, 9] (fun b i wr => ∃ (m : Nat) (X : Option Addr) (cX : Nat) (ys : List Value), m ≤ 64 ∧ i = .int .i64 (m : Int) ∧ b = .slice X (x.n + m) cX ∧ Hid (Nmb (fun d => 1000000 * (k + 1) + d) m ys ∧ ys.length = m * 3) ∧
            Hid (Sep w0 wr (cG (x, ⟨X, m, cX, ys⟩) :: cAll ((us.eraseIdx k).map cG) :: cOw 81 1 gA k gc ((us.take k).map rcell) :: cOw 83 2 (some ⟨a, 0, none⟩) j c (bcells ts) :: l))) (fun _ i _ => 64 - (intOf i).toNat)
          case atStart => exact ⟨0, x.A, x.c, [], Nat.zero_le _, rfl, rfl, ⟨fun d hd => by omega, rfl⟩, S3.out⟩
          case round =>
            obtain ⟨m, X, cX, ys, hm, rfl, rfl, HY, R2⟩ := hrel
            clear R S3
            by_cases hmt : m < 64
            · go_wp2_with (at_builtin; refine sep_app2 (t := twR (x, ⟨X, m, cX, ys⟩)) elQ rfl (.tmp 55) (.tmp 63) rfl rfl R2.out _ rfl rfl (by simp [Value.oneCell']) (by show (x.n + m + 1) * 40 ≤ _; omega) (by show x.n + m + 1 ≤ _; omega) ?_; intro A6 c6 w6 S7; have S8 := Lib.hid S7; clear S7)
              go_roundw
              case rel =>
                refine ⟨m + 1, A6, c6, ys ++ [.int .u64 0, .int .u64 ((1000000 * (k + 1) + m : Nat) : Int), .slice none 0 0], by omega, by go_num, rfl, ⟨HY.out.1.snoc HY.out.2 _ _, by rw [List.length_append, HY.out.2]; simp; omega⟩, ?_⟩
                have e1 : (1000000 * ((k : Int) + 1) + (m : Int)) = ((1000000 * (k + 1) + m : Nat) : Int) := by omega
                rw [← e1]
                exact S8.out
              case measure => simp [intOf]; omega
            · obtain rfl : m = 64 := by omega
              go_wp2_with (at_builtin; refine sep_app1 elRR rfl (.tmp 65) (.tmp 67) rfl rfl R2.out.fr2 #[.slice X (x.n + 64) cX] rfl rfl (by simp [Value.oneCell']) (by omega) (by omega) ?_; intro A6 c6 w6 S7; have S8 := Lib.hid S7; clear S7)
              go_roundw
              case rel =>
                have e1 : ((us.set k (x, ⟨X, 64, cX, ys⟩)).take (k + 1)).map rcell = (us.take k).map rcell ++ #[Value.slice X (x.n + 64) cX].toList := by
                  rw [List.take_succ_eq_append_getElem (by rw [List.length_set]; omega), List.map_append, List.getElem_set_self, List.take_set_of_le (Nat.le_refl _)]
                  rfl
                refine ⟨k + 1, A6, c6, us.set k (x, ⟨X, 64, cX, ys⟩), by omega, by go_num, rfl, ⟨?_, ?_⟩, ?_⟩
                · rw [List.map_set, HT.out.1]
                  refine List.ext_getElem? fun i => ?_
                  rw [List.getElem?_set]
                  split
                  · rename_i h; subst h
                    rw [if_pos (by omega), HQ.out]
                  · rfl
                · intro i h hi
                  rw [List.getElem_set]
                  split
                  · rename_i h; subst h
                    exact ⟨rfl, HY.out.1⟩
                  · exact HT.out.2 i (by simpa using h) (by omega)
                · rw [e1]
                  exact (Sep.putI (by omega) S8.out.fr1.fr2.fr1).fr1
              case measure => simp [intOf]; omega
        · obtain rfl : k = j := by omega
          rw [List.take_of_length_le (by omega)] at R
          go_wp2
          go_loopw [3, 10] (fun v i wr => ∃ (m : Nat), m ≤ k ∧ i = .int .i64 (m : Int) ∧ v = .int .u64 (O m : Int) ∧
            Hid (Sep w0 wr (cOw 81 1 gA k gc (us.map rcell) :: cAll (us.map cG) :: cOw 83 2 A k c (bcells ts) :: l))) (fun _ i _ => k - (intOf i).toNat)
          case atStart => exact ⟨0, Nat.zero_le _, rfl, by rw [HO0.out]; rfl, R.out⟩
          case round =>
            obtain ⟨m, hm, rfl, rfl, R3⟩ := hrel
            clear R SX
            have hOm := (HO m hm).out
            by_cases hmt : m < k
            · rcases hf with ⟨_, h0, _⟩ | ⟨a, rfl⟩
              · omega
              have hpe := HP.out.2.1 m (by omega) (by omega)
              have hpn := HP.out.2.2 m (by omega) hmt
              have HO2 := HO1 m hmt
              have hq1 : (us[m]'(by omega)).1 = ps[m]'(by omega) := by
                have h1 : (us.map Prod.fst)[m]? = ps[m]? := by rw [HT.out.1]
                rw [List.getElem?_map, List.getElem?_eq_getElem (by omega), List.getElem?_eq_getElem (by omega)] at h1
                exact Option.some.inj h1
              have HC1 := HCL m hmt
              have HM := HT.out.2 m (by omega) hmt
              have XG : Ow wr 81 1 gA k gc (us.map rcell) := R3.out.h0
              have hlG := XG.le
              rcases XG.form with ⟨_, h0, _⟩ | ⟨ag, rfl⟩
              · omega
              have hrn := OK.out _ (List.getElem_mem (show m < ts.length by omega))
              have HCG : ∀ (W : World), Ow W 81 1 (some ⟨ag, 0, none⟩) k gc (us.map rcell) → Hid (W.cell? ⟨ag, m, none⟩ = some (.slice (us[m]'(by omega)).2.X ((ts[m]'(by omega)).n + 64) (us[m]'(by omega)).2.cX)) := fun W h => by
                show _ = _
                rw [h.cell m (by simp; omega), ← hpe.2.1, ← hq1, ← HM.1]
                simp [rcell]
              have XF : ∀ (W : World), (cAll (us.map cG)).P W → (twR (us[m]'(by omega))).P 155 3 W := fun W h => h.1 _ (List.mem_map_of_mem (List.getElem_mem (show m < us.length by omega)))
              have HXA : ∀ (W : World), (cAll (us.map cG)).P W → Hid (Ow W 155 3 (ts[m]'(by omega)).A (ts[m]'(by omega)).n (ts[m]'(by omega)).c (ps[m]'(by omega)).xs) := fun W h => by
                have h2 : Ow W 155 3 (us[m]'(by omega)).1.A (us[m]'(by omega)).1.n (us[m]'(by omega)).1.c (us[m]'(by omega)).1.xs := (XF W h).1
                rw [hq1, hpe.1, hpe.2.1, hpe.2.2] at h2
                exact h2
              have HXB : ∀ (W : World), (cAll (us.map cG)).P W → Hid (Ow W 155 3 (us[m]'(by omega)).2.X ((ts[m]'(by omega)).n + 64) (us[m]'(by omega)).2.cX ((ps[m]'(by omega)).xs ++ (us[m]'(by omega)).2.ys)) := fun W h => by
                have h2 : Ow W 155 3 (us[m]'(by omega)).2.X ((us[m]'(by omega)).1.n + (us[m]'(by omega)).2.m) (us[m]'(by omega)).2.cX ((us[m]'(by omega)).1.xs ++ (us[m]'(by omega)).2.ys) := (XF W h).2.1
                rw [HM.1, hq1, hpe.2.1] at h2
                exact h2
              have HN1 : Hid (Nmb (fun d => O m + d + 1) (ts[m]'(by omega)).n (ps[m]'(by omega)).xs) := by
                show Nmb _ _ _
                rw [← hpe.2.1]
                exact hpn
              have HN2 := Lib.hid HM.2
              clear hpe hpn hq1 HM XG XF
              generalize (ts[m]'(by omega)) = x at *
              generalize (ps[m]'(by omega)).xs = pxs at *
              generalize (us[m]'(by omega)).2.X = gX at *
              generalize (us[m]'(by omega)).2.cX = gcX at *
              generalize (us[m]'(by omega)).2.ys = gys at *
              go_wp2
              go_loopw [3, 11] (fun v i wr => ∃ (d : Nat), d ≤ x.n ∧ i = .int .i64 (d : Int) ∧ v = .int .u64 ((O m : Int) + (d : Int)) ∧
                Hid (Sep w0 wr (cOw 81 1 (some ⟨ag, 0, none⟩) k gc (us.map rcell) :: cAll (us.map cG) :: cOw 83 2 (some ⟨a, 0, none⟩) k c (bcells ts) :: l))) (fun _ i _ => x.n - (intOf i).toNat)
              case atStart => exact ⟨0, Nat.zero_le _, rfl, by simp, R3.out⟩
              case round =>
                obtain ⟨d, hd, rfl, rfl, R4⟩ := hrel
                clear R3
                have hcl := (HC1 wr a R4.out.h2).out
                have XB := (HXA wr R4.out.h1).out
                have hbl := XB.len
                have hxc := XB.le
                by_cases hdt : d < x.n
                · rcases XB.form with ⟨_, h0, _⟩ | ⟨g, hg⟩
                  · omega
                  rw [hg] at XB hcl
                  have hz : wr.cell? ⟨g, d * 3 + 1, none⟩ = some (.int .u64 ((O m : Int) + (d : Int) + 1)) := by
                    rw [XB.cell (d * 3 + 1) (by omega)]
                    have := HN1.out d hdt
                    rw [List.getElem?_eq_getElem (by omega)] at this
                    rw [this]
                    simp
                  clear XB hbl
                  go_wp2
                  go_roundw
                  case rel => exact ⟨d + 1, by omega, by go_num, by go_num, R4.out⟩
                  case measure => simp [intOf]; omega
                · obtain rfl : d = x.n := by omega
                  clear XB hbl
                  go_wp2
                  go_loopw [12] (fun i wr => ∃ (e : Nat), e ≤ 64 ∧ i = .int .i64 (e : Int) ∧
                    Hid (Sep w0 wr (cOw 81 1 (some ⟨ag, 0, none⟩) k gc (us.map rcell) :: cAll (us.map cG) :: cOw 83 2 (some ⟨a, 0, none⟩) k c (bcells ts) :: l))) (fun i _ => 64 - (intOf i).toNat)
                  case atStart => exact ⟨0, Nat.zero_le _, rfl, R4.out⟩
                  case round =>
                    obtain ⟨e, he, rfl, R5⟩ := hrel
                    clear R4 hcl
                    have hcl := (HC1 wr a R5.out.h2).out
                    have hcg := (HCG wr R5.out.h0).out
                    have XA := (HXA wr R5.out.h1).out
                    have XB := (HXB wr R5.out.h1).out
                    have hal := XA.len
                    have hbl := XB.len
                    have hxc := XB.le
                    by_cases het : e < 64
                    · rcases XB.form with ⟨_, h0, _⟩ | ⟨g, hg⟩
                      · omega
                      rw [hg] at XB hcg
                      have hz : wr.cell? ⟨g, (x.n + e) * 3 + 1, none⟩ = some (.int .u64 (1000000 * ((m : Int) + 1) + (e : Int))) := by
                        rw [XB.cell ((x.n + e) * 3 + 1) (by omega)]
                        have := HN2.out e het
                        rw [List.getElem_append_right (by omega)]
                        have e2 : (x.n + e) * 3 + 1 - pxs.length = e * 3 + 1 := by omega
                        simp only [e2]
                        rw [List.getElem?_eq_getElem (by rw [List.length_append] at hbl; omega)] at this
                        rw [this]
                        simp
                      clear XB hbl XA hal
                      go_wp2
                      go_quiet (fail)
                      go_wp2
                      go_roundw
                      case rel => exact ⟨e + 1, by omega, by go_num, R5.out.drewN _⟩
                      case measure => simp [intOf]; omega
                    · clear XB hbl XA hal
                      go_wp2
                      go_roundw
                      case rel => exact ⟨m + 1, by omega, by go_num, by rw [HO2.out]; simp, R5.out⟩
                      case measure => simp [intOf]; omega
            · go_wp2
              go_ret
              exact ⟨rfl, R3.out.tail.tail.tail⟩
end Go.Proofs.YtbhmnkpbaeemeaaDoor

/-! # L24 -/
set_option maxRecDepth 100000
namespace Go.Proofs.YtbhmnkpbaeemeaaDoor
open Go.RowKit

theorem ownOk {w : World} {qs : List RQ} (h : (cAll (qs.map cOwn)).P w) (hf : ∀ q ∈ qs, q.fine) : ∀ q ∈ qs, RqOk w q := fun q hq => by
  have h1 : Ob w 0 q.A q.n q.c q.b := h.1 _ (List.mem_map_of_mem hq)
  obtain ⟨f1, f2, f3, f4⟩ := hf q hq
  exact ⟨f1, f2, h1.rd, f4⟩
theorem fineN {qs : List RQ} (hf : ∀ q ∈ qs, q.fine) : ∀ q ∈ qs, q.n ≤ 2000000 := fun q hq => (hf q hq).2.2.2
/-- A piece of which nothing is known any more. -/
def cAny (F : Nat → Prop) : Ch where
  F := fun _ => False
  P _ := True
  lt _ _ _ h := h.elim
  loc _ _ _ _ _ _ := trivial
theorem Sep.spoilt {w0 w w' : World} {a : Ch} {l : List Ch} (S : Sep w0 w (a :: l)) (hc : Chg w w' a.F) : Sep w0 w' l :=
  (S.mod hc (cAny fun _ => False) trivial fun _ h => h.elim).tail
theorem reqs_count (n : Nat) : ∀ (s : RdS), (RdS.reqs n s).2.length ≤ n := by
  induction n with
  | zero => intro s; simp [RdS.reqs]
  | succ n ih =>
    intro s
    unfold RdS.reqs
    split
    · simp
    · have := ih s.rqS
      simp only [List.length_cons]
      omega
theorem countV8 (s : RdS) : s.countV 8 ≤ 8 := by
  unfold RdS.countV RdS.much
  split
  · omega
  · split
    · omega
    · split
      · omega
      · rename_i h
        simp at h
        omega
theorem decKs_len (s : RdS) : (decKs s).length ≤ 8 := by
  unfold decKs
  split
  · exact Nat.le_trans (reqs_count _ _) (countV8 _)
  · simp

theorem Ob.fore {w : World} {B : Nat} {A : Option Addr} {n m c : Nat} {xs ys : List UInt8} (h : Ob w B A m c (xs ++ ys)) (hn : xs.length = n) (hm : n ≤ m) : Ob w B A n c xs := by
  obtain ⟨hl, h2⟩ := h
  rw [bs_length, Nat.mul_one] at hl
  refine ⟨by rw [bs_length, Nat.mul_one]; exact hn, ?_⟩
  rcases h2 with ⟨e, h0⟩ | ⟨g, cap, cur, e, hB, hg, h1, h3, h4, h5⟩
  · cases e
    obtain rfl : n = 0 := by omega
    exact .inl ⟨rfl, rfl⟩
  · cases e
    refine .inr ⟨g, _, cur, rfl, hB, hg, by omega, h3, h4, ?_⟩
    rw [Nat.mul_one] at h5 ⊢
    have e2 : cur.toList.take n = (cur.toList.take m).take n := by rw [List.take_take, Nat.min_eq_left hm]
    rw [e2, h5, bs_append, List.take_left' (by rw [bs_length, hn])]
theorem Ow.ofBlk {w : World} {g : Nat} {cs : Array Value} {T : TypeId} (h : Blk w g cs T) (size n : Nat) (hn : cs.size = n * size) (hm : n ≤ maxLen) : Ow w T size (some ⟨g, 0, none⟩) n n cs.toList :=
  ⟨by rw [Array.length_toList]; exact hn, .inr ⟨g, n, cs, rfl, Nat.zero_le _, h, Nat.le_refl _, hm, hn, List.take_of_length_le (by rw [Array.length_toList]; omega)⟩⟩

set_option maxHeartbeats 4000000 in
theorem batchRead_any (w : World) (A : Option Addr) (n c : Nat) (xs : List UInt8) (hx : Rd w A n c xs) (hn : n ≤ 2000000) :
    Calls Tryd.prog 47 #[.slice A n c] w fun e w' => e = .returned (.bool true) ∧ Below w.heap.size w w' := by
  have HX := Lib.hid hx
  have hxl := hx.len
  have HR := Lib.hid (rDecodeBatch (Sep.start w) hx (by omega))
  have HW := fun (W : World) (l : List Ch) (S : Sep w W l) (A' : Option Addr) (c' : Nat) (hA : Rd W A' n c' xs) => Lib.hid (wDecodeBatch S hA (by omega))
  have hk8 := decKs_len (rd0 xs)
  clear hx
  go_enter Tryd.func47, Tryd.ntmps47
  go_wp2_with fail
  refine HR.out.mono ?_
  unfold DecR
  rintro e w1 ⟨A1, n1, c1, vs, rfl, hk1, hf1, hS⟩
  have hv1 : vs.length = n1 := by have h := Ow.len (show Ow w1 _ 3 A1 n1 c1 _ from hS.h0); rw [qcells_len] at h; omega
  have hvk : n1 ≤ 8 := by have := congrArg List.length hk1; rw [List.length_map] at this; omega
  have HK1 := Lib.hid hk1
  have HF1 := Lib.hid hf1
  unfold DecW at HW
  generalize decSt (rd0 xs) = st at *
  generalize (rd0 xs).btS.endC = ec at *
  generalize (rd0 xs).btS.endA = ea at *
  have S1 := Lib.hid hS
  clear hS hk1 hf1 HR
  have S2 : Hid (Sep w ((w1.alloc (.cells #[.int .u64 (st : Int), .slice A1 n1 c1] 83)).alloc (.cells #[.int .i64 ec, .int .i64 ea] 29)) (cBlk (w1.heap.size + 1) #[.int .i64 ec, .int .i64 ea] 29 :: cBlk w1.heap.size #[.int .u64 (st : Int), .slice A1 n1 c1] 83 :: cOw 155 3 A1 n1 c1 (qcells vs) :: cAll (vs.map cOwn) :: [])) := by
    have e1 : ∀ (u : World) o, (u.alloc o).heap.size = u.heap.size + 1 := fun u o => by simp
    have := (S1.out.box #[.int .u64 (st : Int), .slice A1 n1 c1] 83).box #[.int .i64 ec, .int .i64 ea] 29
    rw [e1] at this
    exact this
  clear S1
  go_wp2_with fail
  generalize ((w1.alloc (.cells #[.int .u64 (st : Int), .slice A1 n1 c1] 83)).alloc (.cells #[.int .i64 ec, .int .i64 ea] 29)) = w2 at *
  generalize w1.heap.size = g at *
  refine (lend_any w2 A n c xs (S2.out.rd HX.out) (by omega)).mono ?_
  rintro e w3 ⟨A3, c3, rfl, ho, hb⟩
  have S3 := Lib.hid (S2.out.pushO hb ho)
  have HC3 : Hid (n + 4 ≤ c3) := (Ob.rd ho).le
  clear S2 ho hb
  go_wp2_with fail
  refine (HW w3 _ S3.out A3 c3 (Rd.front (Ob.rd S3.out.h0) hxl)).out.mono ?_
  rintro e w4 ⟨A4, n4, c4, qs, err, rfl, hE, hk4, hf4, hS⟩
  have hv4 : qs.length = n4 := by have h := Ow.len (show Ow w4 _ 3 A4 n4 c4 _ from hS.h0); rw [qcells_len] at h; omega
  have hkk : qs.map RQ.key = vs.map RQ.key := by rw [hk4, HK1.out]
  obtain rfl : n4 = n1 := by have := congrArg List.length hkk; rw [List.length_map, List.length_map] at this; omega
  have HKK := Lib.hid hkk
  have HF4 := Lib.hid hf4
  have S4 := Lib.hid (hS.box #[.int .u64 (st : Int), .slice A4 n4 c4] 83)
  have HE := Lib.hid (hE.below (hS.tail.box #[.int .u64 (st : Int), .slice A4 n4 c4] 83 |>.bel |> fun _ => below1 w4 (.cells #[.int .u64 (st : Int), .slice A4 n4 c4] 83)))
  clear hS hE hk4 hf4 hkk S3
  obtain ⟨h, hh⟩ : ∃ h, h = w4.heap.size := ⟨_, rfl⟩
  rw [← hh] at S4
  go_wp2_with fail
  rw [← hh]
  clear hh
  generalize (w4.alloc (.cells #[.int .u64 (st : Int), .slice A4 n4 c4] 83)) = w5 at *
  refine (told_any _ err _ _ HE.out).mono ?_
  rintro e w6 ⟨rfl, q6, rfl⟩
  have S6 := Lib.hid (S4.out.drewN q6)
  clear S4 HE
  generalize w5.drewN q6 = w6 at *
  have XH : Blk w6 h _ _ := S6.out.h0
  have XG : Blk w6 g _ _ := S6.out.h5
  have h0 : w6.cell? ⟨h, 0, none⟩ = some (.int .u64 (st : Int)) := XH.cell 0
  have h1 : w6.cell? ⟨h, 1, none⟩ = some (.slice A4 n4 c4) := XH.cell 1
  have g0 : w6.cell? ⟨g, 0, none⟩ = some (.int .u64 (st : Int)) := XG.cell 0
  have g1 : w6.cell? ⟨g, 1, none⟩ = some (.slice A1 n4 c1) := XG.cell 1
  clear XH XG
  have R4 := rdq_of (show Ow w6 _ 3 A4 n4 c4 _ from S6.out.h1) hv4 (ownOk S6.out.h2 fun q hq => (HF4.out q hq).1)
  have R1 := rdq_of (show Ow w6 _ 3 A1 n4 c1 _ from S6.out.h6) hv1 (ownOk S6.out.tail.h6 HF1.out)
  have HSB := Lib.hid (sameBatch_true w6 st A4 n4 c4 qs A1 c1 vs R4 R1 HKK.out (by omega))
  clear R4 R1
  go_wp2_with fail
  refine HSB.out.mono ?_
  rintro e w7 ⟨rfl, hb⟩
  have S7 := Lib.hid (S6.out.kept hb)
  clear HSB S6 hb h0 h1 g0 g1
  have XN : Blk w7 (g + 1) _ _ := S7.out.h4
  have n0 : w7.cell? ⟨g + 1, 0, none⟩ = some (.int .i64 ec) := XN.cell 0
  have n1' : w7.cell? ⟨g + 1, 1, none⟩ = some (.int .i64 ea) := XN.cell 1
  clear XN
  go_wp2_with fail
  refine (kept_true w7 A3 n c3 xs (Ob.rd S7.out.h3) A c (S7.out.rd HX.out) (by omega)).mono ?_
  rintro e w8 ⟨rfl, q8, rfl⟩
  have S8 := Lib.hid (S7.out.drewN q8).fr3
  clear S7 n0 n1'
  generalize w7.drewN q8 = w8 at *
  go_wp2_with fail
  refine (spoil_any w8 0 A3 n c3 xs (Ob.fore S8.out.h0 hxl (by have := HC3.out; omega)) (by omega) (Nat.zero_le _) 13 (by decide)).mono ?_
  rintro e w9 ⟨rfl, hc⟩
  have S9 := Lib.hid (S8.out.spoilt hc)
  clear S8 hc
  go_wp2_with fail
  refine (lend_any w9 A n c xs (S9.out.rd HX.out) (by omega)).mono ?_
  rintro e w10 ⟨A5, c5, rfl, ho, hb⟩
  have S10 := Lib.hid (S9.out.pushO hb ho)
  have HC5 : Hid (n + 4 ≤ c5) := (Ob.rd ho).le
  clear S9 ho hb
  go_wp2_with fail
  refine (HW w10 _ S10.out A5 c5 (Rd.front (Ob.rd S10.out.h0) hxl)).out.mono ?_
  rintro e w11 ⟨A6, n6, c6, ps, err6, rfl, hE, hk6, hf6, hS⟩
  have hv6 : ps.length = n6 := by have h := Ow.len (show Ow w11 _ 3 A6 n6 c6 _ from hS.h0); rw [qcells_len] at h; omega
  have hkk : ps.map RQ.key = vs.map RQ.key := by rw [hk6, HK1.out]
  obtain rfl : n6 = n4 := by have := congrArg List.length hkk; rw [List.length_map, List.length_map] at this; omega
  have HKP := Lib.hid hkk
  have HF6 := Lib.hid hf6
  have S11 := Lib.hid (hS.box #[.int .u64 (st : Int), .slice A6 n6 c6] 83)
  have XH : Blk w11 h _ _ := hS.h3
  have XG : Blk w11 g _ _ := hS.tail.h6
  have h0 : w11.cell? ⟨h, 0, none⟩ = some (.int .u64 (st : Int)) := XH.cell 0
  have h1 : w11.cell? ⟨h, 1, none⟩ = some (.slice A4 n6 c4) := XH.cell 1
  have g0 : w11.cell? ⟨g, 0, none⟩ = some (.int .u64 (st : Int)) := XG.cell 0
  have g1 : w11.cell? ⟨g, 1, none⟩ = some (.slice A1 n6 c1) := XG.cell 1
  have hhl : h < w11.heap.size := XH.lt
  have hgl : g < w11.heap.size := XG.lt
  have hhn : ¬ h = w11.heap.size := by omega
  have hgn : ¬ g = w11.heap.size := by omega
  clear hS hE hk6 hf6 hkk S10 HW XH XG
  obtain ⟨k, hh⟩ : ∃ h, h = w11.heap.size := ⟨_, rfl⟩
  rw [← hh] at S11
  go_wp2_with fail
  rw [← hh]
  clear hhn hgn hhl hgl hh h0 h1 g0 g1
  generalize (w11.alloc (.cells #[.int .u64 (st : Int), .slice A6 n6 c6] 83)) = w12 at *
  have R4 := rdq_of (show Ow w12 _ 3 A4 n6 c4 _ from S11.out.h5) hv4 (ownOk S11.out.h6 fun q hq => (HF4.out q hq).1)
  have R1 := rdq_of (show Ow w12 _ 3 A1 n6 c1 _ from S11.out.tail.tail.tail.h6) hv1 (ownOk S11.out.tail.tail.tail.tail.h6 HF1.out)
  refine (sameBatch_true w12 st A4 n6 c4 qs A1 c1 vs R4 R1 HKK.out (by omega)).mono ?_
  rintro e w13 ⟨rfl, hb⟩
  have S13 := Lib.hid (S11.out.kept hb)
  clear S11 hb R4 R1
  have XH : Blk w13 h _ _ := S13.out.h4
  have h0 : w13.cell? ⟨h, 0, none⟩ = some (.int .u64 (st : Int)) := XH.cell 0
  have h1 : w13.cell? ⟨h, 1, none⟩ = some (.slice A4 n6 c4) := XH.cell 1
  clear XH
  go_wp2_with fail
  refine (cmds_any st A4 n6 c4 qs (by omega) hv4 S13.out.fr5).mono ?_
  rintro e w14 ⟨A7, c7, rfl, hS⟩
  have S14 := Lib.hid (hS.perm (l' := cOw 22 1 A7 n6 c7 (ccells qs) :: cAll (qs.map cOwn) :: cOw 155 3 A4 n6 c4 (qcells qs) :: cBlk k #[.int .u64 (st : Int), .slice A6 n6 c6] 83 :: cOw 155 3 A6 n6 c6 (qcells ps) :: cAll (ps.map cOwn) :: cOb A5 (n + 4) c5 (xs ++ marks) :: cBlk h #[.int .u64 (st : Int), .slice A4 n6 c4] 83 :: cBlk (g + 1) #[.int .i64 ec, .int .i64 ea] 29 :: cBlk g #[.int .u64 (st : Int), .slice A1 n6 c1] 83 :: cOw 155 3 A1 n6 c1 (qcells vs) :: cAll (vs.map cOwn) :: []) (by haveI : DecidableEq Ch := Classical.typeDecidableEq Ch; refine List.perm_iff_count.2 fun _ => ?_; simp only [List.count_cons]; ac_rfl))
  clear hS S13 h0 h1
  go_wp2_with fail
  refine (free_any w14 _ A7 n6 c7 qs hv4 (by omega) (fineN fun q hq => (HF4.out q hq).1) S14.out).mono ?_
  rintro e w15 ⟨rfl, hS⟩
  have S15 := Lib.hid hS
  have XH : Blk w15 h _ _ := hS.h5
  have h0 : w15.cell? ⟨h, 0, none⟩ = some (.int .u64 (st : Int)) := XH.cell 0
  have h1 : w15.cell? ⟨h, 1, none⟩ = some (.slice A4 n6 c4) := XH.cell 1
  clear XH hS S14
  go_wp2_with fail
  have S16 : Hid (Sep w (w15.alloc (.cells #[.int .u64 (st : Int), .slice A4 n6 c4] 83)) (cOw 83 2 (some ⟨w15.heap.size, 0, none⟩) 1 1 (bcells [⟨st, A4, n6, c4, qcells qs⟩]) :: cAll ([(⟨st, A4, n6, c4, qcells qs⟩ : BT)].map cRq) :: cBlk k #[.int .u64 (st : Int), .slice A6 n6 c6] 83 :: cOw 155 3 A6 n6 c6 (qcells ps) :: cAll (ps.map cOwn) :: cOb A5 (n + 4) c5 (xs ++ marks) :: cBlk h #[.int .u64 (st : Int), .slice A4 n6 c4] 83 :: cBlk (g + 1) #[.int .i64 ec, .int .i64 ea] 29 :: cBlk g #[.int .u64 (st : Int), .slice A1 n6 c1] 83 :: cOw 155 3 A1 n6 c1 (qcells vs) :: cAll (vs.map cOwn) :: [])) := by
    have h1 := S15.out.box #[.int .u64 (st : Int), .slice A4 n6 c4] 83
    have h2 := h1.as (cOw 83 2 (some ⟨w15.heap.size, 0, none⟩) 1 1 (bcells [⟨st, A4, n6, c4, qcells qs⟩])) (Ow.ofBlk h1.h0 2 1 rfl (by decide)) fun k hk => (inA_some.1 hk).symm
    exact ((h2.fr1.packNil.fr1).packCons).fr1
  refine (freeReqs_any _ _ _ _ _ [⟨st, A4, n6, c4, qcells qs⟩] rfl (by simp) (fun b hb => by rw [List.mem_singleton.1 hb]; show n6 ≤ _; omega) S16.out).mono ?_
  rintro e w16 ⟨rfl, hS⟩
  have S17 := Lib.hid hS
  have XK : Blk w16 k _ _ := hS.h0
  have XG : Blk w16 g _ _ := hS.h6
  have k0 : w16.cell? ⟨k, 0, none⟩ = some (.int .u64 (st : Int)) := XK.cell 0
  have k1 : w16.cell? ⟨k, 1, none⟩ = some (.slice A6 n6 c6) := XK.cell 1
  have g0 : w16.cell? ⟨g, 0, none⟩ = some (.int .u64 (st : Int)) := XG.cell 0
  have g1 : w16.cell? ⟨g, 1, none⟩ = some (.slice A1 n6 c1) := XG.cell 1
  clear XK XG hS S15 S16 h0 h1
  have R6 := rdq_of (show Ow w16 _ 3 A6 n6 c6 _ from S17.out.h1) hv6 (ownOk S17.out.h2 fun q hq => (HF6.out q hq).1)
  have R1 := rdq_of (show Ow w16 _ 3 A1 n6 c1 _ from S17.out.tail.h6) hv1 (ownOk S17.out.tail.tail.h6 HF1.out)
  have HSB := Lib.hid (sameBatch_true w16 st A6 n6 c6 ps A1 c1 vs R6 R1 HKP.out (by omega))
  clear R6 R1
  go_wp2_with fail
  refine HSB.out.mono ?_
  rintro e w17 ⟨rfl, hb⟩
  have S18 := Lib.hid (S17.out.kept hb)
  clear HSB S17 hb
  go_wp2
  go_ret
  exact ⟨rfl, S18.out.bel⟩
end Go.Proofs.YtbhmnkpbaeemeaaDoor
