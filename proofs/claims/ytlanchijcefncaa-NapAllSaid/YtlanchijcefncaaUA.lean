/- slices.Backward over accesses: the iterator's contract, for every loop body that keeps what lay below n₀. -/
import Derived.Test.YtlanchijcefncaaEv3
import Derived.RangeFuncNested
import Derived.RangeFuncBound
import Derived.RangeFuncCalls
import Derived.RangeFuncLeaves
import Derived.Shelf.Abstract
import Derived.Shelf.RegionOpen
import Derived.OwnWalkIn
import Derived.TacticsInMore
import Derived.LoopNIn
import Derived.LoopIn
namespace Go.Proofs.Ytlanchijcefncaa
open Go.RowKit Go.Shelf
attribute [local go_sem] Oper.semAt_some

/-- An access whose numbers lie within the range of int. -/
abbrev Acc := { p : Int × Int // (Lit.int .i64 p.1).wf = true ∧ (Lit.int .i64 p.2).wf = true }
def acc0 : Acc := ⟨(0, 0), rfl, rfl⟩
/-- The numbers of accesses, one behind the other. -/
def accInts (xs : List Acc) : List Int := xs.flatMap fun x => [x.1.1, x.1.2]
theorem accInts_len (xs : List Acc) : (accInts xs).length = xs.length * 2 := by
  induction xs with
  | nil => rfl
  | cons x xs ih => rw [accInts, List.flatMap_cons, List.length_append]; show 2 + (accInts xs).length = _; rw [ih]; simp; omega
theorem accInts_append (xs ys : List Acc) : accInts (xs ++ ys) = accInts xs ++ accInts ys := by simp [accInts]
theorem accInts_get (xs : List Acc) (i : Nat) (h : i < xs.length) : (accInts xs).getD (i * 2) 0 = (xs.getD i acc0).1.1 ∧ (accInts xs).getD (i * 2 + 1) 0 = (xs.getD i acc0).1.2 := by
  induction xs generalizing i with
  | nil => simp at h
  | cons x xs ih =>
    cases i with
    | zero => exact ⟨rfl, rfl⟩
    | succ i =>
      have := ih i (by simpa using h)
      have e : accInts (x :: xs) = x.1.1 :: x.1.2 :: accInts xs := rfl
      rw [e, show (i + 1) * 2 = i * 2 + 1 + 1 by omega]
      simpa using this

/-- What has come when m rounds are over. -/
def back (xs : List Acc) (m : Nat) : List (Nat × Acc) := (List.range m).map fun j => (xs.length - 1 - j, xs.getD (xs.length - 1 - j) acc0)
theorem back_succ (xs : List Acc) (m : Nat) : back xs (m + 1) = back xs m ++ [(xs.length - 1 - m, xs.getD (xs.length - 1 - m) acc0)] := by simp [back, List.range_succ]
theorem back_length (xs : List Acc) (m : Nat) : (back xs m).length = m := by simp [back]
theorem back_all (xs : List Acc) : (back xs xs.length).map (·.2) = xs.reverse := by
  apply List.ext_getElem
  · simp [back]
  · intro i h1 h2
    have hi : i < xs.length := by simpa using h2
    simp only [back, List.map_map, List.getElem_map, List.getElem_range, Function.comp, List.getElem_reverse]
    rw [List.getD_eq_getElem?_getD, List.getElem?_eq_getElem (by omega)]; rfl

/-- The blocks of S lie as they lay. -/
structure Kb (S : Nat → Prop) (W W' : World) : Prop where
  size : W.heap.size ≤ W'.heap.size
  block : ∀ k, k < W.heap.size → S k → W'.heap[k]? = W.heap[k]?
theorem Kb.refl (S : Nat → Prop) (W : World) : Kb S W W := ⟨Nat.le_refl _, fun _ _ _ => rfl⟩
theorem Kb.trans {S : Nat → Prop} {X Y Z : World} (h : Kb S X Y) (k : Kb S Y Z) : Kb S X Z := ⟨Nat.le_trans h.size k.size, fun i hi hs => (k.block i (Nat.lt_of_lt_of_le hi h.size) hs).trans (h.block i hi hs)⟩
theorem Kb.cell {S : Nat → Prop} {X Y : World} (h : Kb S X Y) {p : Addr} {v : Value} (hc : X.cell? p = some v) (hs : S p.block) : Y.cell? p = some v := by
  rw [World.cell?_of_block (h.block _ (World.block_lt_of_cell? X _ hc) hs)]; exact hc
theorem Kb.ofBelow {S : Nat → Prop} {n : Nat} {X Y : World} (h : Below n X Y) (hs : ∀ k, k < X.heap.size → S k → k < n) : Kb S X Y := ⟨h.size, fun k hk hS => h.block k (hs k hk hS)⟩
theorem Kb.grown {S : Nat → Prop} {X Y Z : World} {row : Option Nat} (h : Kb S X Y) (hg : Y.grownBy Z row) (hr : ∀ k, row = some k → ¬ S k) : Kb S X Z :=
  h.trans ⟨hg.size, fun k hk hS => hg.block k hk (fun e => hr k e.symm hS)⟩
theorem Kb.alloc {S : Nat → Prop} {X Y : World} (h : Kb S X Y) (o : Obj) : Kb S X (Y.alloc o) := h.trans ⟨by simp, fun k hk _ => Below.heap_alloc Y o k hk⟩
theorem Kb.setCell {S : Nat → Prop} {X Y : World} (h : Kb S X Y) {p : Addr} (hp : ¬ S p.block) (u : Value) : Kb S X (Y.setCell p u) :=
  h.trans ⟨by simp [World.setCell], fun k _ hS => heap_setCell_other _ _ _ _ (fun e => hp (e ▸ hS))⟩
theorem Kb.drew {S : Nat → Prop} {X Y : World} (h : Kb S X Y) : Kb S X Y.drew := ⟨h.size, h.block⟩
theorem kb_b {S : Nat → Prop} {B : Nat} (hS : ∀ k, S k → k < B) (W : World) (l : Nat) (o o' : Obj) (hl : B ≤ l) (_ : W.heap[l]? = some o) (_ : o.isCells = false) (_ : o.isWalk = false) : Kb S W (W.putObj l o') :=
  ⟨by simp [World.putObj], fun k _ hs => World.putObj_heap_other (by have := hS k hs; omega)⟩

/-- A slice of accesses in blocks of S. -/
structure AccsAt (n₀ : Nat → Prop) (W : World) (A : Option Addr) (xs : List Acc) : Prop where
  at_ : 0 < xs.length → ∃ ad, A = some ad ∧ n₀ ad.block ∧ ∀ i, i < xs.length → W.cell? (ad.add (i * 2)) = some (.int .i64 (xs.getD i acc0).1.1) ∧ W.cell? ⟨(ad.add (i * 2)).block, (ad.add (i * 2)).off + 1, none⟩ = some (.int .i64 (xs.getD i acc0).1.2)
theorem AccsAt.below {n₀ : Nat → Prop} {V W : World} {A : Option Addr} {xs : List Acc} (h : AccsAt n₀ V A xs) (hb : Kb n₀ V W) : AccsAt n₀ W A xs :=
  ⟨fun h0 => let ⟨ad, h1, h2, h3⟩ := h.at_ h0; ⟨ad, h1, h2, fun i hi => ⟨hb.cell (h3 i hi).1 (by rw [add_blk]; exact h2), hb.cell (h3 i hi).2 (by show n₀ (ad.add (i * 2)).block; rw [add_blk]; exact h2)⟩⟩⟩
theorem AccsAt.ofFlat {n₀ : Nat → Prop} {W : World} {F : Nat → Prop} {A : Option Addr} {xs : List Acc} (h : Flat W F A (xs.length * 2) (accInts xs)) (hF : ∀ k, k < W.heap.size → F k → n₀ k) : AccsAt n₀ W A xs :=
  ⟨fun h0 => by
    obtain ⟨ad, rfl, hb, hc⟩ := h.at_ (by omega)
    have hlt := World.block_lt_of_cell? W _ (hc 0 (by omega))
    rw [add_blk] at hlt
    refine ⟨ad, rfl, hF _ hlt hb, fun i hi => ⟨?_, ?_⟩⟩
    · rw [hc (i * 2) (by omega), (accInts_get xs i hi).1]
    · rw [← add_past _ _ _ (by omega), hc (i * 2 + 1) (by omega), (accInts_get xs i hi).2]⟩

set_option maxRecDepth 100000 in
set_option maxHeartbeats 2000000 in
theorem back1_in (F : Fence) (n : Nat) (h7 : F.fn 27) (hro : F.round = none) (hn : 1 ≤ n) (l Bs cap : Nat) (n₀ : Nat → Prop) (A : Option Addr) (xs : List Acc) (hreach : xs.length ≤ 20000) (J Jx : List (Nat × Acc) → World → Prop)
    (hY : ∀ pre x W, J pre W → pre.length < xs.length → YieldAt F (n - 1) Try.prog l #[.int .i64 (x.1 : Int), .agg #[.int .i64 x.2.1.1, .int .i64 x.2.1.2]] W fun e W' =>
      (e = .returned (.bool true) ∧ J (pre ++ [x]) W' ∧ Kb n₀ W W') ∨ (e = .returned (.bool false) ∧ Jx (pre ++ [x]) W'))
    (W : World) (hBs : W.cell? ⟨Bs, 0, none⟩ = some (.slice A xs.length cap)) (hBl : n₀ Bs) (hc : AccsAt n₀ W A xs) (h0 : J [] W) :
    CallsIn F n Try.prog 27 #[.func (.yield l) #[] #[], .pointer (some ⟨Bs, 0, none⟩)] W fun e W' => (∃ v, e = .returned v) ∧
      ((∃ ys, ys = back xs xs.length ∧ J ys W') ∨ (∃ pre, True ∧ Jx pre W')) := by
  refine callsIn_of_wp Try.func27 rfl h7 ?_ hro
  simp only [Try.ntmps27, List.size_toArray, List.length_cons, List.length_nil, Nat.reduceAdd, Nat.reduceSub, Array.replicate_succ, Array.replicate_zero, List.push_toArray, List.append_toArray, List.nil_append, List.cons_append]
  gi_wp2
  gi_loopw [3] (fun i wr => ∃ k : Nat, k ≤ xs.length ∧ i = .int .i64 ((xs.length : Int) - 1 - k) ∧ J (back xs k) wr ∧ Kb n₀ W wr)
    (fun i _ => (intOf i + 1).toNat)
  case atStart => exact ⟨0, Nat.zero_le _, by go_num, h0, Kb.refl _ _⟩
  case round =>
    obtain ⟨k, hk, rfl, hJs, hnx⟩ := hrel
    have hBs' := hnx.cell hBs hBl
    have hc' := hc.below hnx
    by_cases hlt : k < xs.length
    · obtain ⟨ad, rfl, hb, hcs⟩ := hc'.at_ (by omega)
      obtain ⟨q, hq⟩ : ∃ q, q = xs.length - 1 - k := ⟨_, rfl⟩
      have hqi : ((xs.length : Int) - 1 - k) = (q : Int) := by omega
      have hql : q < xs.length := by omega
      obtain ⟨q0, q1⟩ := hcs q hql
      obtain ⟨fn, tmps, assign, body, hy, hR⟩ := hY _ (q, xs.getD q acc0) wr hJs (by rw [back_length]; exact hlt)
      rw [hqi]
      dsimp only at hy
      have HQ := Lib.hid hq
      have HQI := Lib.hid hqi
      clear hq hqi hcs hc hc'
      generalize hx0 : (xs.getD q acc0).1.1 = x0 at q0 hy
      generalize hx1 : (xs.getD q acc0).1.2 = x1 at q1 hy
      gi_wp2
      refine hR.mono ?_
      rintro e W3 (⟨rfl, hJ3, hk3⟩ | ⟨rfl, hJx3⟩)
      · gi_wp2
        go_roundw
        case rel => exact ⟨k + 1, by omega, by have := HQI.out; go_num, by rw [back_succ, ← HQ.out]; exact hJ3, hnx.trans hk3⟩
        case measure => simp [intOf]
      · gi_wp2
        refine bodyPost_ret (results_none rfl _ _ _) rfl ?_
        exact ⟨⟨_, rfl⟩, .inr ⟨_, trivial, hJx3⟩⟩
    · obtain rfl : k = xs.length := by omega
      gi_wp2
      go_end0
      exact ⟨⟨_, rfl⟩, .inl ⟨_, rfl, hJs⟩⟩

set_option maxHeartbeats 1000000 in
theorem backward_in (F : Fence) (n : Nat) (h5 : F.fn 22) (hro : F.round = none) (a : Option Addr) (len cap : Nat) (w : World) :
    CallsIn F n Try.prog 22 #[.slice a len cap] w fun e w' => e = .returned (.func (.func 27) #[] #[.pointer (some ⟨w.heap.size, 0, none⟩)]) ∧ w' = w.alloc (.cells #[.slice a len cap] 38) := by
  refine callsIn_of_wp Try.func22 rfl h5 ?_ hro
  simp only [Try.ntmps22, List.size_toArray, List.length_cons, List.length_nil, Nat.reduceAdd, Nat.reduceSub, Array.replicate_succ, Array.replicate_zero, List.push_toArray, List.append_toArray, List.nil_append, List.cons_append]
  gi_wp2
  go_ret
  exact ⟨rfl, rfl⟩

/-- slices.Backward's value: all, from the last to the first. -/
theorem back_stops (F : Fence) (n : Nat) (h7 : F.fn 27) (hro : F.round = none) (hn : 1 ≤ n) (Bs cap : Nat) (n₀ : Nat → Prop) (A : Option Addr) (xs : List Acc) (hreach : xs.length ≤ 20000) (w : World) (hBs : Bs < w.heap.size) (hBl : n₀ Bs) (hn₀ : ∀ k, n₀ k → k < w.heap.size)
    (hc : w.cell? ⟨Bs, 0, none⟩ = some (.slice A xs.length cap)) (hI : AccsAt n₀ w A xs) :
    SeqStopsK F n Try.prog 27 #[.pointer (some ⟨Bs, 0, none⟩)] (fun x : Nat × Acc => #[Value.int .i64 (x.1 : Int), Value.agg #[.int .i64 x.2.1.1, .int .i64 x.2.1.2]]) (Kb n₀) (fun ys => ys = back xs xs.length)
      (fun _ => True) xs.length w := fun l J Jx W hW _ _ hY h0 => by
  have hc' := (hW.cell (p := ⟨Bs, 0, none⟩) hBs).trans hc
  exact back1_in F n h7 hro hn l Bs cap n₀ A xs hreach J Jx hY W hc' hBl (hI.below (Kb.ofBelow hW (fun k _ h => hn₀ k h))) h0
end Go.Proofs.Ytlanchijcefncaa
