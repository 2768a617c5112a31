/- Programs as they lie in a world; the atomic machine in plain Lean. -/
import Derived.Test.YtkaokhpaabfhmaaEv0
import Derived.Test.YtkaokhpaabfhmaaCalcLaw
import Derived.Test.YtkaokhpaabfhmaaShape
namespace Go.Proofs.Ytkaokhpaabfhmaa
open Go.RowKit

@[ext] structure Ins where
  (k a b c : Int)
  (l : List Int)
deriving DecidableEq
instance : Inhabited Ins := ⟨⟨0, 0, 0, 0, []⟩⟩
def Ins.cells (x : Ins) (v : Value) : List Value := [.int .i64 x.k, .int .i64 x.a, .int .i64 x.b, .int .i64 x.c, v]
def InsAt (cs : List Value) (i : Nat) (x : Ins) (v : Value) : Prop := ∀ j, j < 5 → cs[i * 5 + j]? = (x.cells v)[j]?
def InsRow (w : World) (F : Nat → Prop) (cs : List Value) (i : Nat) (x : Ins) : Prop := ∃ A n c, InsAt cs i x (.slice A n c) ∧ n ≤ c ∧ Flat w F A n x.l
theorem InsRow.frame {w w' : World} {F S : Nat → Prop} {cs : List Value} {i : Nat} {x : Ins} (h : InsRow w F cs i x) (hf : Fr S w w') (hs : ∀ k, F k → S k → w.heap.size ≤ k) : InsRow w' F cs i x :=
  let ⟨A, n, c, h1, h2, h3⟩ := h; ⟨A, n, c, h1, h2, h3.frame hf hs⟩
theorem InsRow.mono {w : World} {F G : Nat → Prop} {cs : List Value} {i : Nat} {x : Ins} (h : InsRow w F cs i x) (hs : ∀ k, k < w.heap.size → F k → G k) : InsRow w G cs i x :=
  let ⟨A, n, c, h1, h2, h3⟩ := h; ⟨A, n, c, h1, h2, h3.mono hs⟩
/-- A program: a slice of instructions. -/
structure ProgAt (w : World) (F : Nat → Prop) (A : Option Addr) (n c : Nat) (p : List Ins) : Prop where
  len : p.length = n
  cap : n ≤ c
  ex : ∃ cs : List Value, (0 < n → ∃ ad, A = some ad ∧ F ad.block ∧ ∀ j u, cs[j]? = some u → w.cell? (ad.add j) = some u) ∧ ∀ i, i < n → InsRow w F cs i (p.getD i default)
  i64 : ∀ x ∈ p, I64 x.b
theorem ProgAt.frame {w w' : World} {F S : Nat → Prop} {A : Option Addr} {n c : Nat} {p : List Ins} (h : ProgAt w F A n c p) (hf : Fr S w w') (hs : ∀ k, F k → S k → w.heap.size ≤ k) : ProgAt w' F A n c p := by
  obtain ⟨cs, h1, h2⟩ := h.ex
  refine ⟨h.len, h.cap, ⟨cs, fun h0 => ?_, fun i hi => (h2 i hi).frame hf hs⟩, h.i64⟩
  obtain ⟨ad, h7, h8, h9⟩ := h1 h0
  exact ⟨ad, h7, h8, fun j u hj => hf.cell (h9 j u hj) (fun x => by
    have := hs _ h8 (by rw [add_blk] at x; exact x)
    have := World.block_lt_of_cell? w _ (h9 j u hj)
    rw [add_blk] at this
    omega)⟩
/-- The five cells of an instruction in a program. -/
theorem ins_cells {w : World} {ad : Addr} {cs : List Value} {i : Nat} {x : Ins} {v : Value} (h : ∀ j u, cs[j]? = some u → w.cell? (ad.add j) = some u) (hr : InsAt cs i x v) :
    w.cell? (ad.add (i * 5)) = some (.int .i64 x.k) ∧ w.cell? ⟨(ad.add (i * 5)).block, (ad.add (i * 5)).off + 1, none⟩ = some (.int .i64 x.a) ∧ w.cell? ⟨(ad.add (i * 5)).block, (ad.add (i * 5)).off + 2, none⟩ = some (.int .i64 x.b) ∧
    w.cell? ⟨(ad.add (i * 5)).block, (ad.add (i * 5)).off + 3, none⟩ = some (.int .i64 x.c) ∧ w.cell? ⟨(ad.add (i * 5)).block, (ad.add (i * 5)).off + 4, none⟩ = some v := by
  refine ⟨?_, ?_, ?_, ?_, ?_⟩
  · exact h _ _ (by rw [show i * 5 = i * 5 + 0 from rfl]; exact hr 0 (by omega))
  all_goals rw [← add_past _ _ _ (by omega)]
  · exact h _ _ (hr 1 (by omega))
  · exact h _ _ (hr 2 (by omega))
  · exact h _ _ (hr 3 (by omega))
  · exact h _ _ (hr 4 (by omega))
/-- An instruction in a box. -/
theorem box_ins {w : World} {b : Nat} {T : TypeId} {x : Ins} {v : Value} (h : w.heap[b]? = some (.cells #[.int .i64 x.k, .int .i64 x.a, .int .i64 x.b, .int .i64 x.c, v] T (0, 0))) :
    w.cell? ⟨b, 0, none⟩ = some (.int .i64 x.k) ∧ w.cell? ⟨b, 1, none⟩ = some (.int .i64 x.a) ∧ w.cell? ⟨b, 2, none⟩ = some (.int .i64 x.b) ∧ w.cell? ⟨b, 3, none⟩ = some (.int .i64 x.c) ∧ w.cell? ⟨b, 4, none⟩ = some v := by
  refine ⟨?_, ?_, ?_, ?_, ?_⟩ <;> (rw [blk_cell h]; rfl)

/-! Which programs may run. -/
def noneB (c : Conf) (r : Int) : Bool := decide (r < 0) || decide (c.rg ≤ r)
def mayB (c : Conf) (x : Ins) (at_ many : Int) : Bool :=
  if x.k = 1 ∨ x.k = 2 then !noneB c x.a && decide (x.l.length = 0) && (x.c == -1 || !noneB c x.c)
  else if x.k = 3 then !noneB c x.a && decide (x.l.length = 0)
  else if x.k = 4 then !noneB c x.a && known x.b && !decide (x.l.length = 0) && decide (x.l.length ≤ 8) && !(x.l.any (noneB c))
  else if x.k = 5 then !noneB c x.a && decide (x.l.length = 0) && decide (at_ < x.b) && decide (x.b ≤ many)
  else if x.k = 6 ∨ x.k = 7 then decide (x.l.length = 0) else false
def progOk (c : Conf) (p : List Ins) : Bool := decide c.Fine && decide (p.length ≤ 60) && decide (∀ i, i < p.length → mayB c (p.getD i default) i p.length = true)

/-! The machine. -/
structure PS where
  (regs heap rs ws : List Int)
  (e : Int)
def addrV (c : Conf) (x : Ins) (regs : List Int) : Int :=
  if x.c = -1 then wrapV x.b c.words else if x.c < 0 ∨ (regs.length : Int) ≤ x.c then 0 else wrapV (wrap64 (x.b + regs.getD x.c.toNat 0)) c.words
def PS.step (s : PS) (c : Conf) (x : Ins) : PS :=
  if x.k = 1 then { s with regs := s.regs.set x.a.toNat (s.heap.getD (addrV c x s.regs).toNat 0), rs := s.rs ++ [addrV c x s.regs, s.heap.getD (addrV c x s.regs).toNat 0] }
  else if x.k = 2 then { s with heap := s.heap.set (addrV c x s.regs).toNat (s.regs.getD x.a.toNat 0), ws := s.ws ++ [addrV c x s.regs, s.regs.getD x.a.toNat 0] }
  else if x.k = 3 then { s with regs := s.regs.set x.a.toNat x.b }
  else if x.k = 4 then { s with regs := s.regs.set x.a.toNat (evalV x.b (x.l.map fun r => s.regs.getD r.toNat 0)) }
  else if x.k = 6 then { s with e := 2 } else if x.k = 7 then { s with e := 3 } else s
def PS.next (s : PS) (x : Ins) (at_ : Nat) : Nat := if x.k = 5 ∧ s.regs.getD x.a.toNat 0 ≠ 0 then x.b.toNat else at_ + 1
def runP (c : Conf) (p : List Ins) : Nat → Nat → PS → PS
  | 0, _, s => s
  | n + 1, at_, s => if at_ < p.length ∧ s.e = 1 then runP c p n (s.next (p.getD at_ default) at_) (s.step c (p.getD at_ default)) else s
def begP (c : Conf) (heap : List Int) : PS := ⟨List.replicate c.rg.toNat 0, heap, [], [], 1⟩
def fullP (c : Conf) (heap : List Int) (p : List Ins) : PS := runP c p p.length 0 (begP c heap)
/-- The heap behind a run: as it was if it did not commit. -/
def PS.after (s : PS) (heap : List Int) : List Int := if s.e = 1 then s.heap else heap

theorem mayB_kind {c : Conf} {x : Ins} {a m : Int} (h : mayB c x a m = true) : 1 ≤ x.k ∧ x.k ≤ 7 := by
  unfold mayB at h
  by_cases h1 : x.k = 1 ∨ x.k = 2
  · omega
  · rw [if_neg h1] at h
    by_cases h3 : x.k = 3
    · omega
    · rw [if_neg h3] at h
      by_cases h4 : x.k = 4
      · omega
      · rw [if_neg h4] at h
        by_cases h5 : x.k = 5
        · omega
        · rw [if_neg h5] at h
          by_cases h6 : x.k = 6 ∨ x.k = 7
          · omega
          · rw [if_neg h6] at h; cases h
theorem noneB_false {c : Conf} {r : Int} (h : noneB c r = false) : 0 ≤ r ∧ r < c.rg := by
  unfold noneB at h
  simp at h
  omega
/-- What is known of an instruction that may stand there. -/
theorem mayB_parts {c : Conf} {x : Ins} {a m : Int} (h : mayB c x a m = true) :
    (x.k ≤ 5 → 0 ≤ x.a ∧ x.a < c.rg) ∧ (x.k = 1 ∨ x.k = 2 → x.c = -1 ∨ (0 ≤ x.c ∧ x.c < c.rg)) ∧ (x.k = 4 → known x.b = true ∧ x.l ≠ [] ∧ x.l.length ≤ 8 ∧ ∀ r ∈ x.l, 0 ≤ r ∧ r < c.rg) ∧ (x.k = 5 → a < x.b ∧ x.b ≤ m) ∧ (x.k ≠ 4 → x.l = []) := by
  have hk := mayB_kind h
  unfold mayB at h
  by_cases h1 : x.k = 1 ∨ x.k = 2
  · rw [if_pos h1] at h
    simp only [Bool.and_eq_true, Bool.not_eq_true', decide_eq_true_eq, Bool.or_eq_true, beq_iff_eq] at h
    refine ⟨fun _ => noneB_false h.1.1, fun _ => h.2.imp id noneB_false, fun h4 => by omega, fun h5 => by omega, fun _ => List.length_eq_zero_iff.1 h.1.2⟩
  · rw [if_neg h1] at h
    by_cases h3 : x.k = 3
    · rw [if_pos h3] at h
      simp only [Bool.and_eq_true, Bool.not_eq_true', decide_eq_true_eq] at h
      exact ⟨fun _ => noneB_false h.1, fun h => absurd h h1, fun h4 => by omega, fun h5 => by omega, fun _ => List.length_eq_zero_iff.1 h.2⟩
    · rw [if_neg h3] at h
      by_cases h4 : x.k = 4
      · rw [if_pos h4] at h
        simp only [Bool.and_eq_true, Bool.not_eq_true', decide_eq_true_eq, decide_eq_false_iff_not] at h
        refine ⟨fun _ => noneB_false h.1.1.1.1, fun h => absurd h h1, fun _ => ⟨h.1.1.1.2, fun e => h.1.1.2 (by rw [e]; rfl), h.1.2, fun r hr => noneB_false ?_⟩, fun h5 => by omega, fun hn => absurd h4 hn⟩
        have := h.2
        rw [List.any_eq_false] at this
        simpa using this r hr
      · rw [if_neg h4] at h
        by_cases h5 : x.k = 5
        · rw [if_pos h5] at h
          simp only [Bool.and_eq_true, Bool.not_eq_true', decide_eq_true_eq] at h
          exact ⟨fun _ => noneB_false h.1.1.1, fun h => absurd h h1, fun h4' => absurd h4' h4, fun _ => ⟨h.1.2, h.2⟩, fun _ => List.length_eq_zero_iff.1 h.1.1.2⟩
        · rw [if_neg h5] at h
          by_cases h6 : x.k = 6 ∨ x.k = 7
          · rw [if_pos h6] at h
            exact ⟨fun _ => by omega, fun h => absurd h h1, fun h4' => absurd h4' h4, fun h5' => absurd h5' h5, fun _ => List.length_eq_zero_iff.1 (of_decide_eq_true h)⟩
          · rw [if_neg h6] at h; cases h
theorem progOk_iff {c : Conf} {p : List Ins} : progOk c p = true ↔ c.Fine ∧ p.length ≤ 60 ∧ ∀ i, i < p.length → mayB c (p.getD i default) i p.length = true := by
  unfold progOk; simp [and_assoc]
theorem wrapV_in {n m : Int} (hm : 1 ≤ m) : 0 ≤ wrapV n m ∧ wrapV n m < m := by
  unfold wrapV; rw [if_neg (by omega)]; exact ⟨Int.emod_nonneg _ (by omega), Int.emod_lt_of_pos _ (by omega)⟩
theorem words_pos {c : Conf} (h : c.Fine) : 1 ≤ c.words := by
  unfold Conf.words Conf.S
  rw [if_pos h]
  obtain ⟨⟨⟨h1, _⟩, ⟨h2, _⟩, ⟨h3, _⟩, ⟨h4, _⟩⟩, _⟩ := h
  exact mul_pos_of (mul_pos_of (mul_pos_of h1 h2) h3) h4
theorem addrV_in {c : Conf} (h : c.Fine) (x : Ins) (regs : List Int) : 0 ≤ addrV c x regs ∧ addrV c x regs < c.words := by
  have hw := words_pos h
  unfold addrV
  split
  · exact wrapV_in hw
  · split
    · omega
    · exact wrapV_in hw
end Go.Proofs.Ytkaokhpaabfhmaa
