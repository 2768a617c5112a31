/- ltklaw15.NapAll answers true. -/
import Derived.Test.YtlanchijcefncaaNG
namespace Go.Proofs.Ytlanchijcefncaa
open Go.RowKit Go.Shelf Go.Maps

def numOfA : Value → Int
  | .int _ q => q
  | _ => 0
theorem wrapWf (x : Int) : (Lit.int .i64 (wrap64 x)).wf = true := wfB (by unfold wrap64; omega) (by unfold wrap64; omega)
/-- What the j-th one watches. -/
def addrA (t : Int) (s j : Nat) : Int := if j % s = s - 1 then wrap64 (t + 1) else t
def allXs (t : Int) (ht : (Lit.int .i64 t).wf = true) (s j : Nat) : List Acc := if j % s = s - 1 then [mkA _ 3 (wrapWf (t + 1)) rfl, mkA _ 9 (wrapWf (t + 1)) rfl] else [mkA t 3 ht rfl, mkA t 9 ht rfl]
theorem allXs_ints (t : Int) (ht : (Lit.int .i64 t).wf = true) (s j : Nat) : accInts (allXs t ht s j) = [addrA t s j, 3, addrA t s j, 9] := by
  unfold allXs addrA; split <;> rfl
theorem allXs_len (t : Int) (ht : (Lit.int .i64 t).wf = true) (s j : Nat) : (allXs t ht s j).length = 2 := by unfold allXs; split <;> rfl
theorem wrap_ne {t : Int} (ht : (Lit.int .i64 t).wf = true) : wrap64 (t + 1) ≠ t := by
  have := bounds_i64 ht
  unfold wrap64; omega
theorem allXs_val (t : Int) (ht : (Lit.int .i64 t).wf = true) (s j : Nat) : valOf (allXs t ht s j) t = if j % s = s - 1 then none else some 3 := by
  unfold allXs
  split
  · rw [valOf_cons, valOf_cons, valOf_nil]
    simp [mkA, wrap_ne ht]
  · rw [valOf_cons]; simp [mkA]
def sits (s j : Nat) : Bool := !decide (j % s = s - 1)
/-- Who sleeps, of the numbers from i up to n. -/
def allM (t : Int) (ht : (Lit.int .i64 t).wf = true) (s i d : Nat) : List NapM := (List.range' i d).map (fun (j : Nat) => ((j : Int), allXs t ht s j))
theorem allM_woke (t : Int) (ht : (Lit.int .i64 t).wf = true) (s j : Nat) (v : Int) : wokeM t v ((j : Int), allXs t ht s j) = (sits s j && (3 != v)) := by
  unfold wokeM sits
  show (valOf (allXs t ht s j) t).elim false _ = _
  rw [allXs_val]
  split
  · simp [*]
  · simp [*]
theorem allM_any (t : Int) (ht : (Lit.int .i64 t).wf = true) (s i d : Nat) : (allM t ht s (i + 1) d).any (fun p => p.1 == (i : Int)) = false := by
  rw [List.any_eq_false]
  intro p hp e
  obtain ⟨j, hj, rfl⟩ := List.mem_map.1 hp
  rw [List.mem_range'_1] at hj
  simp at e; omega
theorem allM_ins (t : Int) (ht : (Lit.int .i64 t).wf = true) (s i d : Nat) : insM (allM t ht s (i + 1) d) (i : Int) (allXs t ht s i) = allM t ht s i (d + 1) := by
  unfold insM
  have e1 : (allM t ht s (i + 1) d).filter (fun q => decide (q.1 < (i : Int))) = [] := by
    rw [List.filter_eq_nil_iff]
    intro p hp e
    obtain ⟨j, hj, rfl⟩ := List.mem_map.1 hp
    rw [List.mem_range'_1] at hj
    simp at e; omega
  have e2 : (allM t ht s (i + 1) d).filter (fun q => decide ((i : Int) < q.1)) = allM t ht s (i + 1) d := by
    rw [List.filter_eq_self]
    intro p hp
    obtain ⟨j, hj, rfl⟩ := List.mem_map.1 hp
    rw [List.mem_range'_1] at hj
    simp; omega
  rw [e1, e2]
  unfold allM
  rw [List.range'_succ]; rfl
def cntS (s i d : Nat) : Nat := ((List.range' i d).filter (sits s)).length
theorem cntS_succ (s i d : Nat) : cntS s i (d + 1) = cntS s (i + 1) d + if sits s i = true then 1 else 0 := by
  unfold cntS
  rw [List.range'_succ, List.filter_cons]
  split <;> simp
theorem cntS_le (s i d : Nat) : cntS s i d ≤ d := by
  unfold cntS
  exact Nat.le_trans (List.length_filter_le _ _) (by simp)
theorem allM_len (t : Int) (ht : (Lit.int .i64 t).wf = true) (s i d : Nat) : (allM t ht s i d).length = d := by simp [allM]
theorem allM_three (t : Int) (ht : (Lit.int .i64 t).wf = true) (s n : Nat) : ((allM t ht s 0 n).filter (wokeM t 3)).map (·.1) = [] ∧ (allM t ht s 0 n).filter (fun p => !wokeM t 3 p) = allM t ht s 0 n := by
  have h : ∀ p ∈ allM t ht s 0 n, wokeM t 3 p = false := by
    intro p hp
    obtain ⟨j, hj, rfl⟩ := List.mem_map.1 hp
    rw [allM_woke]; simp
  refine ⟨?_, ?_⟩
  · rw [List.map_eq_nil_iff, List.filter_eq_nil_iff]
    intro p hp e; rw [h p hp] at e; cases e
  · rw [List.filter_eq_self]
    intro p hp; rw [h p hp]; rfl
/-- Who is woken, who sleeps on. -/
def upL (s n : Nat) : List Int := ((List.range' 0 n).filter (sits s)).map (fun (j : Nat) => (j : Int))
def onM (t : Int) (ht : (Lit.int .i64 t).wf = true) (s n : Nat) : List NapM := ((List.range' 0 n).filter (fun j => !sits s j)).map (fun (j : Nat) => ((j : Int), allXs t ht s j))
theorem allM_nine (t : Int) (ht : (Lit.int .i64 t).wf = true) (s n : Nat) : ((allM t ht s 0 n).filter (wokeM t 9)).map (·.1) = upL s n ∧ (allM t ht s 0 n).filter (fun p => !wokeM t 9 p) = onM t ht s n := by
  unfold allM upL onM
  rw [List.filter_map, List.filter_map, List.map_map]
  refine ⟨?_, ?_⟩
  · congr 1
    refine List.filter_congr fun j _ => ?_
    show wokeM t 9 _ = _
    rw [allM_woke]; simp
  · congr 1
    refine List.filter_congr fun j _ => ?_
    show (!wokeM t 9 _) = _
    rw [allM_woke]; simp
theorem onM_nine (t : Int) (ht : (Lit.int .i64 t).wf = true) (s n : Nat) : ((onM t ht s n).filter (wokeM t 9)).map (·.1) = [] ∧ (onM t ht s n).filter (fun p => !wokeM t 9 p) = onM t ht s n := by
  have h : ∀ p ∈ onM t ht s n, wokeM t 9 p = false := by
    intro p hp
    obtain ⟨j, hj, rfl⟩ := List.mem_map.1 hp
    have := (List.mem_filter.1 hj).2
    rw [allM_woke]
    simp at this
    simp [this]
  refine ⟨?_, ?_⟩
  · rw [List.map_eq_nil_iff, List.filter_eq_nil_iff]
    intro p hp e; rw [h p hp] at e; cases e
  · rw [List.filter_eq_self]
    intro p hp; rw [h p hp]; rfl
theorem upL_len (s n : Nat) : (upL s n).length = cntS s 0 n := by simp [upL, cntS]
theorem onM_len (t : Int) (ht : (Lit.int .i64 t).wf = true) (s n : Nat) : (onM t ht s n).length + cntS s 0 n = n := by
  unfold onM cntS
  rw [List.length_map]
  have h : ∀ L : List Nat, (L.filter (fun j => !sits s j)).length + (L.filter (sits s)).length = L.length := by
    intro L
    induction L with
    | nil => rfl
    | cons x L ih =>
      rw [List.filter_cons, List.filter_cons]
      cases sits s x <;> simp <;> omega
  have := h (List.range' 0 n)
  rwa [List.length_range'] at this
theorem upL_rise (s n : Nat) : (upL s n).Pairwise (· < ·) := by
  unfold upL
  refine List.pairwise_map.2 ((List.Pairwise.filter _ (List.pairwise_lt_range' (s := 0) (n := n))).imp fun {a b} h => ?_)
  omega
end Go.Proofs.Ytlanchijcefncaa
