/- Programs that came in; ltklaw7.first; how long a run's parts are. -/
import Derived.Test.YtkaokhpaabfhmaaP9
import Derived.Test.YtkaokhpaabfhmaaL3First
namespace Go.Proofs.Ytkaokhpaabfhmaa
open Go.RowKit

def rdIns : Rd Ins := fun W x cs => ∃ A n c, cs = x.cells (.slice A n c) ∧ n ≤ c ∧ Flat W (fun _ => True) A n x.l ∧ I64 x.b
theorem rdInts_cells {W : World} {xs : List Int} {cs : List Value} (h : rdSlice rdInt 1 W xs cs) : ∃ A n c, cs = [.slice A n c] ∧ n ≤ c ∧ Flat W (fun _ => True) A n xs := by
  rcases id h with ⟨h1, _⟩ | ⟨a, n, c, h1, h2, _⟩
  · subst h1; exact ⟨_, _, _, rfl, Nat.le_refl _, Flat.ofInts (IntsIn.of h)⟩
  · subst h1; exact ⟨_, _, _, rfl, h2, Flat.ofInts (IntsIn.of h)⟩
set_option maxRecDepth 100000 in
theorem opens_ins : Opens Try.prog 67 rdIns := by
  intro H enc W sp fuel cs y h
  obtain ⟨xs, n, _, _, hl, hxl, hx⟩ := DataW.trod_struct Try.underlying67 h
  rw [show Try.prog.cellsOf 67 = 5 by kernel_rfl] at hl
  have hxl' : xs.length = 5 := by rw [hxl]; rfl
  have num : ∀ (i : Nat) (t : TypeId) (x : DataW H × List MemPlace), Try.prog.cellsOf t = 1 → Try.prog.underlying t = some (.int .i64) → DataW.trod enc Try.prog W 0 sp true n t ((cs.drop i).take (Try.prog.cellsOf t)) = some x → ∃ v : Int, cs[i]? = some (.int .i64 v) ∧ I64 v := by
    intro i t x hc hu h1
    rw [hc] at h1
    obtain ⟨x, h2, _, h3⟩ := DataW.trod_int hu h1
    exact ⟨x, WideShapes.cell_of_cut h2, I64.of h3⟩
  have h0 := hx 0 _ rfl
  rw [List.getElem?_eq_getElem (by omega)] at h0
  obtain ⟨k, e0, _⟩ := num 0 _ _ (by kernel_rfl) Try.underlying3 h0
  have h1 := hx 1 _ rfl
  rw [List.getElem?_eq_getElem (by omega)] at h1
  obtain ⟨a, e1, _⟩ := num 1 _ _ (by kernel_rfl) Try.underlying3 h1
  have h2 := hx 2 _ rfl
  rw [List.getElem?_eq_getElem (by omega)] at h2
  obtain ⟨b, e2, i2⟩ := num 2 _ _ (by kernel_rfl) Try.underlying3 h2
  have h3 := hx 3 _ rfl
  rw [List.getElem?_eq_getElem (by omega)] at h3
  obtain ⟨c, e3, _⟩ := num 3 _ _ (by kernel_rfl) Try.underlying3 h3
  have oi := opens_slice (P := Try.prog) (sz := 1) Try.underlying24 (by kernel_rfl) (opens_int Try.underlying3)
  have h4 := hx 4 _ rfl
  rw [List.getElem?_eq_getElem (by omega)] at h4
  obtain ⟨ls, z4⟩ := oi H enc W sp n _ _ h4
  obtain ⟨A1, n1, c1, y4, hc, hf⟩ := rdInts_cells z4
  have e4 := WideShapes.cell_of_cut y4
  refine ⟨⟨k, a, b, c, ls⟩, A1, n1, c1, ?_, hc, hf, i2⟩
  apply List.ext_getElem?
  intro j
  by_cases hj : j < 5
  · have : j = 0 ∨ j = 1 ∨ j = 2 ∨ j = 3 ∨ j = 4 := by omega
    rcases this with rfl | rfl | rfl | rfl | rfl
    · exact e0
    · exact e1
    · exact e2
    · exact e3
    · exact e4
  · rw [List.getElem?_eq_none (by omega), List.getElem?_eq_none (by simp [Ins.cells]; omega)]

theorem ProgAt.of {W : World} {A : Option Addr} {n cap : Nat} {p : List Ins} (h : rdSlice rdIns 5 W p [.slice A n cap]) : ProgAt W (fun _ => True) A n cap p := by
  rcases h with ⟨h1, rfl⟩ | ⟨a, len, cap', h1, h2, h3, h4, h5⟩
  · simp at h1; obtain ⟨rfl, rfl, rfl⟩ := h1
    exact ⟨rfl, Nat.le_refl _, ⟨[], fun h => absurd h (Nat.lt_irrefl _), fun i hi => absurd hi (Nat.not_lt_zero _)⟩, fun x hx => by cases hx⟩
  · simp at h1; obtain ⟨rfl, rfl, rfl⟩ := h1
    subst h4
    have each : ∀ i, ∃ c : List Value, i < p.length → c.length = 5 ∧ (∀ j v, c[j]? = some v → W.cell? (a.add (i * 5 + j)) = some v) ∧ rdIns W (p.getD i default) c := by
      intro i
      by_cases hi : i < p.length
      · obtain ⟨c, hc⟩ := h5 i p[i] (List.getElem?_eq_getElem hi)
        refine ⟨c, fun _ => ?_⟩
        rw [List.getD_eq_getElem?_getD, List.getElem?_eq_getElem hi]
        exact hc
      · exact ⟨[], fun h => absurd h hi⟩
    obtain ⟨c, hc⟩ := Classical.axiomOfChoice each
    have hget : ∀ m, m < p.length * 5 → ((List.range (p.length * 5)).map (fun m => (c (m / 5)).getD (m % 5) default))[m]? = (c (m / 5))[m % 5]? := by
      intro m hm
      have hi : m / 5 < p.length := by omega
      have hl := (hc (m / 5) hi).1
      rw [List.getElem?_map, List.getElem?_range hm, List.getElem?_eq_getElem (by omega)]
      simp only [Option.map_some, List.getD_eq_getElem?_getD]
      rw [List.getElem?_eq_getElem (by omega)]; rfl
    refine ⟨rfl, h2, ⟨(List.range (p.length * 5)).map (fun m => (c (m / 5)).getD (m % 5) default), fun _ => ⟨a, rfl, trivial, fun j u hj => ?_⟩, fun i hi => ?_⟩, fun x hx => ?_⟩
    · have hlt : j < p.length * 5 := by
        have := (List.getElem?_eq_some_iff.1 hj).1
        simpa using this
      rw [hget j hlt] at hj
      have := (hc (j / 5) (by omega)).2.1 (j % 5) u hj
      rw [show j / 5 * 5 + j % 5 = j by omega] at this
      exact this
    · obtain ⟨g1, g2, A1, n1, c1, g3, g4, g5, _⟩ := hc i hi
      refine ⟨A1, n1, c1, fun j hj => ?_, g4, g5⟩
      rw [hget _ (by omega), show (i * 5 + j) / 5 = i by omega, show (i * 5 + j) % 5 = j by omega, g3]
    · obtain ⟨i, hi, rfl⟩ := List.mem_iff_getElem.1 hx
      obtain ⟨_, _, A1, n1, c1, _, _, _, g6⟩ := hc i hi
      rw [List.getD_eq_getElem?_getD, List.getElem?_eq_getElem hi] at g6
      exact g6
theorem ProgAt.nil (w : World) (F : Nat → Prop) (c : Nat) : ProgAt w F none 0 c [] := ⟨rfl, Nat.zero_le _, ⟨[], fun h => absurd h (Nat.lt_irrefl _), fun i hi => absurd hi (Nat.not_lt_zero _)⟩, fun x hx => by cases hx⟩

/-- A heap that came in. -/
structure IntsW (w : World) (A : Option Addr) (n : Nat) (xs : List Int) : Prop where
  flat : Flat w (fun _ => True) A n xs
  i64 : ∀ y ∈ xs, I64 y
theorem IntsW.of {W : World} {A : Option Addr} {n cap : Nat} {xs : List Int} (h : rdSlice rdInt 1 W xs [.slice A n cap]) : IntsW W A n xs := by
  refine ⟨Flat.ofInts (IntsIn.of h), fun y hy => ?_⟩
  rcases h with ⟨_, rfl⟩ | ⟨a, len, cap', h1, _, _, h3, h4⟩
  · cases hy
  · obtain ⟨i, hi⟩ := List.getElem?_of_mem hy
    obtain ⟨c, _, _, _, h8⟩ := h4 i y hi
    exact I64.of h8

/-! How long a run's parts are. -/
theorem step_lens (s : PS) (c : Conf) (x : Ins) : (s.step c x).regs.length = s.regs.length ∧ (s.step c x).heap.length = s.heap.length ∧ s.rs.length ≤ (s.step c x).rs.length ∧ s.ws.length ≤ (s.step c x).ws.length ∧ (s.step c x).rs.length ≤ s.rs.length + 2 ∧ (s.step c x).ws.length ≤ s.ws.length + 2 := by
  unfold PS.step
  repeat' split
  all_goals (simp)
theorem runP_lens (c : Conf) (p : List Ins) : ∀ n at_ (s : PS), (runP c p n at_ s).regs.length = s.regs.length ∧ (runP c p n at_ s).heap.length = s.heap.length ∧ s.ws.length ≤ (runP c p n at_ s).ws.length ∧ (runP c p n at_ s).rs.length ≤ s.rs.length + 2 * n ∧ (runP c p n at_ s).ws.length ≤ s.ws.length + 2 * n
  | 0, _, s => ⟨rfl, rfl, Nat.le_refl _, by unfold runP; omega, by unfold runP; omega⟩
  | n + 1, at_, s => by
    by_cases h : at_ < p.length ∧ s.e = 1
    · rw [runP_go h.1 h.2]
      obtain ⟨h1, h2, h3, h4, h5⟩ := runP_lens c p n (s.next (p.getD at_ default) at_) (s.step c (p.getD at_ default))
      obtain ⟨g1, g2, g3, g4, g5, g6⟩ := step_lens s c (p.getD at_ default)
      exact ⟨by omega, by omega, by omega, by omega, by omega⟩
    · rw [runP_stop h]
      exact ⟨rfl, rfl, Nat.le_refl _, by omega, by omega⟩
theorem res_small (c : Conf) (heap : List Int) (p : List Ins) (hh : heap.length ≤ 20000) : (resS c heap p).regs.length ≤ 20000 ∧ (resS c heap p).rs.length ≤ 20000 ∧ (resS c heap p).ws.length ≤ 20000 ∧ (resH c heap p).length ≤ 20000 := by
  by_cases hr : progOk c p = true ∧ (heap.length : Int) = c.words
  · obtain ⟨e1, e2, _⟩ := runs_full hr.1 hr.2
    rw [e1, e2]
    obtain ⟨hfn, hn60, _⟩ := progOk_iff.1 hr.1
    have hrg := hfn.2.1.2.2.1
    obtain ⟨h1, h2, _, h4, h5⟩ := runP_lens c p p.length 0 (begP c heap)
    have e : fullP c heap p = runP c p p.length 0 (begP c heap) := rfl
    rw [← e] at h1 h2 h4 h5
    have b1 : (begP c heap).regs.length = c.rg.toNat := by unfold begP; simp
    have b2 : (begP c heap).heap.length = heap.length := rfl
    have b3 : (begP c heap).rs.length = 0 := rfl
    have b4 : (begP c heap).ws.length = 0 := rfl
    refine ⟨by omega, by omega, by omega, ?_⟩
    unfold PS.after
    split <;> omega
  · obtain ⟨e1, e2, _⟩ := runs_not hr
    rw [e1, e2]
    simp

end Go.Proofs.Ytkaokhpaabfhmaa
