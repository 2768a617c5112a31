/- A program that adds one, so many times: what it does, in plain Lean. -/
import Derived.Test.YtfbdfboekgjbcaaPG
namespace Go.Proofs.Ytfbdfboekgjbcaa
open Go.RowKit

def stepI (t : Int) : List Ins := [⟨1, 0, t, -1, []⟩, ⟨3, 1, 1, 0, []⟩, ⟨4, 0, 0, 0, [0, 1]⟩, ⟨2, 0, t, -1, []⟩]
def stepsP (t : Int) : Nat → List Ins
  | 0 => []
  | n + 1 => stepsP t n ++ stepI t
def endP (en : Int) : List Ins := if en = 0 then [] else [⟨5 + en, 0, 0, 0, []⟩]
def progS (t : Int) (n : Nat) (en : Int) : List Ins := stepsP t n ++ endP en
theorem stepsP_len (t : Int) : ∀ n, (stepsP t n).length = 4 * n
  | 0 => rfl
  | n + 1 => by unfold stepsP; rw [List.length_append, stepsP_len t n]; show 4 * n + 4 = _; omega
theorem getD_app_l {xs ys : List Ins} {j : Nat} (h : j < xs.length) : (xs ++ ys).getD j default = xs.getD j default := by
  rw [List.getD_eq_getElem?_getD, List.getD_eq_getElem?_getD, List.getElem?_append_left h]
theorem getD_app_r {xs ys : List Ins} {j : Nat} (h : xs.length ≤ j) : (xs ++ ys).getD j default = ys.getD (j - xs.length) default := by
  rw [List.getD_eq_getElem?_getD, List.getD_eq_getElem?_getD, List.getElem?_append_right h]
theorem stepsP_get (t : Int) : ∀ n j r, j < n → r < 4 → (stepsP t n).getD (4 * j + r) default = (stepI t).getD r default
  | n + 1, j, r, hj, hr => by
    unfold stepsP
    by_cases h : j < n
    · rw [getD_app_l (by rw [stepsP_len]; omega), stepsP_get t n j r h hr]
    · obtain rfl : j = n := by omega
      rw [getD_app_r (by rw [stepsP_len]; omega), stepsP_len, show 4 * j + r - 4 * j = r by omega]
theorem progS_get (t : Int) (n : Nat) (en : Int) {j r : Nat} (hj : j < n) (hr : r < 4) : (progS t n en).getD (4 * j + r) default = (stepI t).getD r default := by
  unfold progS
  rw [getD_app_l (by rw [stepsP_len]; omega), stepsP_get t n j r hj hr]
theorem progS_end (t : Int) (n : Nat) {en : Int} (he : en ≠ 0) : (progS t n en).getD (4 * n) default = ⟨5 + en, 0, 0, 0, []⟩ := by
  unfold progS
  rw [getD_app_r (by rw [stepsP_len]; omega), stepsP_len, show 4 * n - 4 * n = 0 by omega]
  unfold endP; rw [if_neg he]; rfl
theorem endP_len (en : Int) : (endP en).length = if en = 0 then 0 else 1 := by unfold endP; split <;> rfl
theorem progS_len (t : Int) (n : Nat) (en : Int) : (progS t n en).length = 4 * n + if en = 0 then 0 else 1 := by
  unfold progS; rw [List.length_append, stepsP_len, endP_len]
theorem w64_I64 {n : Int} (h : I64 n) : wrap64 n = n := by unfold I64 at h; unfold wrap64; omega
theorem w64_add (a b : Int) : wrap64 (wrap64 a + b) = wrap64 (a + b) := by unfold wrap64; omega

/-- Four steps. -/
theorem four_steps {c : Conf} {p : List Ins} {t m k : Nat} {s : PS} (ht : (t : Int) < c.words) (hw : (s.heap.length : Int) = c.words) (hr : 2 ≤ s.regs.length) (he : s.e = 1) (hm : m + 3 < p.length)
    (h0 : p.getD m default = ⟨1, 0, t, -1, []⟩) (h1 : p.getD (m + 1) default = ⟨3, 1, 1, 0, []⟩) (h2 : p.getD (m + 2) default = ⟨4, 0, 0, 0, [0, 1]⟩) (h3 : p.getD (m + 3) default = ⟨2, 0, t, -1, []⟩) :
    ∃ s' : PS, runP c p (k + 4) m s = runP c p k (m + 4) s' ∧ s'.heap = s.heap.set t (wrap64 (s.heap.getD t 0 + 1)) ∧ s'.rs = s.rs ++ [(t : Int), s.heap.getD t 0] ∧ s'.ws = s.ws ++ [(t : Int), wrap64 (s.heap.getD t 0 + 1)] ∧ s'.e = 1 ∧ s'.regs.length = s.regs.length := by
  have hwv : ∀ x : Ins, x.c = -1 → x.b = t → ∀ rg, addrV c x rg = t := by
    intro x hc hb rg
    unfold addrV wrapV
    rw [if_pos hc, hb, if_neg (by omega), Int.emod_eq_of_lt (by omega) ht]
  obtain ⟨regs, heap, rs, ws, e⟩ := s
  simp only at hw hr he
  subst he
  obtain ⟨r0, r1, rl, rfl⟩ : ∃ r0 r1 rl, regs = r0 :: r1 :: rl := by
    match regs, hr with
    | a :: b :: l, _ => exact ⟨a, b, l, rfl⟩
  rw [show k + 4 = k + 3 + 1 from rfl, runP_go (by omega) rfl, h0]
  have e0 : (PS.step ⟨r0 :: r1 :: rl, heap, rs, ws, 1⟩ c ⟨1, 0, t, -1, []⟩) = ⟨heap.getD t 0 :: r1 :: rl, heap, rs ++ [(t : Int), heap.getD t 0], ws, 1⟩ := by
    unfold PS.step
    rw [if_pos rfl]
    simp only [hwv ⟨1, 0, t, -1, []⟩ rfl rfl]
    rfl
  rw [e0, show PS.next _ ⟨1, 0, t, -1, []⟩ m = m + 1 from rfl, show k + 3 = k + 2 + 1 from rfl, runP_go (by omega) rfl, h1]
  rw [show PS.next _ ⟨3, 1, 1, 0, []⟩ (m + 1) = m + 2 from rfl, show k + 2 = k + 1 + 1 from rfl, runP_go (by omega) rfl, h2]
  rw [show PS.next _ ⟨4, 0, 0, 0, [0, 1]⟩ (m + 2) = m + 3 from rfl, runP_go (by omega) rfl, h3]
  rw [show PS.next _ ⟨2, 0, t, -1, []⟩ (m + 3) = m + 4 from rfl]
  have e3 : ((((⟨heap.getD t 0 :: r1 :: rl, heap, rs ++ [(t : Int), heap.getD t 0], ws, 1⟩ : PS).step c ⟨3, 1, 1, 0, []⟩).step c ⟨4, 0, 0, 0, [0, 1]⟩).step c ⟨2, 0, t, -1, []⟩) =
      ⟨wrap64 (heap.getD t 0 + 1) :: 1 :: rl, heap.set t (wrap64 (heap.getD t 0 + 1)), rs ++ [(t : Int), heap.getD t 0], ws ++ [(t : Int), wrap64 (heap.getD t 0 + 1)], 1⟩ := by
    have e1 : ((⟨heap.getD t 0 :: r1 :: rl, heap, rs ++ [(t : Int), heap.getD t 0], ws, 1⟩ : PS).step c ⟨3, 1, 1, 0, []⟩) = ⟨heap.getD t 0 :: 1 :: rl, heap, rs ++ [(t : Int), heap.getD t 0], ws, 1⟩ := rfl
    have e2 : ((⟨heap.getD t 0 :: 1 :: rl, heap, rs ++ [(t : Int), heap.getD t 0], ws, 1⟩ : PS).step c ⟨4, 0, 0, 0, [0, 1]⟩) = ⟨wrap64 (heap.getD t 0 + 1) :: 1 :: rl, heap, rs ++ [(t : Int), heap.getD t 0], ws, 1⟩ := by
      unfold PS.step
      rw [if_neg (by decide), if_neg (by decide), if_neg (by decide), if_pos rfl]
      have : evalV 0 [heap.getD t 0, 1] = wrap64 (heap.getD t 0 + 1) := by unfold evalV; rw [if_pos (by decide +kernel)]; rfl
      simp only [List.map_cons, List.map_nil]
      show PS.mk (_ :: 1 :: rl) _ _ _ _ = _
      congr 1
    rw [e1, e2]
    unfold PS.step
    rw [if_neg (show ¬ (2 : Int) = 1 by decide), if_pos rfl]
    simp only [hwv ⟨2, 0, t, -1, []⟩ rfl rfl]
    rfl
  rw [e3]
  exact ⟨_, rfl, rfl, rfl, rfl, rfl, rfl⟩
/-- Behind j rounds. -/
structure StAt (c : Conf) (heap : List Int) (t j : Nat) (s : PS) : Prop where
  hp : s.heap = heap.set t (wrap64 (heap.getD t 0 + j))
  rs : s.rs.length = 2 * j
  ws : s.ws.length = 2 * j
  r1 : 0 < j → s.rs.getD 1 0 = heap.getD t 0
  w1 : 0 < j → s.ws.getD ((j - 1) * 2 + 1) 0 = wrap64 (heap.getD t 0 + j)
  e : s.e = 1
  g : s.regs.length = c.rg.toNat
theorem rounds {c : Conf} {heap : List Int} {t n : Nat} {en : Int} (ht : (t : Int) < c.words) (hw : (heap.length : Int) = c.words) (hr : 2 ≤ c.rg) (hi : I64 (heap.getD t 0)) (k : Nat) :
    ∀ j, j ≤ n → ∃ s, runP c (progS t n en) (4 * n + k) 0 (begP c heap) = runP c (progS t n en) (4 * (n - j) + k) (4 * j) s ∧ StAt c heap t j s
  | 0, _ => ⟨begP c heap, by rw [Nat.sub_zero, Nat.mul_zero], by
      show heap = _
      rw [Int.natCast_zero, Int.add_zero, w64_I64 hi]
      apply List.ext_getElem?
      intro i
      rw [List.getElem?_set]
      split
      · rename_i h; subst h
        split
        · rw [List.getD_eq_getElem?_getD, List.getElem?_eq_getElem (by assumption)]; rfl
        · rw [List.getElem?_eq_none (by omega)]
      · rfl, rfl, rfl, fun h => absurd h (Nat.lt_irrefl _), fun h => absurd h (Nat.lt_irrefl _), rfl, by unfold begP; simp⟩
  | j + 1, h => by
    obtain ⟨s, h1, h2⟩ := rounds (n := n) (en := en) ht hw hr hi k j (by omega)
    have hl : (s.heap.length : Int) = c.words := by rw [h2.hp, List.length_set]; exact hw
    have hlt : t < heap.length := by omega
    have hh : s.heap.getD t 0 = wrap64 (heap.getD t 0 + j) := by
      rw [h2.hp, List.getD_eq_getElem?_getD, List.getElem?_set_self hlt]; rfl
    have hlen := progS_len t n en
    obtain ⟨s', g1, g2, g3, g4, g5, g6⟩ := four_steps (c := c) (p := progS t n en) (t := t) (m := 4 * j) (k := 4 * (n - (j + 1)) + k) (s := s) ht hl (by rw [h2.g]; omega) h2.e (by omega)
      (progS_get t n en (r := 0) (by omega) (by decide)) (progS_get t n en (r := 1) (by omega) (by decide)) (progS_get t n en (r := 2) (by omega) (by decide)) (progS_get t n en (r := 3) (by omega) (by decide))
    rw [hh] at g2 g3 g4
    have hv : wrap64 (wrap64 (heap.getD t 0 + j) + 1) = wrap64 (heap.getD t 0 + (j + 1 : Nat)) := by rw [w64_add]; congr 1; omega
    rw [hv] at g2 g4
    refine ⟨s', ?_, ?_, ?_, ?_, fun _ => ?_, fun _ => ?_, g5, by rw [g6, h2.g]⟩
    · rw [h1, show 4 * (n - j) + k = 4 * (n - (j + 1)) + k + 4 by omega, g1]
      rfl
    · rw [g2, h2.hp, List.set_set]
    · rw [g3, List.length_append, h2.rs]; rfl
    · rw [g4, List.length_append, h2.ws]; rfl
    · rw [g3]
      by_cases hj : 0 < j
      · rw [List.getD_eq_getElem?_getD, List.getElem?_append_left (by rw [h2.rs]; omega), ← List.getD_eq_getElem?_getD, h2.r1 hj]
      · obtain rfl : j = 0 := by omega
        rw [List.length_eq_zero_iff.1 h2.rs, Int.natCast_zero, Int.add_zero, w64_I64 hi]; rfl
    · rw [g4, List.getD_eq_getElem?_getD, List.getElem?_append_right (by rw [h2.ws]; omega), h2.ws, show (j + 1 - 1) * 2 + 1 - 2 * j = 1 by omega]
      rfl
/-- What the program does. -/
theorem full_steps {c : Conf} {heap : List Int} {t n : Nat} {en : Int} (ht : (t : Int) < c.words) (hw : (heap.length : Int) = c.words) (hr : 2 ≤ c.rg) (hi : I64 (heap.getD t 0)) (he : 0 ≤ en ∧ en ≤ 2) :
    ∃ s, fullP c heap (progS t n en) = s ∧ s.e = 1 + en ∧ s.rs.length = 2 * n ∧ s.ws.length = 2 * n ∧ (0 < n → s.rs.getD 1 0 = heap.getD t 0 ∧ s.ws.getD ((n - 1) * 2 + 1) 0 = wrap64 (heap.getD t 0 + n)) ∧ s.after heap = if en = 0 then heap.set t (wrap64 (heap.getD t 0 + n)) else heap := by
  unfold fullP
  rw [progS_len]
  obtain ⟨s, h1, h2⟩ := rounds (n := n) (en := en) ht hw hr hi (if en = 0 then 0 else 1) n (Nat.le_refl _)
  rw [h1, show 4 * (n - n) = 0 by omega, Nat.zero_add]
  by_cases h0 : en = 0
  · subst h0
    refine ⟨s, rfl, h2.e, h2.rs, h2.ws, fun h => ⟨h2.r1 h, h2.w1 h⟩, ?_⟩
    unfold PS.after
    rw [if_pos h2.e, if_pos rfl, h2.hp]
  · rw [if_neg h0]
    have hlen := progS_len t n en
    rw [if_neg h0] at hlen
    rw [runP_go (by omega) h2.e, progS_end t n h0]
    have hk : en = 1 ∨ en = 2 := by omega
    have hst : ∃ e, e = 1 + en ∧ s.step c ⟨5 + en, 0, 0, 0, []⟩ = { s with e := e } := by
      rcases hk with rfl | rfl
      · exact ⟨2, rfl, rfl⟩
      · exact ⟨3, rfl, rfl⟩
    obtain ⟨e, he1, hst⟩ := hst
    rw [hst]
    refine ⟨_, rfl, he1, h2.rs, h2.ws, fun h => ⟨h2.r1 h, h2.w1 h⟩, ?_⟩
    show (if e = 1 then s.heap else heap) = _
    rw [if_neg (by omega), if_neg h0]
theorem progS_ok {c : Conf} {t n : Nat} {en : Int} (hf : c.Fine) (hr : 2 ≤ c.rg) (hn : n ≤ 14) (he : 0 ≤ en ∧ en ≤ 2) : progOk c (progS t n en) = true := by
  rw [progOk_iff]
  have hlen := progS_len t n en
  have hlen' : (progS t n en).length ≤ 60 := by split at hlen <;> omega
  refine ⟨hf, hlen', fun i hi => ?_⟩
  have nb0 : noneB c 0 = false := by unfold noneB; simp; omega
  have nb1 : noneB c 1 = false := by unfold noneB; simp; omega
  by_cases h : i < 4 * n
  · have hx := progS_get t n en (j := i / 4) (r := i % 4) (by omega) (Nat.mod_lt _ (by decide))
    rw [show 4 * (i / 4) + i % 4 = i by omega] at hx
    rw [hx]
    have : i % 4 = 0 ∨ i % 4 = 1 ∨ i % 4 = 2 ∨ i % 4 = 3 := by omega
    rcases this with h | h | h | h <;> rw [h] <;> simp [stepI, mayB, nb0, nb1]
    decide +kernel
  · by_cases h0 : en = 0
    · rw [if_pos h0] at hlen; omega
    · rw [if_neg h0] at hlen
      obtain rfl : i = 4 * n := by omega
      rw [progS_end t n h0]
      have hk : en = 1 ∨ en = 2 := by omega
      rcases hk with rfl | rfl <;> rfl
theorem mem_stepsP {t : Int} {x : Ins} : ∀ n, x ∈ stepsP t n → x ∈ stepI t
  | n + 1, h => by
    unfold stepsP at h
    rcases List.mem_append.1 h with h | h
    · exact mem_stepsP n h
    · exact h
theorem mem_progS {t : Int} {n : Nat} {en : Int} {x : Ins} (h : x ∈ progS t n en) : x ∈ stepI t ∨ x = ⟨5 + en, 0, 0, 0, []⟩ := by
  unfold progS endP at h
  rcases List.mem_append.1 h with h | h
  · exact .inl (mem_stepsP n h)
  · split at h
    · cases h
    · exact .inr (by simpa using h)
theorem progS_i64 {t : Int} (ht : I64 t) {n : Nat} {en : Int} : ∀ x ∈ progS t n en, I64 x.b := by
  intro x hx
  rcases mem_progS hx with h | rfl
  · simp only [stepI, List.mem_cons, List.not_mem_nil, or_false] at h
    rcases h with rfl | rfl | rfl | rfl
    · exact ht
    · exact ⟨by decide, by decide⟩
    · exact ⟨by decide, by decide⟩
    · exact ht
  · exact (show I64 0 from ⟨by decide, by decide⟩)
theorem progS_short {t : Int} {n : Nat} {en : Int} : Short (progS t n en) := by
  intro x hx
  rcases mem_progS hx with h | rfl
  · simp only [stepI, List.mem_cons, List.not_mem_nil, or_false] at h
    rcases h with rfl | rfl | rfl | rfl <;> first | exact Nat.zero_le _ | (unfold maxLen; decide) | decide
  · exact Nat.zero_le _
end Go.Proofs.Ytfbdfboekgjbcaa
