/- Events that came in; few events. -/
import Derived.Test.YthlanmibfnaoiaaEvB
namespace Go.Proofs.Ythlanmibfnaoiaa
open Go.RowKit

theorem Flat.ofNums {k : Nat} {w : World} {A : Option Addr} {n : Nat} {xs : List (List Int)} (hk : 0 < k) (h : NumsIn k w A n xs) : Flat w (fun _ => True) A (n * k) ((List.range (n * k)).map (fun i => (xs.getD (i / k) []).getD (i % k) 0)) := by
  refine ⟨by simp, fun hn => ?_⟩
  obtain ⟨ad, rfl, h2⟩ := h.at_ (Nat.pos_of_mul_pos_right hn)
  refine ⟨ad, rfl, trivial, fun i hi => ?_⟩
  have hd : i / k < n := Nat.div_lt_of_lt_mul (by rw [Nat.mul_comm]; exact hi)
  have hm : i % k < k := Nat.mod_lt _ hk
  have := (h2 (i / k) hd).2 (i % k) hm
  rw [show i / k * k + i % k = i by rw [Nat.mul_comm]; exact Nat.div_add_mod i k] at this
  rw [this, List.getD_eq_getElem?_getD (l := List.map _ _), List.getElem?_map, List.getElem?_range hi]; rfl

def rdEv : Rd Ev := fun W e cs => ∃ A1 n1 c1 A2 n2 c2 A3 n3 c3, cs = e.cells (.slice A1 n1 c1) (.slice A2 n2 c2) (.slice A3 n3 c3) ∧ Lies W (fun _ => True) e A1 n1 c1 A2 n2 c2 A3 n3 c3
set_option maxRecDepth 100000 in
theorem opens_acc : Opens Try.prog 40 (rdNums 2) := opens_nums Try.underlying40 (by kernel_rfl) (fun i hi => by
  have : i = 0 ∨ i = 1 := by omega
  rcases this with rfl | rfl <;> exact ⟨_, rfl, rfl, Try.underlying3, by kernel_rfl⟩)
theorem rdSlice_cells {α : Type} {R : Rd α} {sz : Nat} {W : World} {xs : List α} {cs : List Value} (h : rdSlice R sz W xs cs) : ∃ A n c, cs = [.slice A n c] := by
  rcases h with ⟨h, _⟩ | ⟨a, n, c, h, _⟩
  · exact ⟨_, _, _, h⟩
  · exact ⟨_, _, _, h⟩
set_option maxRecDepth 100000 in
theorem opens_ev : Opens Try.prog 33 rdEv := by
  intro H enc W sp fuel cs y h
  obtain ⟨xs, n, _, _, hl, hxl, hx⟩ := DataW.trod_struct Try.underlying33 h
  rw [show Try.prog.cellsOf 33 = 10 by kernel_rfl] at hl
  have hxl' : xs.length = 10 := by rw [hxl]; rfl
  have num : ∀ (i : Nat) (t : TypeId) (x : DataW H × List MemPlace), Try.prog.cellsOf t = 1 → Try.prog.underlying t = some (.int .i64) → DataW.trod enc Try.prog W 0 sp true n t ((cs.drop i).take (Try.prog.cellsOf t)) = some x → ∃ v : Int, cs[i]? = some (.int .i64 v) := by
    intro i t x hc hu h1
    rw [hc] at h1
    obtain ⟨x, h2, _, h3⟩ := DataW.trod_int hu h1
    exact ⟨x, WideShapes.cell_of_cut h2⟩
  have h0 := hx 0 _ rfl
  rw [List.getElem?_eq_getElem (by omega)] at h0
  obtain ⟨k, e0⟩ := num 0 _ _ (by kernel_rfl) Try.underlying3 h0
  have h1 := hx 1 _ rfl
  rw [List.getElem?_eq_getElem (by omega)] at h1
  obtain ⟨th, e1⟩ := num 1 _ _ (by kernel_rfl) Try.underlying3 h1
  have h2 := hx 2 _ rfl
  rw [List.getElem?_eq_getElem (by omega)] at h2
  obtain ⟨pr, e2⟩ := num 2 _ _ (by kernel_rfl) Try.underlying3 h2
  have h3 := hx 3 _ rfl
  rw [List.getElem?_eq_getElem (by omega)] at h3
  obtain ⟨tr, e3⟩ := num 3 _ _ (by kernel_rfl) Try.underlying3 h3
  have h4 := hx 4 _ rfl
  rw [List.getElem?_eq_getElem (by omega)] at h4
  obtain ⟨ti, e4⟩ := num 4 _ _ (by kernel_rfl) Try.underlying3 h4
  have h5 := hx 5 _ rfl
  rw [List.getElem?_eq_getElem (by omega)] at h5
  obtain ⟨st, e5⟩ := num 5 _ _ (by kernel_rfl) Try.underlying3 h5
  have h6 := hx 6 _ rfl
  rw [List.getElem?_eq_getElem (by omega)] at h6
  obtain ⟨ca, e6⟩ := num 6 _ _ (by kernel_rfl) Try.underlying29 h6
  have oa := opens_slice (P := Try.prog) (sz := 2) Try.underlying30 (by kernel_rfl) opens_acc
  have oi := opens_slice (P := Try.prog) (sz := 1) Try.underlying31 (by kernel_rfl) (opens_int Try.underlying3)
  have h7 := hx 7 _ rfl
  have h8 := hx 8 _ rfl
  have h9 := hx 9 _ rfl
  rw [List.getElem?_eq_getElem (by omega)] at h7 h8 h9
  obtain ⟨rs, z7⟩ := oa H enc W sp n _ _ h7
  obtain ⟨ws, z8⟩ := oa H enc W sp n _ _ h8
  obtain ⟨gs, z9⟩ := oi H enc W sp n _ _ h9
  obtain ⟨A1, n1, c1, y7⟩ := rdSlice_cells z7
  obtain ⟨A2, n2, c2, y8⟩ := rdSlice_cells z8
  obtain ⟨A3, n3, c3, y9⟩ := rdSlice_cells z9
  rw [y7] at z7
  rw [y8] at z8
  rw [y9] at z9
  have e7 := WideShapes.cell_of_cut y7
  have e8 := WideShapes.cell_of_cut y8
  have e9 := WideShapes.cell_of_cut y9
  refine ⟨⟨k, th, pr, tr, ti, st, ca, _, _, gs⟩, A1, n1, c1, A2, n2, c2, A3, n3, c3, ?_, Flat.ofNums (by omega) (NumsIn.of z7), Flat.ofNums (by omega) (NumsIn.of z8), Flat.ofInts (IntsIn.of z9)⟩
  apply List.ext_getElem?
  intro j
  by_cases hj : j < 10
  · have : j = 0 ∨ j = 1 ∨ j = 2 ∨ j = 3 ∨ j = 4 ∨ j = 5 ∨ j = 6 ∨ j = 7 ∨ j = 8 ∨ j = 9 := by omega
    rcases this with rfl | rfl | rfl | rfl | rfl | rfl | rfl | rfl | rfl | rfl
    · exact e0
    · exact e1
    · exact e2
    · exact e3
    · exact e4
    · exact e5
    · exact e6
    · exact e7
    · exact e8
    · exact e9
  · rw [List.getElem?_eq_none (by omega), List.getElem?_eq_none (by simp [Ev.cells]; omega)]

theorem EvsAt.of {W : World} {A : Option Addr} {n cap : Nat} {es : List Ev} (h : rdSlice rdEv 10 W es [.slice A n cap]) : EvsAt W (fun _ => True) (.slice A n cap) es := by
  rcases h with ⟨h1, rfl⟩ | ⟨a, len, cap', h1, h2, h3, h4, h5⟩
  · simp at h1; obtain ⟨rfl, rfl, rfl⟩ := h1; exact EvsAt.nil _ _
  · simp at h1; obtain ⟨rfl, rfl, rfl⟩ := h1
    subst h4
    have each : ∀ i, ∃ c : List Value, i < es.length → c.length = 10 ∧ (∀ j v, c[j]? = some v → W.cell? (a.add (i * 10 + j)) = some v) ∧ rdEv W (es.getD i default) c := by
      intro i
      by_cases hi : i < es.length
      · obtain ⟨c, hc⟩ := h5 i es[i] (List.getElem?_eq_getElem hi)
        refine ⟨c, fun _ => ?_⟩
        rw [List.getD_eq_getElem?_getD, List.getElem?_eq_getElem hi]
        exact hc
      · exact ⟨[], fun h => absurd h hi⟩
    obtain ⟨c, hc⟩ := Classical.axiomOfChoice each
    have hget : ∀ m, m < es.length * 10 → ((List.range (es.length * 10)).map (fun m => (c (m / 10)).getD (m % 10) default))[m]? = (c (m / 10))[m % 10]? := by
      intro m hm
      have hi : m / 10 < es.length := by omega
      have hl := (hc (m / 10) hi).1
      rw [List.getElem?_map, List.getElem?_range hm, List.getElem?_eq_getElem (by omega)]
      simp only [Option.map_some, List.getD_eq_getElem?_getD]
      rw [List.getElem?_eq_getElem (by omega)]; rfl
    refine ⟨some a, cap, (List.range (es.length * 10)).map (fun m => (c (m / 10)).getD (m % 10) default), rfl, h2, (fun h => by cases h), by simp, fun _ => ⟨a, rfl, trivial, fun j u hj => ?_⟩, fun i hi => ?_⟩
    · have hlt : j < es.length * 10 := by
        have := (List.getElem?_eq_some_iff.1 hj).1
        simpa using this
      rw [hget j hlt] at hj
      have := (hc (j / 10) (by omega)).2.1 (j % 10) u hj
      rw [show j / 10 * 10 + j % 10 = j by omega] at this
      exact this
    · obtain ⟨g1, g2, A1, n1, c1, A2, n2, c2, A3, n3, c3, g3, g4⟩ := hc i hi
      refine ⟨A1, n1, c1, A2, n2, c2, A3, n3, c3, fun j hj => ?_, g4⟩
      rw [hget _ (by omega), show (i * 10 + j) / 10 = i by omega, show (i * 10 + j) % 10 = j by omega, g3]

/-- Few and small. -/
def FewEvs (es : List Ev) : Prop := es.length ≤ 300 ∧ ∀ e ∈ es, e.rs.length ≤ 10000 ∧ e.ws.length ≤ 10000 ∧ e.gs.length ≤ 5000
theorem FewEvs.smalls {es : List Ev} (h : FewEvs es) : Smalls es := ⟨by have := h.1; omega, fun e he => by
  obtain ⟨h1, h2, h3⟩ := h.2 e he
  exact ⟨by omega, by omega, by omega⟩⟩

/-- What Few counts of an event. -/
def Ev.weight (e : Ev) : Nat := min (e.rs.length / 2) 5001 + min (e.ws.length / 2) 5001 + min e.gs.length 5001
def tot (es : List Ev) : Nat := (es.map Ev.weight).sum
theorem tot_step {es : List Ev} {j : Nat} (h : j < es.length) : tot (es.take (j + 1)) = tot (es.take j) + (es.getD j default).weight := by
  unfold tot
  rw [List.take_add_one, List.getElem?_eq_getElem h, List.getD_eq_getElem?_getD, List.getElem?_eq_getElem h]
  simp only [List.map_append, List.sum_append, Option.toList, List.map_cons, List.map_nil, List.sum_cons, List.sum_nil, Option.getD_some, Nat.add_zero]
theorem le_tot {es : List Ev} : ∀ e ∈ es, e.weight ≤ tot es := by
  unfold tot
  induction es with
  | nil => intro e he; cases he
  | cons x es ih =>
    intro e he
    rw [List.map_cons, List.sum_cons]
    rcases List.mem_cons.1 he with rfl | he
    · omega
    · have := ih e he; omega
/-- What Few answers. -/
def fewB (es : List Ev) : Bool := decide (es.length ≤ 300) && decide (tot es ≤ 5000)
theorem fewB_few {es : List Ev} (h : fewB es = true) : es.length ≤ 300 ∧ ∀ e ∈ es, e.rs.length / 2 ≤ 5000 ∧ e.ws.length / 2 ≤ 5000 ∧ e.gs.length ≤ 5000 := by
  unfold fewB at h
  simp at h
  refine ⟨h.1, fun e he => ?_⟩
  have := le_tot e he
  unfold Ev.weight at this
  omega
theorem fewB_smalls {es : List Ev} (h : fewB es = true) : Smalls es := by
  obtain ⟨h1, h2⟩ := fewB_few h
  exact ⟨by omega, fun e he => by obtain ⟨h3, h4, h5⟩ := h2 e he; exact ⟨by omega, by omega, by omega⟩⟩

set_option maxRecDepth 100000 in
set_option maxHeartbeats 2000000 in
theorem few16_calls (v : Value) (es : List Ev) (F : Nat → Prop) (w : World) (hx : EvsAt w F v es) :
    Calls Try.prog 9 #[v] w fun e w' => e = .returned (.bool (fewB es)) ∧ Fr (fun _ => False) w w' := by
  obtain ⟨b, hb⟩ : ∃ b, b = fewB es := ⟨_, rfl⟩
  rw [← hb]
  have HBB := Lib.hid hb
  clear hb
  obtain ⟨A, c, cs, rfl, ha2, ha3, ha4, ha5, ha6⟩ := hx.ex
  have H5 := Lib.hid ha5
  have H6 := Lib.hid ha6
  clear hx ha5 ha6 ha4 ha3
  generalize hl1 : es.length = n at *
  have HN := Lib.hid hl1
  clear hl1
  go_enter Try.func9, Try.ntmps9
  go_wp2
  go_loopw [3, 4] (fun v3 v4 wr => ∃ j m : Nat, j ≤ n ∧ j ≤ 300 ∧ v4 = .int .i64 j ∧ v3 = .int .i64 m ∧ m ≤ j * 15003 ∧ tot (es.take j) = m ∧ Fr (fun _ => False) w wr) (fun _ v4 _ => n - (intOf v4).toNat)
  case atStart => exact ⟨0, 0, Nat.zero_le _, by omega, rfl, rfl, by omega, rfl, Fr.refl _ _⟩
  case round =>
    obtain ⟨j, m, hj, hj3, rfl, rfl, hm, hb, hf⟩ := hrel
    have HB := Lib.hid hb
    clear hb
    by_cases hlt : j < n
    · by_cases h3 : j < 300
      · obtain ⟨ad, rfl, _, hcs⟩ := H5.out (by omega)
        obtain ⟨A1, n1, c1, A2, n2, c2, A3, n3, c3, hrow, hL⟩ := H6.out j hlt
        obtain ⟨q0, q1, q2, q3, q4, q5, q6, q7, q8, q9⟩ := row_cells (fun t u ht => hf.cell (hcs t u ht) (fun x => x)) hrow
        have HL := Lib.hid (And.intro hL.r.len (And.intro hL.w_.len hL.g.len))
        have s1 : IntKind.i64.wrap ((m : Int) + min (n1 : Int) 5001) = (m : Int) + min (n1 : Int) 5001 := by rw [IntKind.wrap_i64]; omega
        clear hcs hrow hL q0 q1 q2 q3 q4 q5 q6 H6 H5
        go_wp2
        go_quiet (fail)
        go_wp2
        go_roundw
        case rel =>
          obtain ⟨l1, l2, l3⟩ := HL.out
          refine ⟨j + 1, m + min n1 5001 + min n2 5001 + min n3 5001, by omega, by omega, by go_num, congrArg (Value.int .i64) (by omega), by omega, ?_, by first | assumption | exact hf.drewN _ | exact hf.drew⟩
          rw [tot_step (by rw [HN.out]; exact hlt), HB.out]
          unfold Ev.weight
          omega
        case measure => simp [intOf]; omega
      · obtain rfl : j = 300 := by omega
        have hgt : decide ((n : Int) ≤ 300) = false := by simp; omega
        have hd : decide ((300 : Int) < n) = true := by simp; omega
        go_wp2
        go_ret
        exact ⟨by rw [HBB.out, show fewB es = false by unfold fewB; rw [HN.out]; simp; omega]; simp_all, hf⟩
    · obtain rfl : j = n := by omega
      have HQ := Lib.hid (show fewB es = (decide ((j : Int) ≤ 300) && decide ((m : Int) ≤ 5000)) by
        have := HB.out
        rw [← HN.out, List.take_length] at this
        unfold fewB
        rw [this, HN.out]
        congr 1 <;> simp <;> omega)
      clear H5 H6
      go_wp2
      all_goals go_ret
      all_goals exact ⟨by rw [HBB.out, HQ.out]; simp_all, hf⟩
end Go.Proofs.Ythlanmibfnaoiaa
