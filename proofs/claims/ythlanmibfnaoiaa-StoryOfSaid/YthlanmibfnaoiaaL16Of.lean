/- ltklaw16.StoryOf answers true. -/
import Derived.Test.YthlanmibfnaoiaaEvC
namespace Go.Proofs.Ythlanmibfnaoiaa
open Go.RowKit

/-- How many are of a kind from 1 to K - 1. -/
def upTo (es : List Ev) (K : Nat) : Nat := (es.filter (fun (e : Ev) => decide (1 ≤ e.k) && decide (e.k < (K : Int)))).length
def upToOf (es : List Ev) (th : Int) (K : Nat) : Nat := (es.filter (fun (e : Ev) => (decide (1 ≤ e.k) && decide (e.k < (K : Int))) && decide (e.th = th))).length
theorem upTo_step (es : List Ev) (K : Nat) (h : 1 ≤ K) : upTo es (K + 1) = upTo es K + (es.filter (·.keeps K [])).length := by
  unfold upTo
  induction es with
  | nil => rfl
  | cons e es ih =>
    simp only [List.filter_cons, Ev.keeps, List.isEmpty_nil, Bool.true_or, Bool.and_true] at ih ⊢
    by_cases h1 : e.k < K
    · have h2 : (e.k == (K : Int)) = false := by simp; omega
      have h3 : decide (e.k < ((K + 1 : Nat) : Int)) = true := by simp; omega
      rw [h2, h3, decide_eq_true h1]
      by_cases h4 : 1 ≤ e.k
      · simp [h4] at ih ⊢; omega
      · simp [h4] at ih ⊢; omega
    · by_cases h5 : e.k = K
      · have h2 : (e.k == (K : Int)) = true := by simp [h5]
        have h3 : decide (e.k < ((K + 1 : Nat) : Int)) = true := by simp; omega
        have h4 : decide (1 ≤ e.k) = true := by simp; omega
        rw [h2, h3, h4, decide_eq_false h1]
        simp at ih ⊢; omega
      · have h2 : (e.k == (K : Int)) = false := by simp [h5]
        have h3 : decide (e.k < ((K + 1 : Nat) : Int)) = false := by simp; omega
        rw [h2, h3, decide_eq_false h1]
        simp at ih ⊢; omega
theorem upToOf_step (es : List Ev) (th : Int) (K : Nat) (h : 1 ≤ K) : upToOf es th (K + 1) = upToOf es th K + (es.filter (·.keeps K [th])).length := by
  have h1 := upTo_step (es.filter (fun e => decide (e.th = th))) K h
  unfold upTo at h1
  unfold upToOf
  simp only [List.filter_filter] at h1
  rw [h1]
  congr 3
  funext e
  simp [Ev.keeps]
theorem keeps_k {K : Int} {ls : List Int} {e : Ev} (h : e.keeps K ls = true) : e.k = K := by
  unfold Ev.keeps at h
  rw [Bool.and_eq_true] at h
  simpa using h.1
theorem keeps_th {K th : Int} {e : Ev} (h : e.keeps K [th] = true) : e.th = th := by
  unfold Ev.keeps at h
  rw [Bool.and_eq_true] at h
  simpa using h.2
theorem filter_getD {p : Ev → Bool} {es : List Ev} {i : Nat} (h : i < (es.filter p).length) : p ((es.filter p).getD i default) = true := by
  rw [List.getD_eq_getElem?_getD, List.getElem?_eq_getElem h]
  exact (List.mem_filter.1 (List.getElem_mem h)).2
theorem upTo_take (es : List Ev) (j K : Nat) (h : j < es.length) : upTo (es.take (j + 1)) K = upTo (es.take j) K + if 1 ≤ (es.getD j default).k ∧ (es.getD j default).k < K then 1 else 0 := by
  unfold upTo
  rw [filter_take_succ h, List.length_append]
  generalize es.getD j default = e at *
  by_cases h1 : 1 ≤ e.k ∧ e.k < K
  · rw [if_pos h1, if_pos (by simp [h1.1, h1.2])]; rfl
  · rw [if_neg h1, if_neg (by simp; omega)]; rfl
theorem upToOf_take (es : List Ev) (th : Int) (j K : Nat) (h : j < es.length) : upToOf (es.take (j + 1)) th K = upToOf (es.take j) th K + if (1 ≤ (es.getD j default).k ∧ (es.getD j default).k < K) ∧ (es.getD j default).th = th then 1 else 0 := by
  unfold upToOf
  rw [filter_take_succ h, List.length_append]
  generalize es.getD j default = e at *
  by_cases h1 : (1 ≤ e.k ∧ e.k < K) ∧ e.th = th
  · rw [if_pos h1, if_pos (by simp [h1.1, h1.2])]; rfl
  · rw [if_neg h1, if_neg (by simp; omega)]; rfl
theorem upTo_one (es : List Ev) : upTo es 1 = 0 := by
  unfold upTo
  rw [List.length_eq_zero_iff, List.filter_eq_nil_iff]
  intro e _
  simp <;> omega
theorem upToOf_one (es : List Ev) (th : Int) : upToOf es th 1 = 0 := by
  unfold upToOf
  rw [List.length_eq_zero_iff, List.filter_eq_nil_iff]
  intro e _
  simp <;> omega
theorem flat_one (w : World) (x : Int) (T : TypeId) : Flat (w.alloc (.cells #[.int .i64 x] T (0, 0))) (fun _ => True) (some ⟨w.heap.size, 0, none⟩) 1 [x] :=
  ⟨rfl, fun _ => ⟨_, rfl, trivial, fun i hi => by
    obtain rfl : i = 0 := by omega
    show (w.alloc _).cell? ⟨w.heap.size, 0, none⟩ = _
    rw [blk_cell (heap_alloc_new w _)]; rfl⟩⟩
theorem upTo_le (es : List Ev) (K : Nat) : upTo es K ≤ es.length := List.length_filter_le _ _
theorem upToOf_le (es : List Ev) (th : Int) (K : Nat) : upToOf es th K ≤ es.length := List.length_filter_le _ _

set_option maxRecDepth 100000 in
theorem of_many (A : Option Addr) (n c : Nat) (es : List Ev) (th : Int) (w : World) (h : EvsAt w (fun _ => True) (.slice A n c) es) (hb : fewB es = false) :
    Calls Try.prog 3 #[.slice A n c, .int .i64 th] w fun e w' => e = .returned (.bool true) ∧ Fr (fun _ => False) w w' := by
  have HF := Lib.hid (fun w' (hf : Fr (fun _ => False) w w') => few16_calls _ es _ w' (h.frame hf (fun _ _ x => x.elim)))
  rw [hb] at HF
  clear h hb
  go_enter Try.func3, Try.ntmps3
  go_wp2_with (first
    | (go_at_call 8
       (with_reducible refine (first16_calls w).mono ?_)
       rintro ex w1 ⟨rfl, hf1⟩)
    | (go_at_call 9
       (with_reducible refine (HF.out _ hf1).mono ?_)
       rintro ex w2 ⟨rfl, hf2⟩)
    | (go_at_call 8
       (with_reducible refine (first16_calls w2).mono ?_)
       rintro ex w3 ⟨rfl, hf3⟩))
  go_ret
  exact ⟨rfl, hf1.trans (hf2.trans hf3)⟩

set_option maxRecDepth 100000 in
set_option maxHeartbeats 4000000 in
theorem of_few (A : Option Addr) (n c : Nat) (es : List Ev) (th : Int) (w : World) (h : EvsAt w (fun _ => True) (.slice A n c) es) (hb : fewB es = true) :
    Calls Try.prog 3 #[.slice A n c, .int .i64 th] w fun e w' => e = .returned (.bool true) ∧ Fr (fun _ => False) w w' := by
  have HF := Lib.hid (fun w' (hf : Fr (fun _ => False) w w') => few16_calls _ es _ w' (h.frame hf (fun _ _ x => x.elim)))
  rw [hb] at HF
  have HS := Lib.hid (fewB_smalls hb)
  have hlen : es.length ≤ 300 := (fewB_few hb).1
  obtain ⟨A0, c0, cs, e0, ha2, ha3, ha4, ha5, ha6⟩ := h.ex
  cases e0
  have H5 := Lib.hid ha5
  have H6 := Lib.hid ha6
  have HE := Lib.hid (h.mono (G := fun k => k < w.heap.size) (fun k hk _ => hk))
  clear h hb ha5 ha6 ha4 ha3
  go_enter Try.func3, Try.ntmps3
  go_wp2_with (first
    | (go_at_call 8
       (with_reducible refine (first16_calls w).mono ?_)
       rintro ex w1 ⟨rfl, hf1⟩)
    | (go_at_call 9
       (with_reducible refine (HF.out _ hf1).mono ?_)
       rintro ex w2 ⟨rfl, hf2⟩)
    | (go_at_call 10
       (with_reducible refine (storyNew_calls w2).mono ?_)
       rintro ex w3 ⟨rfl, hs3, hf3, hz3⟩
       have hf03 := hf1.trans (hf2.trans hf3)
       have HA := Lib.hid (storyAdd_calls _ _ _ [] es _ _ w3 hs3 (HE.out.frame hf03 (fun _ _ x => x.elim)) (by simp) HS.out)
       clear hs3 HF)
    | (go_at_call 11
       (with_reducible refine HA.out.mono ?_)
       rintro ex w4 ⟨rfl, ⟨v4, hs4⟩, hf4⟩
       rw [List.nil_append] at hs4
       have h24 : Fr (fun _ => False) w w4 := hf03.trans' hf4 (fun i x y => by have := (hf1.trans hf2).size; omega)
       have HS4 := Lib.hid hs4
       have H04 := Lib.hid h24
       clear hs4 h24 hf4 HA hf03 hf1 hf2 hf3))
  have HOF := Lib.hid (fun (kind : Int) (w' : World) (hf : Fr (fun _ => False) w4 w') (A' : Option Addr) (n' c' : Nat) (ls : List Int) (hl : Flat w' (fun _ => True) A' n' ls) (hn : n' ≤ 20000) => storyOf_calls _ _ es _ _ kind A' n' c' ls w' (HS4.out.frame hf (fun x => x) (fun _ _ x => x.elim)) HS.out hl hn)
  go_loopw [6, 7, 8, 9, 10, 11, 12] (fun v6 v7 v8 _ _ _ _ wr => ∃ K : Nat, 1 ≤ K ∧ K ≤ 7 ∧ v8 = .int .i64 K ∧ v6 = .int .i64 (upTo es K) ∧ v7 = .int .i64 (upToOf es th K) ∧ Fr (fun _ => False) w4 wr) (fun _ _ v8 _ _ _ _ _ => 7 - (intOf v8).toNat)
  case atStart => exact ⟨1, by omega, by omega, rfl, congrArg (Value.int .i64) (by rw [upTo_one]; rfl), congrArg (Value.int .i64) (by rw [upToOf_one]; rfl), Fr.refl _ _⟩
  case round =>
    obtain ⟨K, hK1, hK7, rfl, rfl, rfl, hf⟩ := hrel
    by_cases hlt : K < 7
    · have hle : (K : Int) ≤ 6 := by omega
      have HUS := Lib.hid (And.intro (upTo_step es K hK1) (upToOf_step es th K hK1))
      have hu1 := upTo_le es K
      have hu2 := upToOf_le es th K
      generalize upTo es K = a at *
      generalize upToOf es th K = b at *
      have HO1 := Lib.hid (HOF.out (K : Int) wr hf none 0 0 [] (Flat.nil _ _ _) (by omega))
      go_wp2_with (go_at_call 12
                   (with_reducible refine HO1.out.mono ?_)
                   rintro ex w5 ⟨v5, rfl, ho5, hf5⟩
                   obtain ⟨A5, c5, rfl⟩ := ho5.shape
                   have hm5 := List.length_filter_le (·.keeps (K : Int) []) es
                   have HM5 := Lib.hid (Eq.refl (es.filter (·.keeps (K : Int) [])).length)
                   have HX5 := Lib.hid (And.intro (ho5.at_ (fun k x => x)) (hf.trans hf5))
                   clear ho5 hf5 hf HO1
                   generalize hg5 : (es.filter (·.keeps (K : Int) [])).length = m5 at *
                   have HG5 := Lib.hid hg5
                   clear hg5)
      go_loopw [10] (fun v10 wq => ∃ i : Nat, i ≤ m5 ∧ v10 = .int .i64 i ∧ Fr (fun _ => False) w5 wq) (fun v10 _ => m5 - (intOf v10).toNat)
      case atStart => exact ⟨0, Nat.zero_le _, rfl, Fr.refl _ _⟩
      case round =>
        obtain ⟨i, hi, rfl, hf⟩ := hrel
        by_cases hil : i < m5
        · obtain ⟨B, d, ds, e5, hb2, hb3, hb4, hb5, hb6⟩ := HX5.out.1.ex
          rw [HG5.out] at e5 hb2 hb4 hb5 hb6
          cases e5
          obtain ⟨ad, rfl, _, hcs⟩ := hb5 (by omega)
          obtain ⟨A1, n1, c1, A2, n2, c2, A3, n3, c3, hrow, _⟩ := hb6 i hil
          obtain ⟨q0, q1, q2, q3, q4, q5, q6, q7, q8, q9⟩ := row_cells (fun t u ht => hf.cell (hcs t u ht) (fun x => x)) hrow
          rw [keeps_k (filter_getD (by rw [HG5.out]; exact hil))] at q0
          clear hcs hrow hb2 hb3 hb4 hb5 hb6 q1 q2 q3 q4 q5 q6 q7 q8 q9
          go_wp2
          go_roundw
          case rel => exact ⟨i + 1, by omega, by go_num, hf⟩
          case measure => simp [intOf]; omega
        · obtain rfl : i = m5 := by omega
          have HO2 := Lib.hid (HOF.out (K : Int) _ ((HX5.out.2.trans hf).alloc _) _ 1 1 [th] (flat_one wr th 3) (by omega))
          go_wp2_with (go_at_call 12
                       (with_reducible refine HO2.out.mono ?_)
                       rintro ex w6 ⟨v6, rfl, ho6, hf6⟩
                       obtain ⟨A6, c6, rfl⟩ := ho6.shape
                       have hm6 := List.length_filter_le (·.keeps (K : Int) [th]) es
                       have HX6 := Lib.hid (And.intro (ho6.at_ (fun k x => x)) (((HX5.out.2.trans hf).alloc _).trans hf6))
                       clear ho6 hf6 hf HO2
                       generalize hg6 : (es.filter (·.keeps (K : Int) [th])).length = m6 at *
                       have HG6 := Lib.hid hg6
                       clear hg6)
          go_loopw [12] (fun v12 wq => ∃ i : Nat, i ≤ m6 ∧ v12 = .int .i64 i ∧ Fr (fun _ => False) w6 wq) (fun v12 _ => m6 - (intOf v12).toNat)
          case atStart => exact ⟨0, Nat.zero_le _, rfl, Fr.refl _ _⟩
          case round =>
            obtain ⟨i, hi, rfl, hf⟩ := hrel
            by_cases hil : i < m6
            · obtain ⟨B, d, ds, e5, hb2, hb3, hb4, hb5, hb6⟩ := HX6.out.1.ex
              rw [HG6.out] at e5 hb2 hb4 hb5 hb6
              cases e5
              obtain ⟨ad, rfl, _, hcs⟩ := hb5 (by omega)
              obtain ⟨A1, n1, c1, A2, n2, c2, A3, n3, c3, hrow, _⟩ := hb6 i hil
              obtain ⟨q0, q1, q2, q3, q4, q5, q6, q7, q8, q9⟩ := row_cells (fun t u ht => hf.cell (hcs t u ht) (fun x => x)) hrow
              rw [keeps_k (filter_getD (by rw [HG6.out]; exact hil))] at q0
              rw [keeps_th (filter_getD (by rw [HG6.out]; exact hil))] at q1
              clear hcs hrow hb2 hb3 hb4 hb5 hb6 q2 q3 q4 q5 q6 q7 q8 q9
              go_wp2
              go_roundw
              case rel => exact ⟨i + 1, by omega, by go_num, hf⟩
              case measure => simp [intOf]; omega
            · obtain rfl : i = m6 := by omega
              go_wp2
              go_roundw
              case rel => exact ⟨K + 1, by omega, by omega, by go_num, congrArg (Value.int .i64) (by rw [HUS.out.1]; omega), congrArg (Value.int .i64) (by rw [HUS.out.2]; omega), HX6.out.2.trans hf⟩
              case measure => simp [intOf]; omega
    · obtain rfl : K = 7 := by omega
      generalize hna : upTo es 7 = a at *
      generalize hnb : upToOf es th 7 = b at *
      have HNA := Lib.hid (And.intro hna hnb)
      have HFW := Lib.hid hf
      have HTK := Lib.hid (fun (j : Nat) (hj : j < es.length) => And.intro (upTo_take es j 7 hj) (upToOf_take es th j 7 hj))
      have HTL := Lib.hid (fun (j : Nat) => And.intro (upTo_le (es.take j) 7) (upToOf_le (es.take j) th 7))
      have HLE := Lib.hid (List.take_length (l := es))
      clear hna hnb hf
      generalize hln : es.length = n at *
      have HN := Lib.hid hln
      clear hln
      go_wp2
      go_loopw [13, 14, 15] (fun v13 v14 v15 wq => ∃ i a' b' : Nat, i ≤ n ∧ v15 = .int .i64 i ∧ v13 = .int .i64 a' ∧ v14 = .int .i64 b' ∧ upTo (es.take i) 7 = a' ∧ upToOf (es.take i) th 7 = b' ∧ Fr (fun _ => False) w4 wq) (fun _ _ v15 _ => n - (intOf v15).toNat)
      case atStart => exact ⟨0, 0, 0, Nat.zero_le _, rfl, rfl, rfl, rfl, rfl, HFW.out⟩
      case round =>
        obtain ⟨i, a', b', hi, rfl, rfl, rfl, ha', hb', hf⟩ := hrel
        have HAB := Lib.hid (And.intro ha' hb')
        have hal : a' ≤ 300 := by rw [← ha']; exact Nat.le_trans (HTL.out i).1 (by simp; omega)
        have hbl : b' ≤ 300 := by rw [← hb']; exact Nat.le_trans (HTL.out i).2 (by simp; omega)
        clear ha' hb'
        by_cases hil : i < n
        · obtain ⟨ad, rfl, _, hcs⟩ := H5.out (by omega)
          obtain ⟨A1, n1, c1, A2, n2, c2, A3, n3, c3, hrow, _⟩ := H6.out i hil
          obtain ⟨q0, q1, q2, q3, q4, q5, q6, q7, q8, q9⟩ := row_cells (fun t u ht => (H04.out.trans hf).cell (hcs t u ht) (fun x => x)) hrow
          have HTI := Lib.hid (HTK.out i hil)
          generalize es.getD i default = e at *
          clear hcs hrow q2 q3 q4 q5 q6 q7 q8 q9
          by_cases h1 : e.k < 1
          · have h1' : decide (e.k < 1) = true := by simpa using h1
            have HZ := Lib.hid (And.intro (show ¬ (1 ≤ e.k ∧ e.k < ((7 : Nat) : Int)) by omega) (show ¬ ((1 ≤ e.k ∧ e.k < ((7 : Nat) : Int)) ∧ e.th = th) by omega))
            clear h1
            go_wp2
            go_roundw
            case rel => exact ⟨i + 1, a', b', by omega, by go_num, rfl, rfl, by rw [HTI.out.1, if_neg HZ.out.1]; exact HAB.out.1, by rw [HTI.out.2, if_neg HZ.out.2]; exact HAB.out.2, hf⟩
            case measure => simp [intOf]; omega
          · by_cases h6 : 6 < e.k
            · have h1' : decide (e.k < 1) = false := by simpa using h1
              have h6' : decide (6 < e.k) = true := by simpa using h6
              have HZ := Lib.hid (And.intro (show ¬ (1 ≤ e.k ∧ e.k < ((7 : Nat) : Int)) by omega) (show ¬ ((1 ≤ e.k ∧ e.k < ((7 : Nat) : Int)) ∧ e.th = th) by omega))
              clear h1 h6
              go_wp2
              go_roundw
              case rel => exact ⟨i + 1, a', b', by omega, by go_num, rfl, rfl, by rw [HTI.out.1, if_neg HZ.out.1]; exact HAB.out.1, by rw [HTI.out.2, if_neg HZ.out.2]; exact HAB.out.2, hf⟩
              case measure => simp [intOf]; omega
            · have h1' : decide (e.k < 1) = false := by simpa using h1
              have h6' : decide (6 < e.k) = false := by simpa using h6
              have HZ := Lib.hid (show 1 ≤ e.k ∧ e.k < ((7 : Nat) : Int) by omega)
              clear h1 h6
              by_cases ht : e.th = th
              · have ht' : (e.th == th) = true := by simpa using ht
                have HT := Lib.hid ht
                clear ht
                go_wp2
                go_roundw
                case rel => exact ⟨i + 1, a' + 1, b' + 1, by omega, by go_num, by go_num, by go_num, by rw [HTI.out.1, if_pos HZ.out, HAB.out.1], by rw [HTI.out.2, if_pos ⟨HZ.out, HT.out⟩, HAB.out.2], hf⟩
                case measure => simp [intOf]; omega
              · have ht' : (e.th == th) = false := by simpa using ht
                have HT := Lib.hid ht
                clear ht
                go_wp2
                go_roundw
                case rel => exact ⟨i + 1, a' + 1, b', by omega, by go_num, by go_num, rfl, by rw [HTI.out.1, if_pos HZ.out, HAB.out.1], by rw [HTI.out.2, if_neg (fun h => HT.out h.2)]; exact HAB.out.2, hf⟩
                case measure => simp [intOf]; omega
        · obtain rfl : i = n := by omega
          obtain ⟨e1, e2⟩ := HAB.out
          rw [HLE.out] at e1 e2
          obtain rfl : a = a' := by rw [← e1]; exact HNA.out.1.symm
          obtain rfl : b = b' := by rw [← e2]; exact HNA.out.2.symm
          clear e1 e2
          go_wp2_with (go_at_call 8
                       (with_reducible refine (first16_calls _).mono ?_)
                       rintro ex w9 ⟨rfl, hf9⟩)
          go_ret
          exact ⟨rfl, H04.out.trans (hf.trans hf9)⟩

theorem of_walk (A : Option Addr) (n c : Nat) (es : List Ev) (th : Int) (w : World) (h : EvsAt w (fun _ => True) (.slice A n c) es) (_ : (Lit.int .i64 th).wf = true) :
    Calls Try.prog 3 #[.slice A n c, .int .i64 th] w fun e w' => e = .returned (.bool true) ∧ Fr (fun _ => False) w w' := by
  cases hb : fewB es with
  | false => exact of_many A n c es th w h hb
  | true => exact of_few A n c es th w h hb
end Go.Proofs.Ythlanmibfnaoiaa
