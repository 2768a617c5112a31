/- ltkref11.Of, of any kind and any threads. -/
import Derived.Test.YthlanmibfnaoiaaEvC
namespace Go.Proofs.Ythlanmibfnaoiaa
open Go.RowKit

theorem keepsNil {kind : Int} (e : Ev) : e.keeps kind [] = (e.k == kind) := by unfold Ev.keeps; simp
theorem EvsOwn.frame' {T : TypeId} {B : Nat} {w w' : World} {F : Nat → Prop} {v : Value} {es : List Ev} (h : EvsOwn T B w F v es) (hf : Fr (fun _ => False) w w') : EvsOwn T B w' F v es := by
  obtain ⟨cs, h1, h2⟩ := h
  exact ⟨cs, ownsRow_frame h1 hf (fun _ _ x => x), fun i hi => (h2 i hi).frame hf (fun _ _ x => x.elim)⟩

set_option maxRecDepth 100000 in
set_option maxHeartbeats 8000000 in
theorem refOfNil_calls (kind : Int) (T : Option Addr) (tc : Nat) (u : Value) (es : List Ev) (G : Nat → Prop) (w : World) (hu : EvsAt w G u es) (hs : es.length ≤ 20000) :
    Calls Try.prog 19 #[.int .i64 kind, .slice T 0 tc, u] w fun e w' => ∃ v', e = .returned v' ∧ EvsOwn 33 w.heap.size w' (fun k => k < w.heap.size ∧ G k) v' (es.filter (·.keeps kind [])) ∧ Fr (fun _ => False) w w' := by
  obtain ⟨A, c, cs, rfl, hc, _, _, hcs, hrow⟩ := id (hu.mono (G := fun k => k < w.heap.size ∧ G k) (fun k hk x => ⟨hk, x⟩)).ex
  have HCS := Lib.hid hcs
  have HROW := Lib.hid hrow
  clear hcs hrow hu
  generalize hn : es.length = n at *
  have HN := Lib.hid hn
  clear hn
  go_enter Try.func19, Try.ntmps19
  go_wp2
  go_loopw [7, 8] (fun v7 v8 wr => ∃ i : Nat, i ≤ n ∧ v8 = .int .i64 i ∧ EvsOwn 33 w.heap.size wr (fun k => k < w.heap.size ∧ G k) v7 ((es.take i).filter (·.keeps kind [])) ∧ Fr (fun k => w.heap.size ≤ k) w wr) (fun _ v8 _ => n - (intOf v8).toNat)
  case atStart => exact ⟨0, Nat.zero_le _, rfl, ⟨[], World.ownsRow_nil _ _ _ _, fun i hi => absurd hi (Nat.not_lt_zero _)⟩, Fr.refl _ _⟩
  case round =>
    obtain ⟨i, hi, rfl, ho, hf⟩ := hrel
    have HO := Lib.hid ho
    have HF := Lib.hid hf
    have hsz := hf.size
    have HFF := Lib.hid hf.fresh'
    by_cases hlt : i < n
    · obtain ⟨ad, rfl, hG, h1⟩ := HCS.out (by omega)
      obtain ⟨A1, n1, c1, A2, n2, c2, A3, n3, c3, hra, hlie⟩ := HROW.out i hlt
      obtain ⟨p0, p1, p2, p3, p4, p5, p6, p7, p8, p9⟩ := row_cells (fun t u htt => HFF.out.cell (h1 t u htt) (fun x => x)) hra
      have HT1 := Lib.hid (show es.take (i + 1) = es.take i ++ [es.getD i default] by rw [List.take_add_one, List.getElem?_eq_getElem (by rw [HN.out]; exact hlt), List.getD_eq_getElem?_getD, List.getElem?_eq_getElem (by rw [HN.out]; exact hlt)]; rfl)
      generalize es.getD i default = x at *
      have HLIE := Lib.hid hlie
      have hm : ¬ n ≤ i := by omega
      clear h1 hra hlie ho hf
      have hcase : (x.k == kind) = true ∨ (x.k == kind) = false := by cases (x.k == kind) <;> simp
      rcases hcase with e1 | e1
      · have HKT := Lib.hid (show (es.take (i + 1)).filter (·.keeps kind []) = (es.take i).filter (·.keeps kind []) ++ [x] by
          rw [HT1.out, List.filter_append, List.filter_cons_of_pos (by rw [keepsNil]; exact e1), List.filter_nil])
        have HLQ := Lib.hid (show ((es.take i).filter (·.keeps kind [])).length + 1 ≤ 1000000 from by have h1 := List.length_filter_le (fun e : Ev => e.keeps kind []) (es.take i); rw [List.length_take, HN.out] at h1; omega)
        obtain ⟨xs, hown, hrows⟩ := HO.out
        have HOA := Lib.hid (ownsRow_frame hown ((Fr.refl (fun _ => False) wr).alloc (.cells #[.int .i64 x.k, .int .i64 x.th, .int .i64 x.pr, .int .i64 x.tr, .int .i64 x.ti, .int .i64 x.st, .int .i64 x.ca, .slice A1 n1 c1, .slice A2 n2 c2, .slice A3 n3 c3] 33)) (fun _ _ x => x))
        have HRW := Lib.hid hrows
        have HXL := Lib.hid hown.1
        clear hown hrows
        go_wp2_with (at_builtin; refine append_evs _ rfl _ _ rfl w.heap.size _ _ xs rfl HOA.out (some ⟨wr.heap.size, 0, none⟩) 1 1 (x.cells (.slice A1 n1 c1) (.slice A2 n2 c2) (.slice A3 n3 c3)) rfl rfl (fun h => by cases h) (Nat.le_refl _) ?qc ?qo HLQ.out ?qb ?_)
        case qc =>
          first
          | exact fun j u hj => by rw [← hj]; unfold Ev.cells; rfl
          | exact fun _ => ⟨_, rfl, fun j u hj => by
                have h1 : (Addr.mk wr.heap.size 0 none).add j = ⟨wr.heap.size, j, none⟩ := by unfold Addr.add; split <;> simp_all
                rw [h1, blk_cell (heap_alloc_new wr _), ← hj]
                unfold Ev.cells
                simp⟩
        case qo =>
          intro u hu
          unfold Ev.cells at hu
          simp only [List.mem_cons, List.not_mem_nil, or_false] at hu
          rcases hu with rfl | rfl | rfl | rfl | rfl | rfl | rfl | rfl | rfl | rfl <;> rfl
        case qb => first | omega | (simp; omega)
        intro v7 w5 ho5 hf5
        have HO5 := Lib.hid ho5
        have HG5 := Lib.hid (show Fr (fun k => w.heap.size ≤ k) wr w5 from ((Fr.refl (fun k => w.heap.size ≤ k) wr).alloc _).trans (hf5.mono (fun k hk => (World.ownsRow.lt HOA.out k hk).1)))
        clear ho5 hf5
        go_wp2
        go_roundw
        case rel =>
          refine ⟨i + 1, by omega, by go_num, ?_, HF.out.trans HG5.out⟩
          rw [HKT.out]
          refine ⟨xs ++ x.cells (.slice A1 n1 c1) (.slice A2 n2 c2) (.slice A3 n3 c3), by rw [List.length_append]; exact HO5.out, fun j hj => ?_⟩
          rw [List.length_append] at hj
          have hj' : j < ((es.take i).filter (·.keeps kind [])).length + 1 := hj
          by_cases hjl : j < ((es.take i).filter (·.keeps kind [])).length
          · rw [getD_append_left hjl]
            exact EvRow.ahead ((HRW.out j hjl).frame HG5.out (fun k a b => by omega)) HXL.out hjl
          · obtain rfl : j = ((es.take i).filter (·.keeps kind [])).length := by omega
            rw [getD_append_last]
            refine EvRow.shift (i := 0) ⟨A1, n1, c1, A2, n2, c2, A3, n3, c3, fun t ht => ?_, ?_⟩ HXL.out rfl
            · rw [Nat.zero_mul, Nat.zero_add]
            · exact HLIE.out.frame (HF.out.trans HG5.out) (fun k a b => by omega)
        case measure => simp [intOf]; omega
      · have HKT := Lib.hid (show (es.take (i + 1)).filter (·.keeps kind []) = (es.take i).filter (·.keeps kind []) by
          rw [HT1.out, List.filter_append, List.filter_cons_of_neg (by rw [keepsNil, e1]; decide), List.filter_nil, List.append_nil])
        go_wp2
        go_roundw
        case rel => exact ⟨i + 1, by omega, by go_num, by rw [HKT.out]; exact HO.out, HF.out⟩
        case measure => simp [intOf]; omega
    · obtain rfl : i = n := by omega
      have hall : es.take i = es := List.take_of_length_le (by rw [HN.out]; exact Nat.le_refl _)
      rw [hall] at ho
      have HO2 := Lib.hid ho
      clear ho hf hall
      go_wp2
      go_ret
      exact ⟨_, rfl, HO2.out, HFF.out⟩
set_option maxRecDepth 100000 in
set_option maxHeartbeats 8000000 in
theorem refOfThr_calls (kind : Int) (T : Option Addr) (tn tc : Nat) (ls : List Int) (FT : Nat → Prop) (u : Value) (es : List Ev) (G : Nat → Prop) (w : World) (hu : EvsAt w G u es) (hs : es.length ≤ 20000) (hls : Flat w FT T tn ls) (ht : tn ≤ 20000) (ht0 : ¬ tn = 0) :
    Calls Try.prog 19 #[.int .i64 kind, .slice T tn tc, u] w fun e w' => ∃ v', e = .returned v' ∧ EvsOwn 33 w.heap.size w' (fun k => k < w.heap.size ∧ G k) v' (es.filter (·.keeps kind ls)) ∧ Fr (fun _ => False) w w' := by
  obtain ⟨A, c, cs, rfl, hc, _, _, hcs, hrow⟩ := id (hu.mono (G := fun k => k < w.heap.size ∧ G k) (fun k hk x => ⟨hk, x⟩)).ex
  have HCS := Lib.hid hcs
  have HROW := Lib.hid hrow
  have HTN := Lib.hid hls.len
  have HHAS := Lib.hid (fun (y : Int) w' (hf : Fr (fun _ => False) w w') => has_calls T tn tc ls y FT w' (hls.frame hf (fun _ _ x => x.elim)) ht)
  clear hcs hrow hu hls
  generalize hn : es.length = n at *
  have HN := Lib.hid hn
  clear hn
  go_enter Try.func19, Try.ntmps19
  go_wp2
  go_loopw [7, 8] (fun v7 v8 wr => ∃ i : Nat, i ≤ n ∧ v8 = .int .i64 i ∧ EvsOwn 33 w.heap.size wr (fun k => k < w.heap.size ∧ G k) v7 ((es.take i).filter (·.keeps kind ls)) ∧ Fr (fun k => w.heap.size ≤ k) w wr) (fun _ v8 _ => n - (intOf v8).toNat)
  case atStart => exact ⟨0, Nat.zero_le _, rfl, ⟨[], World.ownsRow_nil _ _ _ _, fun i hi => absurd hi (Nat.not_lt_zero _)⟩, Fr.refl _ _⟩
  case round =>
    obtain ⟨i, hi, rfl, ho, hf⟩ := hrel
    have HO := Lib.hid ho
    have HF := Lib.hid hf
    have hsz := hf.size
    have HFF := Lib.hid hf.fresh'
    by_cases hlt : i < n
    · obtain ⟨ad, rfl, hG, h1⟩ := HCS.out (by omega)
      obtain ⟨A1, n1, c1, A2, n2, c2, A3, n3, c3, hra, hlie⟩ := HROW.out i hlt
      obtain ⟨p0, p1, p2, p3, p4, p5, p6, p7, p8, p9⟩ := row_cells (fun t u htt => HFF.out.cell (h1 t u htt) (fun x => x)) hra
      have HT1 := Lib.hid (show es.take (i + 1) = es.take i ++ [es.getD i default] by rw [List.take_add_one, List.getElem?_eq_getElem (by rw [HN.out]; exact hlt), List.getD_eq_getElem?_getD, List.getElem?_eq_getElem (by rw [HN.out]; exact hlt)]; rfl)
      have hra2 := hra
      have h12 := h1
      generalize es.getD i default = x at *
      have HLIE := Lib.hid hlie
      have hm : ¬ n ≤ i := by omega
      clear h1 hra hlie ho hf
      have HRA := Lib.hid hra2
      have H1 := Lib.hid h12
      have hcase : (x.k == kind) = true ∨ (x.k == kind) = false := by cases (x.k == kind) <;> simp
      rcases hcase with e1 | e1
      · by_cases hin : x.th ∈ ls
        · have HKE := Lib.hid (show x.keeps kind ls = true from by unfold Ev.keeps; rw [e1]; simp [hin])
          have HIN := Lib.hid hin
          clear hin
          have HKT := Lib.hid (show (es.take (i + 1)).filter (·.keeps kind ls) = (es.take i).filter (·.keeps kind ls) ++ [x] by
            rw [HT1.out, List.filter_append, List.filter_cons_of_pos (by exact HKE.out), List.filter_nil])
          have HLQ := Lib.hid (show ((es.take i).filter (·.keeps kind ls)).length + 1 ≤ 1000000 from by have h1 := List.length_filter_le (fun e : Ev => e.keeps kind ls) (es.take i); rw [List.length_take, HN.out] at h1; omega)
          obtain ⟨xs, hown, hrows⟩ := HO.out
          have HOAF := Lib.hid (fun w2 (hf : Fr (fun _ => False) wr w2) => ownsRow_frame hown (hf.alloc (.cells #[.int .i64 x.k, .int .i64 x.th, .int .i64 x.pr, .int .i64 x.tr, .int .i64 x.ti, .int .i64 x.st, .int .i64 x.ca, .slice A1 n1 c1, .slice A2 n2 c2, .slice A3 n3 c3] 33)) (fun _ _ x => x))
          have HRW := Lib.hid hrows
          have HXL := Lib.hid hown.1
          clear hown hrows
          go_wp2_with (first
            | (go_at_call 30
               (with_reducible refine (HHAS.out x.th _ HFF.out).mono ?_)
               rw [decide_eq_true HIN.out]
               rintro ex w2 ⟨rfl, hf2⟩
               have HOA := Lib.hid (HOAF.out w2 hf2)
               have HW2 := Lib.hid hf2
               clear p0 p1 p2 p3 p4 p5 p6 p7 p8 p9
               obtain ⟨p0, p1, p2, p3, p4, p5, p6, p7, p8, p9⟩ := row_cells (fun t u htt => (HFF.out.trans hf2).cell (H1.out t u htt) (fun x => x)) HRA.out
               clear hf2)
            | (at_builtin
               refine append_evs _ rfl _ _ rfl w.heap.size _ _ xs rfl HOA.out (some ⟨w2.heap.size, 0, none⟩) 1 1 (x.cells (.slice A1 n1 c1) (.slice A2 n2 c2) (.slice A3 n3 c3)) rfl rfl (fun h => by cases h) (Nat.le_refl _) ?qc ?qo HLQ.out ?qb ?_))
          case qc =>
            first
            | exact fun j u hj => by rw [← hj]; unfold Ev.cells; rfl
            | exact fun _ => ⟨_, rfl, fun j u hj => by
                  have h1 : (Addr.mk w2.heap.size 0 none).add j = ⟨w2.heap.size, j, none⟩ := by unfold Addr.add; split <;> simp_all
                  rw [h1, blk_cell (heap_alloc_new w2 _), ← hj]
                  unfold Ev.cells
                  simp⟩
          case qo =>
            intro u hu
            unfold Ev.cells at hu
            simp only [List.mem_cons, List.not_mem_nil, or_false] at hu
            rcases hu with rfl | rfl | rfl | rfl | rfl | rfl | rfl | rfl | rfl | rfl <;> rfl
          case qb => first | (have := HW2.out.size; omega) | (simp; have := HW2.out.size; omega)
          intro v7 w5 ho5 hf5
          have HO5 := Lib.hid ho5
          have HG5 := Lib.hid (show Fr (fun k => w.heap.size ≤ k) wr w5 from ((HW2.out.mono (fun _ x => x.elim)).alloc _).trans (hf5.mono (fun k hk => (World.ownsRow.lt HOA.out k hk).1)))
          clear ho5 hf5
          go_wp2
          go_roundw
          case rel =>
            refine ⟨i + 1, by omega, by go_num, ?_, HF.out.trans HG5.out⟩
            rw [HKT.out]
            refine ⟨xs ++ x.cells (.slice A1 n1 c1) (.slice A2 n2 c2) (.slice A3 n3 c3), by rw [List.length_append]; exact HO5.out, fun j hj => ?_⟩
            rw [List.length_append] at hj
            have hj' : j < ((es.take i).filter (·.keeps kind ls)).length + 1 := hj
            by_cases hjl : j < ((es.take i).filter (·.keeps kind ls)).length
            · rw [getD_append_left hjl]
              exact EvRow.ahead ((HRW.out j hjl).frame HG5.out (fun k a b => by omega)) HXL.out hjl
            · obtain rfl : j = ((es.take i).filter (·.keeps kind ls)).length := by omega
              rw [getD_append_last]
              refine EvRow.shift (i := 0) ⟨A1, n1, c1, A2, n2, c2, A3, n3, c3, fun t ht => ?_, ?_⟩ HXL.out rfl
              · rw [Nat.zero_mul, Nat.zero_add]
              · exact HLIE.out.frame (HF.out.trans HG5.out) (fun k a b => by omega)
          case measure => simp [intOf]; omega
        · have hie : ls.isEmpty = false := by
            have h := HTN.out
            revert h
            cases ls <;> simp <;> omega
          have HKE := Lib.hid (show x.keeps kind ls = false from by unfold Ev.keeps; rw [hie]; simp [hin])
          clear hie
          have HIN := Lib.hid hin
          clear hin
          have HKT := Lib.hid (show (es.take (i + 1)).filter (·.keeps kind ls) = (es.take i).filter (·.keeps kind ls) by
            rw [HT1.out, List.filter_append, List.filter_cons_of_neg (by rw [HKE.out]; decide), List.filter_nil, List.append_nil])
          go_wp2_with (go_at_call 30
                       (with_reducible refine (HHAS.out x.th _ HFF.out).mono ?_)
                       rw [decide_eq_false HIN.out]
                       rintro ex w2 ⟨rfl, hf2⟩
                       have HW2 := Lib.hid hf2
                       clear hf2)
          go_roundw
          case rel => exact ⟨i + 1, by omega, by go_num, by rw [HKT.out]; exact HO.out.frame' HW2.out, HF.out.trans (HW2.out.mono (fun _ x => x.elim))⟩
          case measure => simp [intOf]; omega
      · have HKE := Lib.hid (show x.keeps kind ls = false from by unfold Ev.keeps; rw [e1]; rfl)
        have HKT := Lib.hid (show (es.take (i + 1)).filter (·.keeps kind ls) = (es.take i).filter (·.keeps kind ls) by
          rw [HT1.out, List.filter_append, List.filter_cons_of_neg (by rw [HKE.out]; decide), List.filter_nil, List.append_nil])
        go_wp2
        go_roundw
        case rel => exact ⟨i + 1, by omega, by go_num, by rw [HKT.out]; exact HO.out, HF.out⟩
        case measure => simp [intOf]; omega
    · obtain rfl : i = n := by omega
      have hall : es.take i = es := List.take_of_length_le (by rw [HN.out]; exact Nat.le_refl _)
      rw [hall] at ho
      have HO2 := Lib.hid ho
      clear ho hf hall
      go_wp2
      go_ret
      exact ⟨_, rfl, HO2.out, HFF.out⟩
theorem refOfAny_calls (kind : Int) (T : Option Addr) (tn tc : Nat) (ls : List Int) (FT : Nat → Prop) (u : Value) (es : List Ev) (G : Nat → Prop) (w : World) (hu : EvsAt w G u es) (hs : es.length ≤ 20000) (hls : Flat w FT T tn ls) (ht : tn ≤ 20000) :
    Calls Try.prog 19 #[.int .i64 kind, .slice T tn tc, u] w fun e w' => ∃ v', e = .returned v' ∧ EvsOwn 33 w.heap.size w' (fun k => k < w.heap.size ∧ G k) v' (es.filter (·.keeps kind ls)) ∧ Fr (fun _ => False) w w' := by
  by_cases h : tn = 0
  · subst h
    obtain rfl : ls = [] := List.length_eq_zero_iff.1 hls.len
    exact refOfNil_calls kind T tc u es G w hu hs
  · exact refOfThr_calls kind T tn tc ls FT u es G w hu hs hls ht h
end Go.Proofs.Ythlanmibfnaoiaa
