/- ltkref20.Ahead; ltkref11.Of, ltkref20.Commits. -/
import Derived.Test.YtkaokhpaabfhmaaJA2
namespace Go.Proofs.Ytkaokhpaabfhmaa
open Go.RowKit


set_option maxRecDepth 100000 in
set_option maxHeartbeats 8000000 in
theorem refAhead_calls (u : Value) (es : List Ev) (G : Nat → Prop) (w : World) (hu : EvsAt w G u es) (hs : es.length ≤ 20000) :
    Calls Try.prog 14 #[u] w fun e w' => e = .returned (.bool (aheadB es)) ∧ Fr (fun _ => False) w w' := by
  obtain ⟨r, hr⟩ : ∃ r, r = aheadB es := ⟨_, rfl⟩
  rw [← hr]
  have HR := Lib.hid hr
  clear hr
  obtain ⟨A, c, cs, rfl, hc, _, _, hcs, hrow⟩ := id hu.ex
  have HCS := Lib.hid hcs
  have HROW := Lib.hid hrow
  clear hcs hrow hu
  generalize hn : es.length = n at *
  have HN := Lib.hid hn
  clear hn
  go_enter Try.func14, Try.ntmps14
  go_wp2
  go_loopw [3, 4] (fun v3 _ wr => ∃ i : Nat, i ≤ n ∧ v3 = .int .i64 i ∧ (∀ j, j < i → okAt es j = true) ∧ Fr (fun _ => False) w wr) (fun v3 _ _ => n - (intOf v3).toNat)
  case atStart => exact ⟨0, Nat.zero_le _, rfl, fun j hj => absurd hj (Nat.not_lt_zero _), Fr.refl _ _⟩
  case round =>
    obtain ⟨i, hi, rfl, hok, hf⟩ := hrel
    have HOK := Lib.hid hok
    have HF := Lib.hid hf
    clear hok hf
    by_cases hlt : i < n
    · obtain ⟨ad, rfl, _, h1⟩ := HCS.out (by omega)
      obtain ⟨A1, n1, c1, A2, n2, c2, A3, n3, c3, hra, _⟩ := HROW.out i hlt
      have HCE := Lib.hid (fun w' (hf : Fr (fun _ => False) w w') t u (ht : cs[t]? = some u) => hf.cell (h1 t u ht) (fun x => x))
      obtain ⟨p0, p1, p2, p3, p4, p5, p6, p7, p8, p9⟩ := row_cells (HCE.out _ HF.out) hra
      have HOI := Lib.hid (show okAt es i = _ from rfl)
      have HX := Lib.hid (show es.getD i default = es.getD i default from rfl)
      obtain ⟨x, hx⟩ : ∃ x, es.getD i default = x := ⟨_, rfl⟩
      have HXX := Lib.hid hx
      rw [hx] at p0 p1 p2 p3 p4 p5 p6
      have HFA := Lib.hid HF.out
      have hcl := fun w' (hf : Fr (fun _ => False) wr w') => row_cells (HCE.out w' (HF.out.trans hf)) hra
      rw [hx] at hcl
      have HB := Lib.hid hcl
      clear hx hra h1 HX hcl
      have hm : ¬ n ≤ i := by omega
      by_cases hk2 : x.k = 2
      · have hkd : (x.k != 2) = false := by simp [hk2]
        have HK2 := Lib.hid hk2
        clear hk2
        go_wp2
        generalize wr = w1 at *
        clear p0 p1 p2 p3 p4 p5 p6 p7 p8 p9
        have hw : IntKind.i64.wrap ((i : Int) - 1) = (i : Int) - 1 := by rw [IntKind.wrap_i64]; omega
        have HFAX := Lib.hid (show Fr (fun _ => False) w w1 from HFA.out)
        go_loopw [4] (fun v5 wq => ∃ (m : Nat) (k : Int), m ≤ i ∧ k = m - 1 ∧ v5 = .int .i64 k ∧ backK es x.th m = backK es x.th i ∧ Fr (fun _ => False) w1 wq) (fun v5 _ => (intOf v5 + 1).toNat)
        case atStart => exact ⟨i, (i : Int) - 1, Nat.le_refl _, rfl, by first | rfl | (simp [hw]; done) | go_num, rfl, Fr.refl _ _⟩
        case round =>
          obtain ⟨m, k, hmi, hk, rfl, hbk, hf2⟩ := hrel
          have HF2 := Lib.hid hf2
          have HBK := Lib.hid hbk
          obtain ⟨b0, b1, b2, b3, b4, b5, b6, b7, b8, b9⟩ := HB.out _ hf2
          clear hbk hf2
          rcases Nat.eq_zero_or_pos m with rfl | hm0
          · obtain rfl : k = -1 := by omega
            clear hk
            have HB0 := Lib.hid (show backK es x.th i = -1 from HBK.out.symm)
            go_wp2
            go_quiet (fail)
            go_wp2
            go_quiet (fail)
            go_wp2
            go_ret
            exact ⟨by first | (rw [HR.out, aheadB_false (i := i) (by rw [HN.out]; exact hlt) (by unfold okAt; rw [HXX.out, hkd, HB0.out]; rfl)]; done) | (rw [HR.out, aheadB_false (i := i) (by rw [HN.out]; exact hlt) (by unfold okAt; rw [HXX.out, hkd, HB0.out]; rfl)]; rfl), HFA.out.trans ((HF2.out.drewN _).drewN _)⟩
          · obtain ⟨t, rfl⟩ : ∃ t, m = t + 1 := ⟨m - 1, by omega⟩
            obtain rfl : k = (t : Int) := by omega
            clear hk
            have hti : t < n := by omega
            have htn : ¬ n ≤ t := by omega
            have e0 : decide ((t : Int) < 0) = false := by simp
            have e00 : decide ((0 : Int) ≤ (t : Int)) = true := by simp
            obtain ⟨D1, m1, d1, D2, m2, d2, D3, m3, d3, hrb, _⟩ := HROW.out t hti
            obtain ⟨y0, y1, y2, y3, y4, y5, y6, y7, y8, y9⟩ := row_cells (HCE.out _ (HFA.out.trans HF2.out)) hrb
            have HSK := Lib.hid (show backK es x.th (t + 1) = if skipB es x.th t then backK es x.th t else t from rfl)
            have HSB := Lib.hid (show skipB es x.th t = ((es.getD t default).th != x.th || (es.getD t default).k == 5) from rfl)
            obtain ⟨y, hy⟩ : ∃ y, es.getD t default = y := ⟨_, rfl⟩
            have HYY := Lib.hid hy
            rw [hy] at y0 y1 y2 y3 y4 y5 y6 HSB
            clear hy hrb
            have hw2 : IntKind.i64.wrap ((t : Int) - 1) = (t : Int) - 1 := by rw [IntKind.wrap_i64]; omega
            have hcase : (y.th != x.th) = true ∨ ((y.th != x.th) = false ∧ (y.k == 5) = true) ∨ ((y.th != x.th) = false ∧ (y.k == 5) = false) := by cases (y.th != x.th) <;> cases (y.k == 5) <;> simp
            rcases hcase with e1 | ⟨e1, e2⟩ | ⟨e1, e2⟩
            · have HS1 := Lib.hid (show backK es x.th t = backK es x.th i from by
                rw [← HBK.out, HSK.out, HSB.out]; rw [e1]; rfl)
              go_wp2
              go_quiet (fail)
              go_wp2
              go_roundw
              case rel => exact ⟨t, (t : Int) - 1, by omega, rfl, by first | rfl | (simp [hw2]; done) | go_num, HS1.out, HF2.out.drewN _⟩
              case measure => simp [intOf]
            · have HS1 := Lib.hid (show backK es x.th t = backK es x.th i from by
                rw [← HBK.out, HSK.out, HSB.out]; rw [e1, e2]; rfl)
              go_wp2
              go_quiet (fail)
              go_wp2
              go_roundw
              case rel => exact ⟨t, (t : Int) - 1, by omega, rfl, by first | rfl | (simp [hw2]; done) | go_num, HS1.out, HF2.out.drewN _⟩
              case measure => simp [intOf]
            · have HS1 := Lib.hid (show backK es x.th i = (t : Int) from by
                rw [← HBK.out, HSK.out, HSB.out]; rw [e1, e2]; rfl)
              have HTD := Lib.hid (show okAt es i = begins y x from by
                unfold okAt
                rw [HXX.out, hkd, HS1.out, show decide ((t : Int) < 0) = false by simp, Int.toNat_natCast, HYY.out]; rfl)
              have hc2 : (y.k != 1) = true ∨ ((y.k != 1) = false ∧ (y.pr != x.pr) = true) ∨ ((y.k != 1) = false ∧ (y.pr != x.pr) = false ∧ (y.tr != x.tr) = true) ∨ ((y.k != 1) = false ∧ (y.pr != x.pr) = false ∧ (y.tr != x.tr) = false) := by cases (y.k != 1) <;> cases (y.pr != x.pr) <;> cases (y.tr != x.tr) <;> simp
              rcases hc2 with g1 | ⟨g1, g2⟩ | ⟨g1, g2, g3⟩ | ⟨g1, g2, g3⟩
              · have g1b : (y.k == 1) = false := by simpa using g1
                go_wp2
                go_quiet (fail)
                go_wp2
                go_quiet (fail)
                go_wp2
                go_ret
                exact ⟨by first | (rw [HR.out, aheadB_false (i := i) (by rw [HN.out]; exact hlt) (by rw [HTD.out]; unfold begins; simp at g1; simp [g1])]; done) | (rw [HR.out, aheadB_false (i := i) (by rw [HN.out]; exact hlt) (by rw [HTD.out]; unfold begins; simp at g1; simp [g1])]; rfl), HFA.out.trans ((HF2.out.drewN _).drewN _)⟩
              · have g2b : (y.pr == x.pr) = false := by simpa using g2
                go_wp2
                go_quiet (fail)
                go_wp2
                go_quiet (fail)
                go_wp2
                go_ret
                exact ⟨by first | (rw [HR.out, aheadB_false (i := i) (by rw [HN.out]; exact hlt) (by rw [HTD.out]; unfold begins; simp at g2; simp [g2])]; done) | (rw [HR.out, aheadB_false (i := i) (by rw [HN.out]; exact hlt) (by rw [HTD.out]; unfold begins; simp at g2; simp [g2])]; rfl), HFA.out.trans ((HF2.out.drewN _).drewN _)⟩
              · go_wp2
                go_quiet (fail)
                go_wp2
                go_quiet (fail)
                go_wp2
                go_ret
                exact ⟨by first | (rw [HR.out, aheadB_false (i := i) (by rw [HN.out]; exact hlt) (by rw [HTD.out]; unfold begins; simp at g3; simp [g3])]; done) | (rw [HR.out, aheadB_false (i := i) (by rw [HN.out]; exact hlt) (by rw [HTD.out]; unfold begins; simp at g3; simp [g3])]; rfl), HFA.out.trans ((HF2.out.drewN _).drewN _)⟩
              · have HTT := Lib.hid (show okAt es i = true from by rw [HTD.out]; unfold begins; simp at g1 g2 g3; simp [g1, g2, g3])
                go_wp2
                go_quiet (fail)
                go_wp2
                go_quiet (fail)
                go_wp2
                go_roundw
                case rel => exact ⟨i + 1, by omega, by go_num, fun j hj => by
                  rcases Nat.lt_succ_iff_lt_or_eq.1 hj with h | rfl
                  · exact HOK.out j h
                  · exact HTT.out, HFA.out.trans (HF2.out.drewN _)⟩
                case measure => simp [intOf]; omega
      · have hkd : (x.k != 2) = true := by simpa using hk2
        have HKK := Lib.hid (show okAt es i = true by unfold okAt; rw [HXX.out, hkd]; rfl)
        clear hk2
        go_wp2
        go_roundw
        case rel => exact ⟨i + 1, by omega, by go_num, fun j hj => by
          rcases Nat.lt_succ_iff_lt_or_eq.1 hj with h | rfl
          · exact HOK.out j h
          · exact HKK.out, HFA.out⟩
        case measure => simp [intOf]; omega
    · obtain rfl : i = n := by omega
      go_wp2
      go_ret
      exact ⟨by first | (rw [HR.out, aheadB_true (fun j hj => HOK.out j (by rw [HN.out] at hj; exact hj))]; done) | (rw [HR.out, aheadB_true (fun j hj => HOK.out j (by rw [HN.out] at hj; exact hj))]; rfl), HF.out⟩



def Keep2 (e : Ev) : Bool := e.keeps 2 []
theorem keep2_iff (e : Ev) : Keep2 e = (e.k == 2) := by unfold Keep2 Ev.keeps; simp
set_option maxRecDepth 100000 in
set_option maxHeartbeats 4000000 in
theorem refOf_calls (u : Value) (es : List Ev) (G : Nat → Prop) (w : World) (hu : EvsAt w G u es) (hs : es.length ≤ 20000) :
    Calls Try.prog 32 #[.int .i64 2, .slice none 0 0, u] w fun e w' => ∃ v', e = .returned v' ∧ EvsOwn 50 w.heap.size w' (fun k => k < w.heap.size ∧ G k) v' (es.filter Keep2) ∧ Fr (fun _ => False) w w' := by
  obtain ⟨A, c, cs, rfl, hc, _, _, hcs, hrow⟩ := id (hu.mono (G := fun k => k < w.heap.size ∧ G k) (fun k hk x => ⟨hk, x⟩)).ex
  have HCS := Lib.hid hcs
  have HROW := Lib.hid hrow
  clear hcs hrow hu
  generalize hn : es.length = n at *
  have HN := Lib.hid hn
  clear hn
  go_enter Try.func32, Try.ntmps32
  go_wp2
  go_loopw [7, 8] (fun v7 v8 wr => ∃ i : Nat, i ≤ n ∧ v8 = .int .i64 i ∧ EvsOwn 50 w.heap.size wr (fun k => k < w.heap.size ∧ G k) v7 ((es.take i).filter Keep2) ∧ Fr (fun k => w.heap.size ≤ k) w wr) (fun _ v8 _ => n - (intOf v8).toNat)
  case atStart => exact ⟨0, Nat.zero_le _, rfl, ⟨[], World.ownsRow_nil _ _ _ _, fun i hi => absurd hi (Nat.not_lt_zero _)⟩, Fr.refl _ _⟩
  case round =>
    obtain ⟨i, hi, rfl, ho, hf⟩ := hrel
    have HO := Lib.hid ho
    have HF := Lib.hid hf
    have hsz := hf.size
    have HFF := Lib.hid hf.fresh'
    by_cases hlt : i < n
    · obtain ⟨ad, rfl, hG, h1⟩ := HCS.out (by omega)
      obtain ⟨A1, n1, c1, A2, n2, c2, A3, n3, c3, hra, hlie⟩ := HROW.out i hlt
      obtain ⟨p0, p1, p2, p3, p4, p5, p6, p7, p8, p9⟩ := row_cells (fun t u htt => HFF.out.cell (h1 t u htt) (fun x => x)) hra
      have HT1 := Lib.hid (show es.take (i + 1) = es.take i ++ [es.getD i default] by rw [List.take_add_one, List.getElem?_eq_getElem (by rw [HN.out]; exact hlt), List.getD_eq_getElem?_getD, List.getElem?_eq_getElem (by rw [HN.out]; exact hlt)]; rfl)
      generalize es.getD i default = x at *
      have HLIE := Lib.hid hlie
      have hm : ¬ n ≤ i := by omega
      clear h1 hra hlie ho hf
      have hcase : (x.k == 2) = true ∨ (x.k == 2) = false := by cases (x.k == 2) <;> simp
      rcases hcase with e1 | e1
      · have HKT := Lib.hid (show (es.take (i + 1)).filter Keep2 = (es.take i).filter Keep2 ++ [x] by
          rw [HT1.out, List.filter_append, List.filter_cons_of_pos (by rw [keep2_iff]; exact e1), List.filter_nil])
        have HLQ := Lib.hid (show ((es.take i).filter Keep2).length + 1 ≤ 1000000 from by have h1 := List.length_filter_le Keep2 (es.take i); rw [List.length_take, HN.out] at h1; omega)
        obtain ⟨xs, hown, hrows⟩ := HO.out
        have HOA := Lib.hid (ownsRow_frame hown ((Fr.refl (fun _ => False) wr).alloc (.cells #[.int .i64 x.k, .int .i64 x.th, .int .i64 x.pr, .int .i64 x.tr, .int .i64 x.ti, .int .i64 x.st, .int .i64 x.ca, .slice A1 n1 c1, .slice A2 n2 c2, .slice A3 n3 c3] 50)) (fun _ _ x => x))
        have HRW := Lib.hid hrows
        have HXL := Lib.hid hown.1
        clear hown hrows
        go_wp2_with (at_builtin; refine append_evs _ rfl _ _ rfl w.heap.size _ _ xs rfl HOA.out (some ⟨wr.heap.size, 0, none⟩) 1 1 (x.cells (.slice A1 n1 c1) (.slice A2 n2 c2) (.slice A3 n3 c3)) rfl rfl (fun h => by cases h) (Nat.le_refl _) ?qc ?qo HLQ.out ?qb ?_)
        case qc => exact fun _ => ⟨_, rfl, fun j u hj => by
          have h1 : (Addr.mk wr.heap.size 0 none).add j = ⟨wr.heap.size, j, none⟩ := by unfold Addr.add; split <;> simp_all
          rw [h1, blk_cell (heap_alloc_new wr _), ← hj]
          unfold Ev.cells
          simp⟩
        case qo =>
          intro u hu
          unfold Ev.cells at hu
          simp only [List.mem_cons, List.not_mem_nil, or_false] at hu
          rcases hu with rfl | rfl | rfl | rfl | rfl | rfl | rfl | rfl | rfl | rfl <;> rfl
        case qb => simp; omega
        intro v7 w5 ho5 hf5
        have HO5 := Lib.hid ho5
        have HG5 := Lib.hid (show Fr (fun k => w.heap.size ≤ k) wr w5 from ((Fr.refl (fun k => w.heap.size ≤ k) wr).alloc _).trans (hf5.mono (fun k hk => (World.ownsRow.lt HOA.out k hk).1)))
        clear ho5 hf5
        go_wp2
        go_roundw
        case rel =>
          refine ⟨i + 1, by omega, by go_num, ?_, HF.out.trans HG5.out⟩
          rw [HKT.out]
          refine ⟨xs ++ x.cells (.slice A1 n1 c1) (.slice A2 n2 c2) (.slice A3 n3 c3), by rw [List.length_append]; exact HO5.out, fun j hj => ?_⟩
          rw [List.length_append] at hj
          have hj' : j < ((es.take i).filter Keep2).length + 1 := hj
          by_cases hjl : j < ((es.take i).filter Keep2).length
          · rw [getD_append_left hjl]
            exact EvRow.ahead ((HRW.out j hjl).frame HG5.out (fun k a b => by omega)) HXL.out hjl
          · obtain rfl : j = ((es.take i).filter Keep2).length := by omega
            rw [getD_append_last]
            refine EvRow.shift (i := 0) ⟨A1, n1, c1, A2, n2, c2, A3, n3, c3, fun t ht => ?_, ?_⟩ HXL.out rfl
            · rw [Nat.zero_mul, Nat.zero_add]
            · exact HLIE.out.frame (HF.out.trans HG5.out) (fun k a b => by omega)
        case measure => simp [intOf]; omega
      · have HKT := Lib.hid (show (es.take (i + 1)).filter Keep2 = (es.take i).filter Keep2 by
          rw [HT1.out, List.filter_append, List.filter_cons_of_neg (by rw [keep2_iff, e1]; decide), List.filter_nil, List.append_nil])
        go_wp2
        go_roundw
        case rel => exact ⟨i + 1, by omega, by go_num, by rw [HKT.out]; exact HO.out, HF.out⟩
        case measure => simp [intOf]; omega
    · obtain rfl : i = n := by omega
      have hall : es.take i = es := List.take_of_length_le (by rw [HN.out]; exact Nat.le_refl _)
      rw [hall] at ho
      have HO2 := Lib.hid ho
      clear ho hf hall
      go_wp2
      go_ret
      exact ⟨_, rfl, HO2.out, HFF.out⟩
set_option maxRecDepth 100000 in
theorem refCommits_calls (u : Value) (es : List Ev) (G : Nat → Prop) (w : World) (hu : EvsAt w G u es) (hs : es.length ≤ 20000) :
    Calls Try.prog 17 #[u] w fun e w' => ∃ v', e = .returned v' ∧ EvsOwn 50 w.heap.size w' (fun k => k < w.heap.size ∧ G k) v' (es.filter Keep2) ∧ Fr (fun _ => False) w w' := by
  have HO := Lib.hid (refOf_calls u es G w hu hs)
  obtain ⟨A, c, cs, rfl, _⟩ := id hu.ex
  clear hu
  go_enter Try.func17, Try.ntmps17
  go_wp2_with (go_at_call 32; (with_reducible refine HO.out.mono ?_); rintro ex w1 ⟨v1, rfl, ho1, hf1⟩)
  go_ret
  exact ⟨_, rfl, ho1, hf1⟩
end Go.Proofs.Ytkaokhpaabfhmaa
