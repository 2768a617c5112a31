/- The document's log: ltkref11.NewLog, Push, Pop. -/
import Derived.Test.YtoickikfojpgaaaUE
import Derived.Test.YtoickikfojpgaaaUL
namespace Go.Proofs.Ytoickikfojpgaaa
open Go.RowKit

/-- The document's log in a world. -/
structure RLogAt (w : World) (lb : Nat) (v : Value) (xs : List Acc) (most : Int) : Prop where
  blk : w.heap[lb]? = some (.cells #[.int .i64 most, v] 45 (0, 0))
  row : OwnAcc w 0 v xs
  m1 : 1 ≤ most
  m2 : most ≤ 1000
  le : (xs.length : Int) ≤ most
theorem RLogAt.frame {w w' : World} {S : Nat → Prop} {lb : Nat} {v : Value} {xs : List Acc} {most : Int} (h : RLogAt w lb v xs most) (hf : Fr S w w') (h1 : ¬ S lb) (h2 : ∀ g, v.ownBlock = some g → ¬ S g) : RLogAt w' lb v xs most :=
  ⟨hf.heap h.blk h1, h.row.frame hf h2, h.m1, h.m2, h.le⟩
theorem RLogAt.frameF {w w' : World} {lb : Nat} {v : Value} {xs : List Acc} {most : Int} (h : RLogAt w lb v xs most) (hf : Fr (fun _ => False) w w') : RLogAt w' lb v xs most := h.frame hf (fun x => x) (fun _ _ x => x)
theorem RLogAt.ne {w : World} {lb : Nat} {v : Value} {xs : List Acc} {most : Int} (h : RLogAt w lb v xs most) : v.ownBlock ≠ some lb := fun e => by
  obtain ⟨cur, hc⟩ := row_own h.row e
  rw [h.blk] at hc
  injection hc with hc
  injection hc with _ hc
  revert hc; decide
set_option maxRecDepth 100000 in
theorem rnew_calls (most : Int) (w : World) (h1 : 1 ≤ most) (h2 : most ≤ 1000) : Calls Try.prog 13 #[.int .i64 most] w fun e w' => e = .returned (.tuple #[.pointer (some ⟨w.heap.size, 0, none⟩), .int .i64 0]) ∧ RLogAt w' w.heap.size (.slice none 0 0) [] most ∧ Fr (fun _ => False) w w' := by
  go_enter Try.func13, Try.ntmps13
  go_wp2
  go_ret2
  exact ⟨rfl, ⟨heap_alloc_new w _, World.ownsRow_nil _ _ _ _, by omega, h2, by show (0 : Int) ≤ most; omega⟩, (Fr.refl _ _).alloc _⟩
theorem rbad_calls (most : Int) (w : World) (h : most < 1 ∨ 1000 < most) : Calls Try.prog 13 #[.int .i64 most] w fun e w' => e = .returned (.tuple #[.pointer none, .int .i64 1]) ∧ w' = w := by
  go_enter Try.func13, Try.ntmps13
  go_wp2
  all_goals go_ret2
  all_goals exact ⟨rfl, rfl⟩
set_option maxRecDepth 100000 in
theorem rpush_calls (lb : Nat) (v : Value) (xs : List Acc) (most : Int) (x : Acc) (w : World) (h : RLogAt w lb v xs most) (hlt : (xs.length : Int) < most) : Calls Try.prog 14 #[.pointer (some ⟨lb, 0, none⟩), .int .i64 x.1.1, .int .i64 x.1.2] w fun e w' =>
    e = .returned (.int .i64 0) ∧ ∃ v', RLogAt w' lb v' (xs ++ [x]) most ∧ (v'.ownBlock = v.ownBlock ∨ ∃ g, v'.ownBlock = some g ∧ w.heap.size ≤ g) ∧ Fr (LB lb v) w w' := by
  have hne := h.ne
  have HH := Lib.hid h
  have hle : xs.length ≤ 1000 := by have := h.m2; have := h.le; omega
  obtain ⟨A, cap, hv, _⟩ := h.row.shape
  subst hv
  have c0 := blk_cell h.blk 0
  have c1 := blk_cell h.blk 1
  simp only [List.getElem?_toArray, List.getElem?_cons_zero, List.getElem?_cons_succ] at c0 c1
  clear h
  have hg : decide (most ≤ (xs.length : Int)) = false := by simp; omega
  go_enter Try.func14, Try.ntmps14
  go_wp2
  go_quiet (fail)
  generalize hW1 : w.drewN nq = w1
  have hf1 : Fr (fun _ => False) w w1 := by rw [← hW1]; exact (Fr.refl _ _).drewN _
  have h1 := HH.out.frameF hf1
  have c1 := blk_cell h1.blk 1
  simp only [List.getElem?_toArray, List.getElem?_cons_zero, List.getElem?_cons_succ] at c1
  clear hW1 c0
  go_wp2_with (at_builtin; refine append_acc _ rfl _ _ rfl 0 (.slice A xs.length cap) xs.length _ rfl (h1.row.alloc _) w1.heap.size x.1.1 x.1.2 rfl (heap_alloc_new w1 _) (by omega) (by omega) ?_; intro v' w2 hown2 hfr2 hc2 hsh2; obtain ⟨g2, cap2, rfl⟩ := hsh2; have hb2 := hfr2.heap (blk_alloc h1.blk _) hne; have c2 := blk_cell hb2 1; have f2 := blk_free hb2 1; simp only [List.getElem?_toArray, List.getElem?_cons_zero, List.getElem?_cons_succ] at c2)
  go_ret
  have hsz := hf1.size
  refine ⟨rfl, _, ⟨by rw [blk_set hb2]; rfl, ?_, HH.out.m1, HH.out.m2, by rw [List.length_append]; show ((xs.length + 1 : Nat) : Int) ≤ most; omega⟩, ?_, ?_⟩
  · refine OwnAcc.frame (w := w2) (S := fun k => k = lb) ?_ ((Fr.refl (fun k => k = lb) w2).setCell (.inl rfl) _) (fun g hg e => ?_)
    · unfold OwnAcc
      rw [List.length_append, accInts_append, List.map_append]; exact hown2
    · obtain ⟨cur, hcu⟩ := row_own hown2 hg
      subst e
      rw [hb2] at hcu
      injection hcu with hcu
      injection hcu with _ hcu
      revert hcu; decide
  · rcases hc2 with e | e
    · exact .inl e
    · exact .inr ⟨_, e, by simp; omega⟩
  · exact (((hf1.alloc _).mono (fun _ x => x.elim)).trans (hfr2.mono (fun k e => .inr e))).setCell (.inl (.inl rfl)) _
set_option maxRecDepth 100000 in
theorem rfull_calls (lb : Nat) (v : Value) (xs : List Acc) (most : Int) (a u : Int) (w : World) (h : RLogAt w lb v xs most) (hlt : (xs.length : Int) = most) : Calls Try.prog 14 #[.pointer (some ⟨lb, 0, none⟩), .int .i64 a, .int .i64 u] w fun e w' => e = .returned (.int .i64 10) ∧ Fr (fun _ => False) w w' := by
  obtain ⟨A, cap, hv, _⟩ := h.row.shape
  subst hv
  have c0 := blk_cell h.blk 0
  have c1 := blk_cell h.blk 1
  simp only [List.getElem?_toArray, List.getElem?_cons_zero, List.getElem?_cons_succ] at c0 c1
  clear h
  have hg : decide (most ≤ (xs.length : Int)) = true := by simp; omega
  clear hlt
  go_enter Try.func14, Try.ntmps14
  go_wp2
  go_quiet (fail)
  go_wp2
  go_ret
  exact ⟨rfl, (Fr.refl _ _).drewN _⟩
theorem wpl_own {ops : Array Oper} {rest : List Oper} {o : Oper} {a : Act} {Q : Exit → Act → World → Prop} (w : World) (hgd : o.guard = none) (s x : Operand)
    (ho : o.op = .call { callee := .builtin .append, args := #[s, x], argTypes := #[31, 31] }) (B : Nat) (v : Value) (L : List Acc) (hs : a.eval s = v) (A : Option Addr) (m c : Nat) (M : List Acc) (F : Nat → Prop) (hx : a.eval x = .slice A m c) (n' : Nat) (Z : List Acc)
    (hz : M.length = m ∧ L.length + m = n' ∧ L ++ M = Z ∧ L.length + m ≤ 100000) (hown : OwnAcc w B v L) (hf : Flat w F A (m * 2) (accInts M)) (hB : B ≤ w.heap.size)
    (h : ∀ A' c' w', OwnAcc w' B (.slice A' n' c') Z → Fr (fun k => v.ownBlock = some k) w w' → wpList Try.prog ops Q rest (a.put o.dst (.slice A' n' c')) w') : wpList Try.prog ops Q (o :: rest) a w :=
  wpList_plain hgd fun _ hK => by
    obtain ⟨hm, rfl, rfl, hn⟩ := hz
    obtain ⟨A', c', w', hr, h2, h3⟩ := own_run w o.type B v L hown A m c M F hm hf hn hB
    unfold Oper.wp execOp
    simp only [ho, resolve, invoke, builtin, Sem.run_bind, Sem.run_pure, Result.andThen_ok, List.map_toArray, List.map_cons, List.map_nil, hs, hx, hr]
    exact hK _ _ (h A' c' w' h2 h3)
set_option maxRecDepth 100000 in
theorem rpop_calls (lb : Nat) (v : Value) (ys : List Acc) (x : Acc) (most : Int) (w : World) (h : RLogAt w lb v (ys ++ [x]) most) : Calls Try.prog 15 #[.pointer (some ⟨lb, 0, none⟩)] w fun e w' =>
    e = .returned (.tuple #[.agg #[.int .i64 x.1.1, .int .i64 x.1.2], .bool true]) ∧ ∃ v', RLogAt w' lb v' ys most ∧ (∀ g, v'.ownBlock = some g → w.heap.size ≤ g) ∧ Fr (fun k => k = lb) w w' := by
  have hne := h.ne
  have HH := Lib.hid h
  obtain ⟨A, cap, hv, hcap⟩ := h.row.shape
  subst hv
  have hfl := h.row.flat.2
  obtain ⟨ad, rfl, hgl, hc⟩ := hfl.at_ (by simp)
  have hAB : ∃ g, ad = ⟨g, 0, none⟩ := by
    rcases h.row.2 with ⟨h1, _⟩ | ⟨g, _, _, h1, _, _, h2, _⟩
    · cases h1
    · cases h1; exact ⟨g, rfl⟩
  obtain ⟨g, rfl⟩ := hAB
  have q0 := hc (ys.length * 2) (by simp)
  have q1 := hc (ys.length * 2 + 1) (by simp; omega)
  have hg := accInts_get (ys ++ [x]) ys.length (by simp)
  rw [hg.1] at q0
  rw [hg.2] at q1
  have hgx : (ys ++ [x]).getD ys.length acc0 = x := by simp
  rw [hgx, add0] at q0 q1
  have hft := flat_take hfl (k := ys.length) (by simp)
  rw [List.take_left] at hft
  rw [show (ys ++ [x]).length = ys.length + 1 by simp] at hne hcap HH
  have HFT := Lib.hid (fun cur (hf : Fr (fun _ => False) w cur) => hft.frame hf (fun _ _ x => x.elim))
  have hW1 : Fr (fun _ => False) w (w.alloc (.cells #[.int .i64 0, .int .i64 0] 34)) := (Fr.refl _ _).alloc _
  have k0 := hW1.cell q0 (fun x => x)
  have k1 := hW1.cell q1 (fun x => x)
  have b1 := hW1.heap h.blk (fun x => x)
  have hW3 := (hW1.alloc (.cells #[.int .i64 x.1.1, .int .i64 x.1.2] 34)).alloc (.cells #[] 34)
  have b3 := hW3.heap h.blk (fun x => x)
  have c1 := blk_cell b1 1
  have c3 := blk_cell b3 1
  simp only [List.getElem?_toArray, List.getElem?_cons_zero, List.getElem?_cons_succ, List.length_append, List.length_cons, List.length_nil, Nat.zero_add] at c1 c3
  have HZ := Lib.hid (show ys.length = ys.length ∧ ([] : List Acc).length + ys.length = ys.length ∧ [] ++ ys = ys ∧ ([] : List Acc).length + ys.length ≤ 100000 from ⟨rfl, by simp, rfl, by have := h.m2; have := h.le; simp only [List.length_append, List.length_cons, List.length_nil] at *; omega⟩)
  have HM := Lib.hid (show OwnAcc (((w.alloc (.cells #[.int .i64 0, .int .i64 0] 34)).alloc (.cells #[.int .i64 x.1.1, .int .i64 x.1.2] 34)).alloc (.cells #[] 34)) (w.heap.size + 1 + 1) (.slice (some ⟨w.heap.size + 1 + 1, 0, none⟩) 0 0) [] from OwnAcc.made' _ _ (by simp) (by simp))
  have HX := Lib.hid (show (((w.alloc (.cells #[.int .i64 0, .int .i64 0] 34)).alloc (.cells #[.int .i64 x.1.1, .int .i64 x.1.2] 34)).alloc (.cells #[] 34)).heap[w.heap.size + 1]? = some (.cells #[.int .i64 x.1.1, .int .i64 x.1.2] 34 (0, 0)) from blk_alloc (blk_new (by simp)) _)
  have HR := Lib.hid (show (((w.alloc (.cells #[.int .i64 0, .int .i64 0] 34)).alloc (.cells #[.int .i64 x.1.1, .int .i64 x.1.2] 34)).alloc (.cells #[] 34)).heap[w.heap.size]? = some (.cells #[.int .i64 0, .int .i64 0] 34 (0, 0)) from blk_alloc (blk_alloc (blk_new rfl) _) _)
  have HB3 := Lib.hid b3
  have HW3 := Lib.hid hW3
  clear b1 b3 hW3
  have hle : ys.length ≤ 1000 := by have := h.m2; have := h.le; simp only [List.length_append, List.length_cons, List.length_nil] at this; omega
  have hlw := blk_lt h.blk
  have hcap2 : ys.length ≤ cap := by omega
  clear hc hfl hg hgx q0 q1 h hft
  go_enter Try.func15, Try.ntmps15
  go_wp2_with (at_builtin; refine wpl_own _ rfl _ _ rfl (w.heap.size + 1 + 1) (.slice (some ⟨w.heap.size + 1 + 1, 0, none⟩) 0 0) [] rfl (some ⟨g, 0, none⟩) ys.length cap ys _ rfl ys.length ys HZ.out HM.out (HFT.out _ HW3.out) (by simp; try omega) ?_; intro A2 c2 w2 ho2 hf2; have hb2 := hf2.heap HB3.out (by simp [Value.ownBlock]; omega); have hx2 := hf2.heap HX.out (by simp [Value.ownBlock]); have hr2 := hf2.heap HR.out (by simp [Value.ownBlock]; try omega); have z2 := blk_free hb2 1; have e1 := blk_cell hb2 1; have x0 := blk_cell hx2 0; have x1 := blk_cell hx2 1; have r0 := blk_cell hr2 0; have r1 := blk_cell hr2 1; have zr0 := blk_free hr2 0; have zr1 := blk_free hr2 1; simp only [List.getElem?_toArray, List.getElem?_cons_zero, List.getElem?_cons_succ] at e1 x0 x1 r0 r1)
  have hlr : ¬ lb = w.heap.size := by omega
  have hn1 : (w2.setCell ⟨lb, 1, none⟩ (.slice A2 ys.length c2)).heap[w.heap.size]? = some (.cells #[.int .i64 0, .int .i64 0] 34 (0, 0)) := ((Fr.refl (fun k => k = lb) w2).setCell (.inl rfl) _).heap hr2 (fun e => hlr e.symm)
  have hf5 : Fr (fun k => k = lb) w (((w2.setCell ⟨lb, 1, none⟩ (.slice A2 ys.length c2)).setCell ⟨w.heap.size, 0, none⟩ (.int .i64 x.1.1)).setCell ⟨w.heap.size, 1, none⟩ (.int .i64 x.1.2)) := by
    have h1 : Fr (fun _ => False) w w2 := Fr.trans' HW3.out hf2 (by simp [Value.ownBlock]; omega)
    have h2 : Fr (fun k => k = lb) w w2 := h1.mono (fun _ x => x.elim)
    exact ((h2.setCell (p := ⟨lb, 1, none⟩) (.inl rfl) _).setCell (p := ⟨w.heap.size, 0, none⟩) (.inr (Nat.le_refl _)) _).setCell (p := ⟨w.heap.size, 1, none⟩) (.inr (Nat.le_refl _)) _
  have hb5 : (((w2.setCell ⟨lb, 1, none⟩ (.slice A2 ys.length c2)).setCell ⟨w.heap.size, 0, none⟩ (.int .i64 x.1.1)).setCell ⟨w.heap.size, 1, none⟩ (.int .i64 x.1.2)).heap[lb]? = some (.cells #[.int .i64 most, .slice A2 ys.length c2] 45 (0, 0)) := by
    have h1 : (w2.setCell ⟨lb, 1, none⟩ (.slice A2 ys.length c2)).heap[lb]? = some (.cells #[.int .i64 most, .slice A2 ys.length c2] 45 (0, 0)) := by rw [blk_set hb2]; rfl
    exact (((Fr.refl (fun k => k = w.heap.size) _).setCell (p := ⟨w.heap.size, 0, none⟩) (.inl rfl) _).setCell (p := ⟨w.heap.size, 1, none⟩) (.inl rfl) _).heap h1 hlr
  have hg5 : ∀ k, k = lb ∨ k = w.heap.size → (Value.slice A2 ys.length c2).ownBlock ≠ some k := by
    intro k hk e
    obtain ⟨cur, hcu⟩ := row_own ho2 e
    rcases hk with rfl | rfl
    · rw [hb2] at hcu
      injection hcu with hcu
      injection hcu with _ hcu
      revert hcu; decide
    · have := OwnAcc.lt ho2 _ e
      omega
  have ho5 : OwnAcc (((w2.setCell ⟨lb, 1, none⟩ (.slice A2 ys.length c2)).setCell ⟨w.heap.size, 0, none⟩ (.int .i64 x.1.1)).setCell ⟨w.heap.size, 1, none⟩ (.int .i64 x.1.2)) (w.heap.size + 1 + 1) (.slice A2 ys.length c2) ys :=
    ho2.frame (S := fun k => k = lb ∨ k = w.heap.size) ((((Fr.refl (fun k => k = lb ∨ k = w.heap.size) w2).setCell (p := ⟨lb, 1, none⟩) (.inl (.inl rfl)) _).setCell (p := ⟨w.heap.size, 0, none⟩) (.inl (.inr rfl)) _).setCell (p := ⟨w.heap.size, 1, none⟩) (.inl (.inr rfl)) _) (fun g hg hS => hg5 g hS hg)
  have hr5 := blk_set (blk_set hn1 0 (.int .i64 x.1.1)) 1 (.int .i64 x.1.2)
  generalize ((w2.setCell ⟨lb, 1, none⟩ (.slice A2 ys.length c2)).setCell ⟨w.heap.size, 0, none⟩ (.int .i64 x.1.1)).setCell ⟨w.heap.size, 1, none⟩ (.int .i64 x.1.2) = w5 at hf5 hb5 ho5 hr5 ⊢
  have s0 := blk_cell hr5 0
  have s1 := blk_cell hr5 1
  simp at s0 s1
  refine bodyPost_ret (by simp [results, Try.results15, go_sem, s0, s1]; try rfl) rfl ?_
  have hml := HH.out.le
  rw [List.length_append] at hml
  exact ⟨rfl, _, ⟨hb5, ho5.base (Nat.zero_le _), HH.out.m1, HH.out.m2, by omega⟩, fun g hg => by have := OwnAcc.lt ho5 g hg; omega, hf5⟩
set_option maxRecDepth 100000 in
theorem rnone_calls (lb : Nat) (v : Value) (most : Int) (w : World) (h : RLogAt w lb v [] most) : Calls Try.prog 15 #[.pointer (some ⟨lb, 0, none⟩)] w fun e w' =>
    e = .returned (.tuple #[.agg #[.int .i64 0, .int .i64 0], .bool false]) ∧ Fr (fun _ => False) w w' := by
  obtain ⟨A, cap, hv, _⟩ := h.row.shape
  subst hv
  have c0 := (blk_cell (blk_alloc h.blk (.cells #[.int .i64 0, .int .i64 0] 34)) 1)
  simp only [List.getElem?_toArray, List.getElem?_cons_zero, List.getElem?_cons_succ, List.length_nil] at c0
  clear h
  go_enter Try.func15, Try.ntmps15
  go_wp2
  have r0 := blk_cell (heap_alloc_new w (.cells #[.int .i64 0, .int .i64 0] 34)) 0
  have r1 := blk_cell (heap_alloc_new w (.cells #[.int .i64 0, .int .i64 0] 34)) 1
  simp only [List.getElem?_toArray, List.getElem?_cons_zero, List.getElem?_cons_succ] at r0 r1
  refine bodyPost_ret (by simp [results, Try.results15, go_sem, r0, r1]; try rfl) rfl ?_
  exact ⟨rfl, (Fr.refl _ _).alloc _⟩
end Go.Proofs.Ytoickikfojpgaaa
