/- Push and Pop. -/
import Derived.Test.YtoickikfojpgaaaUD
namespace Go.Proofs.Ytoickikfojpgaaa
open Go.RowKit

def PushR (w : World) (lb : Nat) (v : Value) (xs : List Acc) (most : Int) (x : Acc) (e : Ending) (w' : World) : Prop :=
  ((xs.length : Int) = most ∧ e = .returned (.int .i64 10) ∧ Fr (fun _ => False) w w') ∨ ((xs.length : Int) < most ∧ e = .returned (.int .i64 0) ∧ ∃ v', LogAt w' lb v' (xs ++ [x]) most ∧ (v'.ownBlock = v.ownBlock ∨ ∃ g, v'.ownBlock = some g ∧ w.heap.size ≤ g) ∧ Fr (LB lb v) w w')
theorem LogAt.room {w : World} {lb : Nat} {v : Value} {xs : List Acc} {most : Int} (h : LogAt w lb v xs most) {w' : World} {v' : Value} {x : Acc} (hlt : (xs.length : Int) < most)
    (hb : w'.heap[lb]? = some (.cells #[v', .int .i64 most] 51 (0, 0))) (hr : w'.ownsRow 0 34 2 v' (xs.length + 1) ((accInts xs).map (Value.int .i64) ++ [.int .i64 x.1.1, .int .i64 x.1.2])) : LogAt w' lb v' (xs ++ [x]) most :=
  ⟨hb, by rw [List.length_append, accInts_append, List.map_append]; exact hr, h.m1, h.m2, by rw [List.length_append]; show ((xs.length + 1 : Nat) : Int) ≤ most; omega⟩

set_option maxRecDepth 100000 in
theorem push_calls (lb : Nat) (v : Value) (xs : List Acc) (most : Int) (x : Acc) (w : World) (h : LogAt w lb v xs most) : Calls Try.prog 9 #[.pointer (some ⟨lb, 0, none⟩), .int .i64 x.1.1, .int .i64 x.1.2] w fun e w' => PushR w lb v xs most x e w' := by
  have hle := h.le
  have hlen := h.len
  have hne := h.ne
  have HH := Lib.hid h
  have HR := room_calls lb v xs most w h
  by_cases hlt : (xs.length : Int) < most
  · have hroom : (most - (xs.length : Int) == 0) = false := by simpa using (show ¬ most - (xs.length : Int) = 0 by omega)
    obtain ⟨A, cap, hv, _⟩ := h.slice
    subst hv
    generalize hgd : most - (xs.length : Int) = room at HR hroom
    have HGD := Lib.hid hgd
    clear hgd h
    go_enter Try.func9, Try.ntmps9
    go_wp2_with (first
      | (go_at_call 17; refine HR.mono ?_; rintro e w1 ⟨rfl, hf1⟩; have h1 := HH.out.frameF hf1; have c0 := blk_cell h1.blk 0; simp only [List.getElem?_toArray, List.getElem?_cons_zero] at c0)
      | (at_builtin; refine append_acc _ rfl _ _ rfl 0 (.slice A xs.length cap) xs.length _ rfl (h1.frameF ((Fr.refl _ _).alloc _)).row w1.heap.size x.1.1 x.1.2 rfl (heap_alloc_new w1 _) (by omega) (by omega) ?_; intro v' w2 hown2 hfr2 hc2 hsh2; obtain ⟨g2, cap2, rfl⟩ := hsh2; have hb2 := hfr2.heap (blk_alloc h1.blk _) hne; have c2 := blk_cell hb2 0; have f2 := blk_free hb2 0; simp only [List.getElem?_toArray, List.getElem?_cons_zero] at c2))
    go_ret
    refine .inr ⟨hlt, rfl, _, HH.out.room hlt (by rw [blk_set hb2]; rfl) (ownsRow_frame hown2 ((Fr.refl (fun k => k = lb) w2).setCell (.inl rfl) _) (fun g hg e => by
      obtain ⟨cur, hcu⟩ := row_own hown2 hg
      subst e
      rw [hb2] at hcu
      injection hcu with hcu
      injection hcu with _ hcu
      revert hcu; decide)), ?_, ?_⟩
    · rcases hc2 with e | e
      · exact .inl e
      · exact .inr ⟨_, e, by have := hf1.size; simp; omega⟩
    · exact (((hf1.alloc _).mono (fun _ x => x.elim)).trans (hfr2.mono (fun k e => .inr e))).setCell (.inl (.inl rfl)) _
  · have he : (xs.length : Int) = most := by omega
    have hroom : most - (xs.length : Int) = 0 := by omega
    rw [hroom] at HR
    clear h hroom
    have HE := Lib.hid he
    clear he
    go_enter Try.func9, Try.ntmps9
    go_wp2_with (go_at_call 17; refine HR.mono ?_; rintro e w1 ⟨rfl, hf1⟩)
    go_ret
    exact .inl ⟨HE.out, rfl, hf1⟩

/-- The last access, and what is left. -/
def PopR (w : World) (lb : Nat) (v : Value) (xs : List Acc) (most : Int) (e : Ending) (w' : World) : Prop :=
  (xs = [] ∧ e = .returned (.tuple #[.agg #[.int .i64 0, .int .i64 0], .bool false]) ∧ Fr (fun _ => False) w w') ∨
  ∃ ys x, xs = ys ++ [x] ∧ e = .returned (.tuple #[.agg #[.int .i64 x.1.1, .int .i64 x.1.2], .bool true]) ∧ ∃ v', LogAt w' lb v' ys most ∧ v'.ownBlock = v.ownBlock ∧ Fr (fun k => k = lb) w w'
theorem row_cut {w : World} {B : Nat} {T : TypeId} {k n : Nat} {g cap : Nat} {xs ys : List Value} (h : w.ownsRow B T k (.slice (some ⟨g, 0, none⟩) (n + 1) cap) (n + 1) (xs ++ ys)) (hx : xs.length = n * k) : w.ownsRow B T k (.slice (some ⟨g, 0, none⟩) n cap) n xs := by
  refine ⟨hx, .inr ?_⟩
  rcases h.2 with ⟨h1, _⟩ | ⟨g', cap', cur, h1, h2, h3, h4, h5, h6, h7⟩
  · cases h1
  · cases h1
    refine ⟨g, cap, cur, rfl, h2, h3, by omega, h5, h6, ?_⟩
    have hle : n * k ≤ (n + 1) * k := Nat.mul_le_mul_right k (by omega)
    have h8 := congrArg (List.take (n * k)) h7
    rw [List.take_take, Nat.min_eq_left hle, ← hx, List.take_left] at h8
    rw [← hx]; exact h8
set_option maxRecDepth 100000 in
theorem pop_calls (lb : Nat) (v : Value) (xs : List Acc) (most : Int) (w : World) (h : LogAt w lb v xs most) : Calls Try.prog 12 #[.pointer (some ⟨lb, 0, none⟩)] w fun e w' => PopR w lb v xs most e w' := by
  have hlen := h.len
  have hne := h.ne
  have HH := Lib.hid h
  rcases xs.eq_nil_or_concat with hx | ⟨ys, x, hx⟩
  · subst hx
    obtain ⟨A, cap, hv, _⟩ := h.slice
    subst hv
    have c0 := (blk_cell (blk_alloc h.blk (.cells #[.int .i64 0, .int .i64 0] 34)) 0)
    simp only [List.getElem?_toArray, List.getElem?_cons_zero] at c0
    clear h
    go_enter Try.func12, Try.ntmps12
    go_wp2
    have r0 := blk_cell (heap_alloc_new w (.cells #[.int .i64 0, .int .i64 0] 34)) 0
    have r1 := blk_cell (heap_alloc_new w (.cells #[.int .i64 0, .int .i64 0] 34)) 1
    simp only [List.getElem?_toArray, List.getElem?_cons_zero, List.getElem?_cons_succ] at r0 r1
    refine bodyPost_ret (by simp [results, Try.results12, go_sem, r0, r1]; try rfl) rfl ?_
    exact .inl ⟨rfl, rfl, (Fr.refl _ _).alloc _⟩
  · rw [List.concat_eq_append] at hx
    subst hx
    obtain ⟨A, cap, hv, hfl⟩ := h.slice
    subst hv
    obtain ⟨ad, rfl, hgl, hc⟩ := hfl.at_ (by simp)
    have hAB : ∃ g, ad = ⟨g, 0, none⟩ ∧ (ys ++ [x]).length ≤ cap := by
      rcases h.row.2 with ⟨h1, _⟩ | ⟨g, _, _, h1, _, _, h2, _⟩
      · cases h1
      · cases h1; exact ⟨g, rfl, h2⟩
    obtain ⟨g, rfl, hcap⟩ := hAB
    have q0 := hc (ys.length * 2) (by simp)
    have q1 := hc (ys.length * 2 + 1) (by simp; omega)
    have hg := accInts_get (ys ++ [x]) ys.length (by simp)
    rw [hg.1] at q0
    rw [hg.2] at q1
    have hgx : (ys ++ [x]).getD ys.length acc0 = x := by simp
    rw [hgx] at q0 q1
    have hcut := row_cut (k := 2) (n := ys.length) (xs := (accInts ys).map (Value.int .i64)) (ys := (accInts [x]).map (Value.int .i64)) (by have h2 := h.row; rw [List.length_append, accInts_append, List.map_append] at h2; exact h2) (by simp [accInts_len])
    rw [add_past _ _ _ (by omega)] at q1
    rw [show (ys ++ [x]).length = ys.length + 1 by simp] at hlen h hne HH hcap ⊢
    have hW1 : Fr (fun _ => False) w (w.alloc (.cells #[.int .i64 0, .int .i64 0] 34)) := (Fr.refl _ _).alloc _
    have hW2 : Fr (fun _ => False) w ((w.alloc (.cells #[.int .i64 0, .int .i64 0] 34)).alloc (.cells #[.int .i64 x.1.1, .int .i64 x.1.2] 34)) := hW1.alloc _
    have ea : (⟨g, 0, none⟩ : Addr).add (ys.length * 2) = ⟨g, ys.length * 2, none⟩ := by unfold Addr.add; split <;> simp_all
    rw [ea] at q0 q1
    clear ea
    have k0 := hW1.cell q0 (fun x => x)
    have k1 := hW1.cell q1 (fun x => x)
    have b1 := hW1.heap h.blk (fun x => x)
    have b2 := hW2.heap h.blk (fun x => x)
    have c1 := blk_cell b1 0
    have c2 := blk_cell b2 0
    have f2 := blk_free b2 0
    have hlw := blk_lt h.blk
    simp only [List.getElem?_toArray, List.getElem?_cons_zero] at c1 c2
    have hm1 := h.m1
    have hm2 := h.m2
    have hmle := h.le
    rw [List.length_append] at hmle
    have hcap2 : ys.length ≤ cap := by omega
    clear hc hfl hg hgx q0 q1 h
    go_enter Try.func12, Try.ntmps12
    go_wp2
    have hW3 : Fr (fun k => k = lb) w (((w.setCell ⟨lb, 0, none⟩ (.slice (some ⟨g, 0, none⟩) ys.length cap)).alloc (.cells #[.int .i64 x.1.1, .int .i64 x.1.2] 34)).alloc (.cells #[.int .i64 x.1.1, .int .i64 x.1.2] 34)) := (((Fr.refl (fun k => k = lb) w).setCell (.inl rfl) _).alloc _).alloc _
    have hb3 : (((w.setCell ⟨lb, 0, none⟩ (.slice (some ⟨g, 0, none⟩) ys.length cap)).alloc (.cells #[.int .i64 x.1.1, .int .i64 x.1.2] 34)).alloc (.cells #[.int .i64 x.1.1, .int .i64 x.1.2] 34)).heap[lb]? = some (.cells #[.slice (some ⟨g, 0, none⟩) ys.length cap, .int .i64 most] 51 (0, 0)) := by
      refine blk_alloc (blk_alloc ?_ _) _
      rw [blk_set HH.out.blk]; rfl
    have hr3 := blk_alloc (heap_alloc_new (w.setCell ⟨lb, 0, none⟩ (.slice (some ⟨g, 0, none⟩) ys.length cap)) (.cells #[.int .i64 x.1.1, .int .i64 x.1.2] 34)) (.cells #[.int .i64 x.1.1, .int .i64 x.1.2] 34)
    have hsz : (w.setCell ⟨lb, 0, none⟩ (.slice (some ⟨g, 0, none⟩) ys.length cap)).heap.size = w.heap.size := by simp [World.setCell]
    rw [hsz] at hr3
    clear hsz
    generalize ((w.setCell ⟨lb, 0, none⟩ (.slice (some ⟨g, 0, none⟩) ys.length cap)).alloc (.cells #[.int .i64 x.1.1, .int .i64 x.1.2] 34)).alloc (.cells #[.int .i64 x.1.1, .int .i64 x.1.2] 34) = W3 at hW3 hb3 hr3 ⊢
    have r0 := blk_cell hr3 0
    have r1 := blk_cell hr3 1
    simp only [List.getElem?_toArray, List.getElem?_cons_zero, List.getElem?_cons_succ] at r0 r1
    refine bodyPost_ret (by simp [results, Try.results12, go_sem, r0, r1]; try rfl) rfl ?_
    exact .inr ⟨ys, x, rfl, rfl, _, ⟨hb3, ownsRow_frame hcut hW3 (fun k e x => hne (by rw [← x]; exact e)), hm1, hm2, by omega⟩, rfl, hW3⟩
end Go.Proofs.Ytoickikfojpgaaa
