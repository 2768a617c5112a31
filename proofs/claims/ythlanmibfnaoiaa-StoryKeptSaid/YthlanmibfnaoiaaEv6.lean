/- slices.DeleteFunc at events, by the closure of Of; Of itself. -/
import Derived.Test.YthlanmibfnaoiaaEv5
namespace Go.Proofs.Ythlanmibfnaoiaa
open Go.RowKit

/-- An event's ten cells laid over a row's. -/
def set10 (xs : List Value) (i : Nat) (e : Ev) (a b c : Value) : List Value :=
  (((((((((xs.set (i * 10) (.int .i64 e.k)).set (i * 10 + 1) (.int .i64 e.th)).set (i * 10 + 2) (.int .i64 e.pr)).set (i * 10 + 3) (.int .i64 e.tr)).set (i * 10 + 4) (.int .i64 e.ti)).set (i * 10 + 5) (.int .i64 e.st)).set (i * 10 + 6) (.int .i64 e.ca)).set (i * 10 + 7) a).set (i * 10 + 8) b).set (i * 10 + 9) c
theorem set10_other {xs : List Value} {i m : Nat} {e : Ev} {a b c : Value} (h : m / 10 ≠ i) : (set10 xs i e a b c)[m]? = xs[m]? := by
  unfold set10
  repeat rw [List.getElem?_set_ne (by omega)]
theorem set10_row {xs : List Value} {i : Nat} {e : Ev} {a b c : Value} (hl : i * 10 + 9 < xs.length) : RowAt (set10 xs i e a b c) i e a b c := by
  intro j hj
  unfold set10
  have : j = 0 ∨ j = 1 ∨ j = 2 ∨ j = 3 ∨ j = 4 ∨ j = 5 ∨ j = 6 ∨ j = 7 ∨ j = 8 ∨ j = 9 := by omega
  rcases this with rfl | rfl | rfl | rfl | rfl | rfl | rfl | rfl | rfl | rfl <;>
    (repeat rw [List.getElem?_set_ne (by omega)]) <;> first | (rw [List.getElem?_set_self (by simp; omega)]; rfl) | (rw [Nat.add_zero, List.getElem?_set_self (by omega)]; rfl)

/-- The world in which an event's ten cells are laid. -/
def put10 (w : World) (g i : Nat) (e : Ev) (a b c : Value) : World :=
  (((((((((w.setCell ⟨g, i * 10, none⟩ (.int .i64 e.k)).setCell ⟨g, i * 10 + 1, none⟩ (.int .i64 e.th)).setCell ⟨g, i * 10 + 2, none⟩ (.int .i64 e.pr)).setCell ⟨g, i * 10 + 3, none⟩ (.int .i64 e.tr)).setCell ⟨g, i * 10 + 4, none⟩ (.int .i64 e.ti)).setCell ⟨g, i * 10 + 5, none⟩ (.int .i64 e.st)).setCell ⟨g, i * 10 + 6, none⟩ (.int .i64 e.ca)).setCell ⟨g, i * 10 + 7, none⟩ a).setCell ⟨g, i * 10 + 8, none⟩ b).setCell ⟨g, i * 10 + 9, none⟩ c
theorem put10_own {w : World} {B g n cap i : Nat} {T : TypeId} {xs : List Value} (h : w.ownsRow B T 10 (.slice (some ⟨g, 0, none⟩) n cap) n xs) (e : Ev) (a b c : Value) :
    (put10 w g i e a b c).ownsRow B T 10 (.slice (some ⟨g, 0, none⟩) n cap) n (set10 xs i e a b c) ∧ Fr (fun k => k = g) w (put10 w g i e a b c) := by
  have h0 := (h.stored (i * 10) (.int .i64 e.k)).1
  have h1 := (h0.stored (i * 10 + 1) (.int .i64 e.th)).1
  have h2 := (h1.stored (i * 10 + 2) (.int .i64 e.pr)).1
  have h3 := (h2.stored (i * 10 + 3) (.int .i64 e.tr)).1
  have h4 := (h3.stored (i * 10 + 4) (.int .i64 e.ti)).1
  have h5 := (h4.stored (i * 10 + 5) (.int .i64 e.st)).1
  have h6 := (h5.stored (i * 10 + 6) (.int .i64 e.ca)).1
  have h7 := (h6.stored (i * 10 + 7) a).1
  have h8 := (h7.stored (i * 10 + 8) b).1
  have h9 := (h8.stored (i * 10 + 9) c).1
  refine ⟨h9, ?_⟩
  unfold put10
  exact (((((((((((Fr.refl (fun k => k = g) w).setCell (p := ⟨g, i * 10, none⟩) (.inl rfl) _).setCell (p := ⟨g, i * 10 + 1, none⟩) (.inl rfl) _).setCell (p := ⟨g, i * 10 + 2, none⟩) (.inl rfl) _).setCell (p := ⟨g, i * 10 + 3, none⟩) (.inl rfl) _).setCell (p := ⟨g, i * 10 + 4, none⟩) (.inl rfl) _).setCell (p := ⟨g, i * 10 + 5, none⟩) (.inl rfl) _).setCell (p := ⟨g, i * 10 + 6, none⟩) (.inl rfl) _).setCell (p := ⟨g, i * 10 + 7, none⟩) (.inl rfl) _).setCell (p := ⟨g, i * 10 + 8, none⟩) (.inl rfl) _).setCell (p := ⟨g, i * 10 + 9, none⟩) (.inl rfl) _)
/-- What a store of ten cells asks. -/
theorem store10 {w : World} {B g n cap i : Nat} {T : TypeId} {xs : List Value} (h : w.ownsRow B T 10 (.slice (some ⟨g, 0, none⟩) n cap) n xs) (hi : i < n) :
    ∃ u0 u1 u2 u3 u4 u5 u6 u7 u8 u9, w.cell? ⟨g, i * 10, none⟩ = some u0 ∧ w.cell? ⟨g, i * 10 + 1, none⟩ = some u1 ∧ w.cell? ⟨g, i * 10 + 2, none⟩ = some u2 ∧ w.cell? ⟨g, i * 10 + 3, none⟩ = some u3 ∧ w.cell? ⟨g, i * 10 + 4, none⟩ = some u4 ∧
      w.cell? ⟨g, i * 10 + 5, none⟩ = some u5 ∧ w.cell? ⟨g, i * 10 + 6, none⟩ = some u6 ∧ w.cell? ⟨g, i * 10 + 7, none⟩ = some u7 ∧ w.cell? ⟨g, i * 10 + 8, none⟩ = some u8 ∧ w.cell? ⟨g, i * 10 + 9, none⟩ = some u9 ∧
      w.frozen? ⟨g, i * 10, none⟩ = false ∧ w.frozen? ⟨g, i * 10 + 1, none⟩ = false ∧ w.frozen? ⟨g, i * 10 + 2, none⟩ = false ∧ w.frozen? ⟨g, i * 10 + 3, none⟩ = false ∧ w.frozen? ⟨g, i * 10 + 4, none⟩ = false ∧
      w.frozen? ⟨g, i * 10 + 5, none⟩ = false ∧ w.frozen? ⟨g, i * 10 + 6, none⟩ = false ∧ w.frozen? ⟨g, i * 10 + 7, none⟩ = false ∧ w.frozen? ⟨g, i * 10 + 8, none⟩ = false ∧ w.frozen? ⟨g, i * 10 + 9, none⟩ = false := by
  have hl : xs.length = n * 10 := h.1
  have hc : ∀ j, j < 10 → w.cell? ⟨g, i * 10 + j, none⟩ = some (xs[i * 10 + j]?.getD undef) := fun j hj => by
    rw [h.cellAt _ (by omega), List.getElem?_eq_getElem (by omega)]; rfl
  exact ⟨_, _, _, _, _, _, _, _, _, _, hc 0 (by omega), hc 1 (by omega), hc 2 (by omega), hc 3 (by omega), hc 4 (by omega), hc 5 (by omega), hc 6 (by omega), hc 7 (by omega), hc 8 (by omega), hc 9 (by omega),
    h.frozenAt _, h.frozenAt _, h.frozenAt _, h.frozenAt _, h.frozenAt _, h.frozenAt _, h.frozenAt _, h.frozenAt _, h.frozenAt _, h.frozenAt _⟩
/-- An event in a block of its own. -/
theorem box10 {w : World} {b : Nat} {T : TypeId} {e : Ev} {x y z : Value} (h : w.heap[b]? = some (.cells #[.int .i64 e.k, .int .i64 e.th, .int .i64 e.pr, .int .i64 e.tr, .int .i64 e.ti, .int .i64 e.st, .int .i64 e.ca, x, y, z] T (0, 0))) :
    w.cell? ⟨b, 0, none⟩ = some (.int .i64 e.k) ∧ w.cell? ⟨b, 1, none⟩ = some (.int .i64 e.th) ∧ w.cell? ⟨b, 2, none⟩ = some (.int .i64 e.pr) ∧ w.cell? ⟨b, 3, none⟩ = some (.int .i64 e.tr) ∧ w.cell? ⟨b, 4, none⟩ = some (.int .i64 e.ti) ∧ w.cell? ⟨b, 5, none⟩ = some (.int .i64 e.st) ∧ w.cell? ⟨b, 6, none⟩ = some (.int .i64 e.ca) ∧
    w.cell? ⟨b, 7, none⟩ = some x ∧ w.cell? ⟨b, 8, none⟩ = some y ∧ w.cell? ⟨b, 9, none⟩ = some z := by
  refine ⟨?_, ?_, ?_, ?_, ?_, ?_, ?_, ?_, ?_, ?_⟩ <;> (rw [blk_cell h]; rfl)

theorem own_setCells {B g n cap : Nat} {T : TypeId} {k : Nat} : ∀ (l : List Value) (o : Nat) (w : World) (xs : List Value), w.ownsRow B T k (.slice (some ⟨g, 0, none⟩) n cap) n xs →
    ∃ ys, (w.setCells g o l).ownsRow B T k (.slice (some ⟨g, 0, none⟩) n cap) n ys ∧ (∀ m, m < o → ys[m]? = xs[m]?) ∧ Fr (fun k => k = g) w (w.setCells g o l)
  | [], _, w, xs, h => ⟨xs, h, fun _ _ => rfl, Fr.refl _ _⟩
  | v :: r, o, w, xs, h => by
    obtain ⟨ys, h1, h2, h3⟩ := own_setCells r (o + 1) _ _ (h.stored o v).1
    exact ⟨ys, h1, fun m hm => by rw [h2 m (by omega), List.getElem?_set_ne (by omega)], ((Fr.refl (fun k => k = g) w).setCell (p := ⟨g, o, none⟩) (.inl rfl) v).trans h3⟩
theorem own_cut {w : World} {B g n cap i k : Nat} {T : TypeId} {xs : List Value} (h : w.ownsRow B T k (.slice (some ⟨g, 0, none⟩) n cap) n xs) (hi : i ≤ n) : w.ownsRow B T k (.slice (some ⟨g, 0, none⟩) i cap) i (xs.take (i * k)) := by
  have hl := h.1
  have hm : i * k ≤ n * k := Nat.mul_le_mul_right _ hi
  refine ⟨by rw [List.length_take, hl]; omega, ?_⟩
  rcases h.2 with ⟨h1, _⟩ | ⟨g', cap', cur, h1, hb, hg, hn, hx, hs, ht⟩
  · cases h1
  · cases h1
    refine .inr ⟨g, cap, cur, rfl, hb, hg, by omega, hx, hs, ?_⟩
    rw [← ht, List.take_take, Nat.min_eq_left hm]
theorem run_clear_evs {w : World} {B g n cap i : Nat} {xs : List Value} (h : w.ownsRow B 33 10 (.slice (some ⟨g, 0, none⟩) n cap) n xs) (hi : i < n) (ty : TypeId) :
    ∃ l, (Builtin.clear_ #[22] ty #[.slice (some ⟨g, i * 10, none⟩) (n - i) (cap - i)]).run Try.prog w = .ok (.tuple #[]) (w.setCells g (i * 10) l) := by
  have hl : xs.length = n * 10 := h.1
  refine ⟨(Builtin.zeroCells (Value.agg #[.int .i64 0, .int .i64 0, .int .i64 0, .int .i64 0, .int .i64 0, .int .i64 0, .int .i64 0, .slice none 0 0, .slice none 0 0, .slice none 0 0]).cells (n - i)).toList, ?_⟩
  have hv : (zeroValue 33).run Try.prog w = .ok (Value.agg #[.int .i64 0, .int .i64 0, .int .i64 0, .int .i64 0, .int .i64 0, .int .i64 0, .int .i64 0, .slice none 0 0, .slice none 0 0, .slice none 0 0]) w := Try.zeroValue33 w
  generalize hz : (Value.agg #[.int .i64 0, .int .i64 0, .int .i64 0, .int .i64 0, .int .i64 0, .int .i64 0, .int .i64 0, .slice none 0 0, .slice none 0 0, .slice none 0 0]) = z at hv ⊢
  have hzc : z.cells.size = 10 := by rw [← hz]; rfl
  have hz1 : ∀ v ∈ (Builtin.zeroCells z.cells (n - i)).toList, v.oneCell' = true := by
    intro v hv
    unfold Builtin.zeroCells at hv
    rw [Array.toList_map, List.mem_map] at hv
    obtain ⟨t, _, rfl⟩ := hv
    have ht : t % z.cells.size < 10 := by rw [hzc]; omega
    generalize t % z.cells.size = m at ht
    have : m = 0 ∨ m = 1 ∨ m = 2 ∨ m = 3 ∨ m = 4 ∨ m = 5 ∨ m = 6 ∨ m = 7 ∨ m = 8 ∨ m = 9 := by omega
    rw [← hz]
    rcases this with rfl | rfl | rfl | rfl | rfl | rfl | rfl | rfl | rfl | rfl <;> rfl
  have hlen : (Builtin.zeroCells z.cells (n - i)).toList.length = (n - i) * 10 := by rw [Array.length_toList, size_zeroCells, hzc]
  have hst := run_storeCells_cells (P := Try.prog) g (i * 10) (Builtin.zeroCells z.cells (n - i)).toList 0 w
    (fun j hj => by rw [hlen] at hj; rw [Nat.add_zero, h.cellAt _ (by omega), List.getElem?_eq_getElem (by omega)]; rfl) (fun j hj => h.frozenAt _) hz1
  rw [Nat.add_zero] at hst
  obtain ⟨m, hm⟩ : ∃ m, n - i = m + 1 := ⟨n - i - 1, by omega⟩
  rw [hm] at hst ⊢
  simp [Builtin.clear_, run_underlying Try.underlying22, hv, hst]

theorem filter_take_succ {p : Ev → Bool} {es : List Ev} {j : Nat} (h : j < es.length) : (es.take (j + 1)).filter p = (es.take j).filter p ++ (if p (es.getD j default) then [es.getD j default] else []) := by
  rw [List.take_succ_eq_append_getElem h, List.filter_append, List.getD_eq_getElem?_getD, List.getElem?_eq_getElem h]
  simp only [Option.getD_some, List.filter_cons, List.filter_nil]
theorem filter_all {p : Ev → Bool} {es : List Ev} {j : Nat} (hj : j ≤ es.length) (h : ∀ i, i < j → p (es.getD i default) = true) : (es.take j).filter p = es.take j := by
  rw [List.filter_eq_self]
  intro e he
  obtain ⟨i, hi, rfl⟩ := List.getElem_of_mem he
  rw [List.length_take] at hi
  have := h i (by omega)
  rw [List.getD_eq_getElem?_getD, List.getElem?_eq_getElem (by omega)] at this
  rw [List.getElem_take]; exact this

theorem first_other (p : Ev → Bool) (es : List Ev) : ∀ n, n ≤ es.length → (∀ j, j < n → p (es.getD j default) = true) ∨ ∃ j, j < n ∧ p (es.getD j default) = false ∧ ∀ i, i < j → p (es.getD i default) = true
  | 0, _ => .inl fun _ h => absurd h (Nat.not_lt_zero _)
  | n + 1, h => by
    rcases first_other p es n (by omega) with h1 | ⟨j, h1, h2, h3⟩
    · cases hp : p (es.getD n default) with
      | true =>
        refine .inl fun j hj => ?_
        by_cases e : j = n
        · rw [e]; exact hp
        · exact h1 j (by omega)
      | false => exact .inr ⟨n, by omega, hp, h1⟩
    · exact .inr ⟨j, by omega, h2, h3⟩
theorem own_row_cells {w : World} {B g n cap : Nat} {T : TypeId} {xs : List Value} {i : Nat} {e : Ev} {a b c : Value} (h : w.ownsRow B T 10 (.slice (some ⟨g, 0, none⟩) n cap) n xs) (hi : i < n) (hr : RowAt xs i e a b c) :
    w.cell? ⟨g, i * 10, none⟩ = some (.int .i64 e.k) ∧ w.cell? ⟨g, i * 10 + 1, none⟩ = some (.int .i64 e.th) ∧ w.cell? ⟨g, i * 10 + 2, none⟩ = some (.int .i64 e.pr) ∧ w.cell? ⟨g, i * 10 + 3, none⟩ = some (.int .i64 e.tr) ∧ w.cell? ⟨g, i * 10 + 4, none⟩ = some (.int .i64 e.ti) ∧
    w.cell? ⟨g, i * 10 + 5, none⟩ = some (.int .i64 e.st) ∧ w.cell? ⟨g, i * 10 + 6, none⟩ = some (.int .i64 e.ca) ∧ w.cell? ⟨g, i * 10 + 7, none⟩ = some a ∧ w.cell? ⟨g, i * 10 + 8, none⟩ = some b ∧ w.cell? ⟨g, i * 10 + 9, none⟩ = some c := by
  have hc : ∀ j u, j < 10 → (e.cells a b c)[j]? = some u → w.cell? ⟨g, i * 10 + j, none⟩ = some u := fun j u hj he => by rw [h.cellAt _ (by omega), hr j hj]; exact he
  exact ⟨hc 0 _ (by omega) rfl, hc 1 _ (by omega) rfl, hc 2 _ (by omega) rfl, hc 3 _ (by omega) rfl, hc 4 _ (by omega) rfl, hc 5 _ (by omega) rfl, hc 6 _ (by omega) rfl, hc 7 _ (by omega) rfl, hc 8 _ (by omega) rfl, hc 9 _ (by omega) rfl⟩
theorem getD_append_left {xs ys : List Ev} {t : Nat} (h : t < xs.length) : (xs ++ ys).getD t default = xs.getD t default := by
  rw [List.getD_eq_getElem?_getD, List.getElem?_append_left h, List.getD_eq_getElem?_getD]
theorem getD_append_last {xs : List Ev} {e : Ev} : (xs ++ [e]).getD xs.length default = e := by
  rw [List.getD_eq_getElem?_getD, List.getElem?_append_right (Nat.le_refl _), Nat.sub_self]; rfl

set_option maxRecDepth 100000 in
set_option maxHeartbeats 2000000 in
theorem deleted_calls (B : Nat) (v : Value) (es : List Ev) (G : Nat → Prop) (kb lb : Nat) (kind : Int) (A : Option Addr) (n c : Nat) (ls : List Int) (F : Nat → Prop) (w : World)
    (hx : EvsOwn 33 B w G v es) (hG : ∀ k, G k → k < B) (hF : ∀ k, F k → k < B) (hkb : kb < B) (hlb : lb < B) (hs : es.length ≤ 20000) (hc : Caught w F kb lb kind A n c ls) :
    Calls Try.prog 24 #[v, .func (.func 22) #[] #[.pointer (some ⟨kb, 0, none⟩), .pointer (some ⟨lb, 0, none⟩)]] w fun ex w' =>
      ∃ v', ex = .returned v' ∧ EvsOwn 33 B w' G v' (es.filter (·.keeps kind ls)) ∧ Fr (fun k => B ≤ k) w w' := by
  have hat := hx.mono (G := fun _ => True) (fun _ _ _ => trivial) |>.at_ (fun _ _ => trivial)
  obtain ⟨xs, ho, hrows⟩ := hx
  obtain ⟨A0, cap, rfl, hcap, hnone, hg⟩ := ownsRow_shape ho
  have HO := Lib.hid (And.intro ho hrows)
  have HF := Lib.hid (And.intro hG hF)
  have HC := Lib.hid hc
  clear ho hrows hG hF
  rcases first_other (·.keeps kind ls) es es.length (Nat.le_refl _) with hall | ⟨j0, hj0, hno, hbe⟩
  · have HA := Lib.hid hall
    clear hall
    go_enter Try.func24, Try.ntmps24
    go_wp2_with (go_at_call 34
                 (with_reducible refine (firstOther_calls _ es _ kb lb kind A n c ls F _ hat hs hc).mono ?_)
                 clear hat hc
                 rintro ex w1 ⟨p, rfl, hp, hf1⟩
                 obtain rfl : p = -1 := hp.elim (fun x => x.1) (fun ⟨j, _, h1, h2, _⟩ => by rw [HA.out j h1] at h2; cases h2)
                 clear hp)
    go_ret
    refine ⟨_, rfl, ?_, hf1.mono (fun _ x => x.elim)⟩
    rw [show es.filter (·.keeps kind ls) = es from by have := filter_all (Nat.le_refl es.length) HA.out; rwa [List.take_length] at this]
    exact ⟨xs, ownsRow_frame HO.out.1 hf1 (fun _ _ x => x), fun i hi => (HO.out.2 i hi).frame hf1 (fun _ _ x => x.elim)⟩
  · cases A0 with
    | none => exact absurd (hnone rfl) (by omega)
    | some ad =>
      obtain ⟨g, rfl, hb, hgw⟩ := hg _ rfl
      clear hg hnone
      have HB := Lib.hid (And.intro hno hbe)
      clear hno hbe
      have hlt0 : ((j0 : Int) == -1) = false := by simp
      go_enter Try.func24, Try.ntmps24
      go_wp2_with (go_at_call 34
                   (with_reducible refine (firstOther_calls _ es _ kb lb kind A n c ls F _ hat hs hc).mono ?_)
                   clear hat hc
                   rintro ex w1 ⟨p, rfl, hp, hf1⟩
                   obtain rfl : p = (j0 : Int) := hp.elim (fun x => by have := x.2 j0 hj0; rw [HB.out.1] at this; cases this) (fun ⟨j, h0, h1, h2, h3⟩ => by
                     rw [h0]
                     by_cases e1 : j < j0
                     · have := HB.out.2 j e1; rw [h2] at this; cases this
                     · by_cases e2 : j0 < j
                       · have := h3 j0 e2; rw [HB.out.1] at this; cases this
                       · have : j = j0 := by omega
                         rw [this])
                   clear hp)
      have hfs := hf1.size
      have ho1 := ownsRow_frame HO.out.1 hf1 (fun _ _ x => x)
      have hr1 : ∀ i, i < es.length → EvRow w1 G xs i (es.getD i default) := fun i hi => (HO.out.2 i hi).frame hf1 (fun _ _ x => x.elim)
      have HO1 := Lib.hid (And.intro ho1 (And.intro hr1 hf1))
      clear ho1 hr1 hf1
      generalize hln : es.length = m at *
      have HN := Lib.hid hln
      clear hln
      go_loopw [5, 6, 7] (fun v5 v6 _ wr => ∃ i j : Nat, v5 = .int .i64 i ∧ v6 = .int .i64 j ∧ i < j ∧ j ≤ m ∧ i = ((es.take j).filter (·.keeps kind ls)).length ∧
        (∃ ys, wr.ownsRow B 33 10 (.slice (some ⟨g, 0, none⟩) m cap) m ys ∧ (∀ t, t < i → EvRow wr G ys t (((es.take j).filter (·.keeps kind ls)).getD t default)) ∧ (∀ t, j ≤ t → t < m → EvRow wr G ys t (es.getD t default))) ∧ Fr (fun k => k = g) w1 wr) (fun _ v6 _ _ => m - (intOf v6).toNat)
      case atStart =>
        have hfa : (es.take (j0 + 1)).filter (·.keeps kind ls) = es.take j0 := by
          rw [filter_take_succ (by rw [HN.out]; exact hj0), filter_all (by rw [HN.out]; omega) HB.out.2, HB.out.1]; simp
        refine ⟨j0, j0 + 1, rfl, by go_num, by omega, by omega, by rw [hfa, List.length_take, HN.out]; omega, ⟨xs, HO1.out.1, fun t ht => ?_, fun t _ ht => HO1.out.2.1 t ht⟩, Fr.refl _ _⟩
        rw [hfa, show (es.take j0).getD t default = es.getD t default by rw [List.getD_eq_getElem?_getD, List.getElem?_take, if_pos ht, List.getD_eq_getElem?_getD]]
        exact HO1.out.2.1 t (by omega)
      case round =>
        obtain ⟨i, j, rfl, rfl, hij, hj, hi, ⟨ys, ho, hlo, hhi⟩, hf⟩ := hrel
        have hwr := hf.size
        by_cases hlt : j < m
        · obtain ⟨A1, n1, c1, A2, n2, c2, A3, n3, c3, hrow, hL⟩ := hhi j (Nat.le_refl _) hlt
          obtain ⟨q0, q1, q2, q3, q4, q5, q6, q7, q8, q9⟩ := own_row_cells ho hlt hrow
          have hstep := filter_take_succ (p := (·.keeps kind ls)) (es := es) (j := j) (by rw [HN.out]; exact hlt)
          generalize hev : es.getD j default = e at *
          have HV := Lib.hid (And.intro hev (And.intro hstep hi))
          have HR := Lib.hid (And.intro ho (And.intro hlo (And.intro hhi (And.intro hrow hL))))
          have hfa := (hf.alloc (.cells #[.int .i64 e.k, .int .i64 e.th, .int .i64 e.pr, .int .i64 e.tr, .int .i64 e.ti, .int .i64 e.st, .int .i64 e.ca, .slice A1 n1 c1, .slice A2 n2 c2, .slice A3 n3 c3] 33))
          have hcl := other_calls e (.slice A1 n1 c1) (.slice A2 n2 c2) (.slice A3 n3 c3) kb lb kind A n c ls F _ ((HC.out.frame HO1.out.2.2 (fun x => x) (fun x => x) (fun _ _ x => x.elim)).frame hfa (by omega) (by omega) (fun k x y => by have := HF.out.2 k x; omega))
          unfold Ev.val at hcl
          have HFA := Lib.hid hfa
          clear hev hstep hi ho hlo hhi hrow hL hfa
          cases hq : e.keeps kind ls with
          | true =>
            rw [hq] at hcl
            have HQ := Lib.hid hq
            have HCL := Lib.hid hcl
            clear hq hcl
            go_wp2_with (go_at_call 22
                         (with_reducible refine HCL.out.mono ?_)
                         rintro ex w2 ⟨rfl, hf2⟩
                         obtain ⟨p0, p1, p2, p3, p4, p5, p6, p7, p8, p9⟩ := box10 (b := wr.heap.size) (T := 33) (e := e) (x := .slice A1 n1 c1) (y := .slice A2 n2 c2) (z := .slice A3 n3 c3) (hf2.heap (heap_alloc_new wr _) (fun x => x))
                         have ho2 := ownsRow_frame (HR.out.1.alloc _) hf2 (fun _ _ x => x)
                         obtain ⟨u0, u1, u2, u3, u4, u5, u6, u7, u8, u9, y0, y1, y2, y3, y4, y5, y6, y7, y8, y9, z0, z1, z2, z3, z4, z5, z6, z7, z8, z9⟩ := store10 (i := i) ho2 (by omega)
                         have HO2 := Lib.hid ho2
                         have HF2 := Lib.hid hf2
                         clear ho2 hf2)
            go_roundw
            case rel =>
              obtain ⟨o3, f3⟩ := put10_own (i := i) HO2.out e (.slice A1 n1 c1) (.slice A2 n2 c2) (.slice A3 n3 c3)
              have f2 : Fr (fun k => k = g) w1 w2 := HFA.out.trans' (HF2.out.mono (T := fun k => k = g) (fun _ x => x.elim)) (fun _ x _ => x)
              have hfil : (es.take (j + 1)).filter (·.keeps kind ls) = (es.take j).filter (·.keeps kind ls) ++ [e] := by rw [HV.out.2.1, HQ.out]; rfl
              refine ⟨i + 1, j + 1, by go_num, by go_num, by omega, by omega, by rw [hfil, List.length_append, ← HV.out.2.2]; rfl, ⟨_, o3, fun t ht => ?_, fun t h1 h2 => ?_⟩, f2.trans f3⟩
              · by_cases hti : t < i
                · rw [hfil, getD_append_left (by rw [← HV.out.2.2]; exact hti)]
                  exact ((((HR.out.2.1 t hti).frame ((Fr.refl (fun _ => False) wr).alloc _) (fun _ _ x => x.elim)).frame HF2.out (fun _ _ x => x.elim)).frame f3 (fun k x y => by have := HF.out.1 k x; omega)).of_eq (fun m hm => set10_other (by omega))
                · obtain rfl : t = i := by omega
                  rw [hfil]
                  have := HV.out.2.2
                  rw [show ((es.take j).filter (·.keeps kind ls) ++ [e]).getD t default = e by
                    have h5 := getD_append_last (xs := (es.take j).filter (·.keeps kind ls)) (e := e)
                    rw [← this] at h5; exact h5]
                  exact ⟨A1, n1, c1, A2, n2, c2, A3, n3, c3, set10_row (by rw [HR.out.1.1]; omega), ((HR.out.2.2.2.2.frame ((Fr.refl (fun _ => False) wr).alloc _) (fun _ _ x => x.elim)).frame HF2.out (fun _ _ x => x.elim)).frame f3 (fun k x y => by have := HF.out.1 k x; omega)⟩
              · exact ((((HR.out.2.2.1 t (by omega) h2).frame ((Fr.refl (fun _ => False) wr).alloc _) (fun _ _ x => x.elim)).frame HF2.out (fun _ _ x => x.elim)).frame f3 (fun k x y => by have := HF.out.1 k x; omega)).of_eq (fun m hm => set10_other (by omega))
            case measure => simp [intOf]; omega
          | false =>
            rw [hq] at hcl
            have HQ := Lib.hid hq
            have HCL := Lib.hid hcl
            clear hq hcl
            go_wp2_with (go_at_call 22
                         (with_reducible refine HCL.out.mono ?_)
                         rintro ex w2 ⟨rfl, hf2⟩)
            go_roundw
            case rel =>
              have f2 : Fr (fun k => k = g) w1 w2 := HFA.out.trans' (hf2.mono (T := fun k => k = g) (fun _ x => x.elim)) (fun _ x _ => x)
              have hfil : (es.take (j + 1)).filter (·.keeps kind ls) = (es.take j).filter (·.keeps kind ls) := by rw [HV.out.2.1, HQ.out]; simp
              exact ⟨i, j + 1, rfl, by go_num, by omega, by omega, by rw [hfil]; exact HV.out.2.2, ⟨ys, ownsRow_frame (HR.out.1.alloc _) hf2 (fun _ _ x => x), fun t ht => by rw [hfil]; exact ((HR.out.2.1 t ht).frame ((Fr.refl (fun _ => False) wr).alloc _) (fun _ _ x => x.elim)).frame hf2 (fun _ _ x => x.elim), fun t h1 h2 => ((HR.out.2.2.1 t (by omega) h2).frame ((Fr.refl (fun _ => False) wr).alloc _) (fun _ _ x => x.elim)).frame hf2 (fun _ _ x => x.elim)⟩, f2⟩
            case measure => simp [intOf]; omega
        · obtain rfl : j = m := by omega
          have hfil : (es.take j).filter (·.keeps kind ls) = es.filter (·.keeps kind ls) := by rw [← HN.out, List.take_length]
          rw [hfil] at hi hlo
          obtain ⟨l, hcl⟩ : ∃ l, ∀ ty, (Builtin.clear_ #[22] ty #[.slice (some ⟨g, i * 10, none⟩) (j - i) (cap - i)]).run Try.prog wr = .ok (.tuple #[]) (wr.setCells g (i * 10) l) := by
            obtain ⟨l, hl⟩ := run_clear_evs ho hij 0
            exact ⟨l, fun ty => hl⟩
          have HR := Lib.hid (And.intro ho (And.intro hlo (And.intro hi hf)))
          clear ho hlo hhi hi hf hfil
          go_wp2
          go_ret
          obtain ⟨zs, o4, h4, f4⟩ := own_setCells l (i * 10) wr ys HR.out.1
          refine ⟨_, rfl, ⟨_, by rw [← HR.out.2.2.1]; exact own_cut o4 (by omega), fun t ht => ?_⟩, (HO1.out.2.2.mono (fun _ x => x.elim)).trans ((HR.out.2.2.2.trans f4).mono (fun k x => by omega))⟩
          rw [← HR.out.2.2.1] at ht
          exact ((HR.out.2.1 t ht).frame f4 (fun k x y => by have := HF.out.1 k x; omega)).of_eq (fun m hm => by rw [List.getElem?_take, if_pos (by omega), h4 m (by omega)])
end Go.Proofs.Ythlanmibfnaoiaa
