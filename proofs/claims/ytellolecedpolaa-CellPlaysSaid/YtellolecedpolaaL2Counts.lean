/- ltklaw2.CellCounts answers true. -/
import Derived.Test.YtellolecedpolaaL2First
import Derived.Test.YtellolecedpolaaL2Op
import Derived.Deep.CutBlock
import Derived.Deep.CutRange
namespace Go.Proofs.Ytellolecedpolaa
open Go.RowKit

/-- Any Cells of three words that were asked so often. -/
def AnyCells (w : World) (p ab : Nat) (n : Nat) (c : Int) : Prop := ∃ s : CM, CellsAt w p ab s ∧ s.xs.length = n ∧ s.cnt = c

theorem CellsAt.alloc {w : World} {p ab : Nat} {s : CM} (h : CellsAt w p ab s) (o : Obj) : CellsAt (w.alloc o) p ab s := ⟨h.len, blk_alloc h.hp o, blk_alloc h.ha o, h.ne⟩
theorem CellsAt.lt {w : World} {p ab : Nat} {s : CM} (h : CellsAt w p ab s) : p < w.heap.size ∧ ab < w.heap.size := ⟨blk_lt h.hp, blk_lt h.ha⟩
/-- As many words; one more call. -/
structure AnyTick (s t : CM) : Prop where
  len : t.xs.length = s.xs.length
  cnt : t.cnt = wrap64 (s.cnt + 1)
theorem AnyTick.tick (s : CM) : AnyTick s s.tick := ⟨rfl, rfl⟩
theorem AnyTick.put (s : CM) (a v : Int) : AnyTick s (s.tick.put a v) := ⟨by simp [CM.put, CM.tick], rfl⟩
theorem AnyTick.ite {s t u : CM} {c : Prop} [Decidable c] (h : AnyTick s t) (k : AnyTick s u) : AnyTick s (if c then t else u) := by split; exact h; exact k
theorem AnyTick.store (s : CM) (a v : Int) : AnyTick s (s.store a v) := AnyTick.ite (.put _ _ _) (.tick _)
theorem AnyTick.swap (s : CM) (a o v : Int) : AnyTick s (s.swap a o v) := AnyTick.ite (.put _ _ _) (.tick _)
theorem AnyTick.add (s : CM) (a v : Int) : AnyTick s (s.add a v) := AnyTick.ite (.put _ _ _) (.tick _)
theorem AnyTick.storeB (s : CM) (a k b : Int) : AnyTick s (s.storeB a k b) := AnyTick.ite (.put _ _ _) (.tick _)

set_option maxRecDepth 100000 in
set_option linter.unusedVariables false in
theorem counts_walk (A : Option Addr) (n cap : Nat) (xs : List (List Int)) (w : World) (h : NumsIn 5 w A n xs) :
    Calls Try.prog 9 #[.slice A n cap] w fun e w' => e = .returned (.bool true) ∧ Fr (fun _ => False) w w' := by
  by_cases hn : n ≤ 300
  · go_enter Try.func9, Try.ntmps9
    go_wp2_with (first
      | (go_at_call 10; refine (first_calls _).mono ?_; rintro e w0 ⟨rfl, hf0⟩)
      | (go_at_call 11; refine (new_calls 3 _ (by omega) (by omega)).mono ?_; rintro e w1 ⟨rfl, hc1, hf1⟩))
    have hz : AnyCells w1 (w0.heap.size + 1) w0.heap.size 3 0 := ⟨_, hc1, rfl, rfl⟩
    have hfw := hf0.trans hf1
    have hl0 := hf0.size
    clear hf0 hf1 hc1
    go_loopw [5] (fun v5 wr => ∃ k : Nat, k ≤ n ∧ v5 = .int .i64 k ∧ AnyCells wr (w0.heap.size + 1) w0.heap.size 3 k ∧ Fr (fun _ => False) w wr) (fun v5 _ => n - (intOf v5).toNat)
    case atStart => exact ⟨0, Nat.zero_le _, rfl, hz, hfw⟩
    case round =>
      obtain ⟨k, hk, rfl, ⟨s, hc, hlen, hcnt⟩, hf⟩ := hrel
      clear hz hfw
      by_cases hlt : k < n
      · obtain ⟨ad, rfl, hcs⟩ := h.at_ (by omega)
        obtain ⟨hl5, hcl⟩ := hcs k hlt
        generalize hx : xs.getD k [] = x at hl5 hcl
        clear hx hcs
        match x, hl5, hcl with
        | [kd, a, b, v, u], _, hcl =>
        have q0 := hf.cell (hcl 0 (by omega)) (fun x => x)
        have q1 := hf.cell (hcl 1 (by omega)) (fun x => x)
        have q2 := hf.cell (hcl 2 (by omega)) (fun x => x)
        have q3 := hf.cell (hcl 3 (by omega)) (fun x => x)
        have q4 := hf.cell (hcl 4 (by omega)) (fun x => x)
        rw [add_past _ _ _ (by omega)] at q1 q2 q3 q4
        simp only [List.getD_cons_zero, List.getD_cons_succ, Nat.add_zero] at q0 q1 q2 q3 q4
        have hlw := hf.size
        have hc0 := hc.alloc (.cells #[.int .i64 kd, .int .i64 a, .int .i64 b, .int .i64 v, .int .i64 u] 30)
        have hlp := hc.lt
        have HLEN := Lib.hid hlen
        have HCNT := Lib.hid hcnt
        clear hcl hlen hcnt hc
        go_wp2_with (first
          | (go_at_call 13
             (with_reducible refine (load_calls _ _ s a _ hc0).mono ?_)
             rintro e w2 ⟨rfl, hc2, hf2⟩
             have ha2 := AnyTick.tick s
             generalize s.tick = t at hc2 ha2
             have e2 : t.cnt = (k : Int) + 1 := by rw [ha2.cnt, HCNT.out]; unfold wrap64; omega
             have e3 : t.xs.length = 3 := by rw [ha2.len, HLEN.out]
             have b1 := hf2.cell (show (wr.alloc (.cells #[.int .i64 kd, .int .i64 a, .int .i64 b, .int .i64 v, .int .i64 u] 30)).cell? ⟨wr.heap.size, 1, none⟩ = some (.int .i64 a) from by simp) (by unfold two; dsimp only; omega))
          | (go_at_call 12
             (with_reducible refine (store_calls _ _ s a v _ hc0).mono ?_)
             rintro e w2 ⟨rfl, hc2, hf2⟩
             have ha2 := AnyTick.store s a v
             generalize s.store a v = t at hc2 ha2
             have e2 : t.cnt = (k : Int) + 1 := by rw [ha2.cnt, HCNT.out]; unfold wrap64; omega
             have e3 : t.xs.length = 3 := by rw [ha2.len, HLEN.out]
             have b1 := hf2.cell (show (wr.alloc (.cells #[.int .i64 kd, .int .i64 a, .int .i64 b, .int .i64 v, .int .i64 u] 30)).cell? ⟨wr.heap.size, 1, none⟩ = some (.int .i64 a) from by simp) (by unfold two; dsimp only; omega))
          | (go_at_call 19
             (with_reducible refine (swap_calls _ _ s a u v _ hc0).mono ?_)
             rintro e w2 ⟨rfl, hc2, hf2⟩
             have ha2 := AnyTick.swap s a u v
             generalize s.swap a u v = t at hc2 ha2
             have e2 : t.cnt = (k : Int) + 1 := by rw [ha2.cnt, HCNT.out]; unfold wrap64; omega
             have e3 : t.xs.length = 3 := by rw [ha2.len, HLEN.out]
             have b1 := hf2.cell (show (wr.alloc (.cells #[.int .i64 kd, .int .i64 a, .int .i64 b, .int .i64 v, .int .i64 u] 30)).cell? ⟨wr.heap.size, 1, none⟩ = some (.int .i64 a) from by simp) (by unfold two; dsimp only; omega))
          | (go_at_call 14
             (with_reducible refine (add_calls _ _ s a v _ hc0).mono ?_)
             rintro e w2 ⟨rfl, hc2, hf2⟩
             have ha2 := AnyTick.add s a v
             generalize s.add a v = t at hc2 ha2
             have e2 : t.cnt = (k : Int) + 1 := by rw [ha2.cnt, HCNT.out]; unfold wrap64; omega
             have e3 : t.xs.length = 3 := by rw [ha2.len, HLEN.out]
             have b1 := hf2.cell (show (wr.alloc (.cells #[.int .i64 kd, .int .i64 a, .int .i64 b, .int .i64 v, .int .i64 u] 30)).cell? ⟨wr.heap.size, 1, none⟩ = some (.int .i64 a) from by simp) (by unfold two; dsimp only; omega))
          | (go_at_call 18
             (with_reducible refine (loadByte_calls _ _ s a b _ hc0).mono ?_)
             rintro e w2 ⟨rfl, hc2, hf2⟩
             have ha2 := AnyTick.tick s
             generalize s.tick = t at hc2 ha2
             have e2 : t.cnt = (k : Int) + 1 := by rw [ha2.cnt, HCNT.out]; unfold wrap64; omega
             have e3 : t.xs.length = 3 := by rw [ha2.len, HLEN.out]
             have b1 := hf2.cell (show (wr.alloc (.cells #[.int .i64 kd, .int .i64 a, .int .i64 b, .int .i64 v, .int .i64 u] 30)).cell? ⟨wr.heap.size, 1, none⟩ = some (.int .i64 a) from by simp) (by unfold two; dsimp only; omega))
          | (go_at_call 17
             (with_reducible refine (storeByte_calls _ _ s a b v _ hc0).mono ?_)
             rintro e w2 ⟨rfl, hc2, hf2⟩
             have ha2 := AnyTick.storeB s a b v
             generalize s.storeB a b v = t at hc2 ha2
             have e2 : t.cnt = (k : Int) + 1 := by rw [ha2.cnt, HCNT.out]; unfold wrap64; omega
             have e3 : t.xs.length = 3 := by rw [ha2.len, HLEN.out]
             have b1 := hf2.cell (show (wr.alloc (.cells #[.int .i64 kd, .int .i64 a, .int .i64 b, .int .i64 v, .int .i64 u] 30)).cell? ⟨wr.heap.size, 1, none⟩ = some (.int .i64 a) from by simp) (by unfold two; dsimp only; omega))
          | (go_at_call 15; refine (peek_calls _ _ _ _ _ hc2).mono ?_; rintro e w3 ⟨rfl, rfl⟩)
          | (go_at_call 16; refine (count_calls _ _ _ _ hc2).mono ?_; rintro e w3 ⟨rfl, rfl⟩)
          | (go_at_call 28; refine (len_calls _ _ _ _ hc2).mono ?_; rintro e w3 ⟨rfl, rfl⟩))
        all_goals
          go_roundw
          case rel => exact ⟨k + 1, by omega, by go_num, ⟨_, by assumption, by assumption, by assumption⟩, (hf.alloc _).fresh (by assumption) (by omega) (by omega)⟩
          case measure => simp [intOf]; omega
      · obtain rfl : k = n := by omega
        go_wp2_with (go_at_call 10; refine (first_calls _).mono ?_; rintro e w5 ⟨rfl, hf5⟩)
        go_ret
        exact ⟨rfl, hf.trans hf5⟩
  · have hg : (300 : Int) < n := by omega
    clear hn
    go_enter Try.func9, Try.ntmps9
    go_wp2_with (first
        | (go_at_call 10; refine (first_calls _).mono ?_; rintro e w0 ⟨rfl, hf0⟩)
        | (go_at_call 11; refine (new_calls 3 _ (by omega) (by omega)).mono ?_; rintro e w1 ⟨rfl, hc1, hf1⟩))
    all_goals go_ret
    all_goals exact ⟨rfl, by repeat (first | exact Fr.refl _ _ | assumption | refine Fr.trans ?_ (by assumption))⟩
end Go.Proofs.Ytellolecedpolaa
