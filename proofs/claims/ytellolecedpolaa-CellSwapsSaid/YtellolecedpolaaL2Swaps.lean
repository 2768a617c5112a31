/- ltklaw2.CellSwaps answers true. -/
import Derived.Test.YtellolecedpolaaL2Adds
namespace Go.Proofs.Ytellolecedpolaa
open Go.RowKit

def C2 (x s c : Int) : CM := { xs := [x, s], cnt := c }
theorem C2_zero : CM.zero (Int.toNat 2) = C2 0 0 0 := rfl
theorem C2_in0 (x s c : Int) : (C2 x s c).in 0 = true := by rw [CM.in_iff]; simp [C2]
theorem C2_in1 (x s c : Int) : (C2 x s c).in 1 = true := by rw [CM.in_iff]; simp [C2]
theorem C2_store (x s c v : Int) : (C2 x s c).store 0 v = C2 v s (wrap64 (c + 1)) := by unfold CM.store; rw [if_pos (C2_in0 _ _ _)]; rfl
theorem C2_word (x s c : Int) : (C2 x s c).word 0 = x := by unfold CM.word; rw [if_pos (C2_in0 _ _ _)]; rfl
theorem C2_hit (x s c old : Int) : (C2 x s c).hit 0 old = (x == old) := by unfold CM.hit; rw [C2_in0]; rfl
theorem C2_err0 (x s c : Int) : (C2 x s c).err 0 = 0 := by unfold CM.err; rw [if_pos (C2_in0 _ _ _)]
theorem C2_err1 (x s c : Int) : (C2 x s c).err 1 = 0 := by unfold CM.err; rw [if_pos (C2_in1 _ _ _)]
theorem C2_swap_yes (x s c old v : Int) (h : (x == old) = true) : (C2 x s c).swap 0 old v = C2 v s (wrap64 (c + 1)) := by unfold CM.swap; rw [if_pos (by rw [C2_hit]; exact h)]; rfl
theorem C2_swap_no (x s c old v : Int) (h : (x == old) = false) : (C2 x s c).swap 0 old v = C2 x s (wrap64 (c + 1)) := by unfold CM.swap; rw [if_neg (by rw [C2_hit, h]; simp)]; rfl
theorem C2_more (x s c n : Int) : (C2 x s c).more 1 n = wrap64 (s + n) := by unfold CM.more; rw [if_pos (C2_in1 _ _ _)]; rfl
theorem C2_add (x s c n : Int) : (C2 x s c).add 1 n = C2 x (wrap64 (s + n)) (wrap64 (c + 1)) := by unfold CM.add; rw [if_pos (C2_in1 _ _ _)]; rfl

/-- How many have won, and what stands there. -/
def Won (old x wins : Int) : Prop := (wins = 0 ∧ (x == old) = true) ∨ (wins = 1 ∧ (x == old) = false)

set_option maxRecDepth 100000 in
set_option linter.unusedVariables false in
theorem swaps_walk (old : Int) (A : Option Addr) (n cap : Nat) (xs : List Int) (w : World) (_ : (Lit.int .i64 old).wf = true) (h : IntsIn w A n xs) :
    Calls Try.prog 7 #[.int .i64 old, .slice A n cap] w fun e w' => e = .returned (.bool true) ∧ Fr (fun _ => False) w w' := by
  by_cases hn : n ≤ 100
  · have hst := C2_store 0 0 0 old
    have hz2 := C2_zero
    have Hz2 := Lib.hid hz2
    have Hst := Lib.hid hst
    clear hz2 hst
    go_enter Try.func7, Try.ntmps7
    go_wp2_with (first
      | (go_at_call 10; refine (first_calls _).mono ?_; rintro e w0 ⟨rfl, hf0⟩)
      | (go_at_call 11; refine (new_calls 2 _ (by omega) (by omega)).mono ?_; rw [Hz2.out]; rintro e w1 ⟨rfl, hc1, hf1⟩)
      | (go_at_call 12; refine (store_calls _ _ _ _ _ _ hc1).mono ?_; rw [Hst.out]; rintro e w2 ⟨rfl, hc2, hf2⟩))
    have hfw := (hf0.trans hf1).trans' hf2 (fun i hi hl => by unfold two at hi; have := hf0.size; omega)
    have hl0 := hf0.size
    clear hf0 hf1 hc1 hf2
    go_loopw [7, 8, 9] (fun v7 v8 v9 wr => ∃ (k : Nat) (x c wins : Int), k ≤ n ∧ v7 = .int .i64 wins ∧ v8 = .int .i64 (sumW (xs.take k)) ∧ v9 = .int .i64 k ∧ Won old x wins ∧ CellsAt wr (w0.heap.size + 1) w0.heap.size (C2 x (sumW (xs.take k)) c) ∧ Fr (fun _ => False) w wr) (fun _ _ v9 _ => n - (intOf v9).toNat)
    case atStart => exact ⟨0, old, _, 0, Nat.zero_le _, rfl, rfl, rfl, .inl ⟨rfl, by simp⟩, hc2, hfw⟩
    case round =>
      obtain ⟨k, x, c, wins, hk, rfl, rfl, rfl, hwon, hc, hf⟩ := hrel
      clear hc2 hfw
      have ew := C2_word x (sumW (xs.take k)) c
      by_cases hlt : k < n
      · obtain ⟨ad, rfl, hcs⟩ := h.at_ (by omega)
        have hcell : wr.cell? (ad.add k) = some (.int .i64 (xs.getD k 0)) := hf.cell (hcs k hlt) (fun x => x)
        have hsn := take_snoc_int xs k (by rw [h.len]; exact hlt)
        have HNB := Lib.hid (show ¬ two (w0.heap.size + 1) w0.heap.size (ad.add k).block from fun x => by have := World.block_lt_of_cell? w _ (hcs k hlt); unfold two at x; omega)
        clear hcs
        generalize xs.getD k 0 = v at hcell hsn
        have HSN := Lib.hid (hsn ▸ sumW_snoc (xs.take k) v : sumW (xs.take (k + 1)) = wrap64 (sumW (xs.take k) + v))
        clear hsn
        generalize sumW (xs.take k) = s at *
        have eh := C2_hit x s c old
        have ee := C2_err0 x s c
        rcases hwon with ⟨rfl, hx⟩ | ⟨rfl, hx⟩
        · have em := C2_more v s (wrap64 (c + 1)) v
          have e1 := C2_err1 v s (wrap64 (c + 1))
          have HS := Lib.hid (C2_swap_yes x s c old v hx)
          have HA := Lib.hid (C2_add v s (wrap64 (c + 1)) v)
          by_cases hv : (v == old) = true
          · have hv' : (v != old) = false := by simpa using hv
            go_wp2_with (first
              | (go_at_call 15; refine (peek_calls _ _ _ _ _ hc).mono ?_; rintro e w3 ⟨rfl, rfl⟩)
              | (go_at_call 19; refine (swap_calls _ _ _ _ _ _ _ hc).mono ?_; rw [HS.out]; rintro e w4 ⟨rfl, hc4, hf4⟩; have hcell4 := hf4.cell hcell HNB.out)
              | (go_at_call 14; refine (add_calls _ _ _ _ _ _ hc4).mono ?_; rw [HA.out]; rintro e w5 ⟨rfl, hc5, hf5⟩))
            go_roundw
            case rel => exact ⟨k + 1, v, _, 0, by omega, rfl, by rw [HSN.out], by go_num, .inl ⟨rfl, hv⟩, by rw [HSN.out]; exact hc5, (hf.fresh hf4 (by omega) (by omega)).fresh hf5 (by omega) (by omega)⟩
            case measure => simp [intOf]; omega
          · replace hv := Bool.eq_false_iff.mpr hv
            have hv' : (v != old) = true := by simpa using hv
            go_wp2_with (first
              | (go_at_call 15; refine (peek_calls _ _ _ _ _ hc).mono ?_; rintro e w3 ⟨rfl, rfl⟩)
              | (go_at_call 19; refine (swap_calls _ _ _ _ _ _ _ hc).mono ?_; rw [HS.out]; rintro e w4 ⟨rfl, hc4, hf4⟩; have hcell4 := hf4.cell hcell HNB.out)
              | (go_at_call 14; refine (add_calls _ _ _ _ _ _ hc4).mono ?_; rw [HA.out]; rintro e w5 ⟨rfl, hc5, hf5⟩))
            go_roundw
            case rel => exact ⟨k + 1, v, _, 1, by omega, rfl, by rw [HSN.out], by go_num, .inr ⟨rfl, hv⟩, by rw [HSN.out]; exact hc5, (hf.fresh hf4 (by omega) (by omega)).fresh hf5 (by omega) (by omega)⟩
            case measure => simp [intOf]; omega
        · have em := C2_more x s (wrap64 (c + 1)) v
          have e1 := C2_err1 x s (wrap64 (c + 1))
          have HS := Lib.hid (C2_swap_no x s c old v hx)
          have HA := Lib.hid (C2_add x s (wrap64 (c + 1)) v)
          go_wp2_with (first
              | (go_at_call 15; refine (peek_calls _ _ _ _ _ hc).mono ?_; rintro e w3 ⟨rfl, rfl⟩)
              | (go_at_call 19; refine (swap_calls _ _ _ _ _ _ _ hc).mono ?_; rw [HS.out]; rintro e w4 ⟨rfl, hc4, hf4⟩; have hcell4 := hf4.cell hcell HNB.out)
              | (go_at_call 14; refine (add_calls _ _ _ _ _ _ hc4).mono ?_; rw [HA.out]; rintro e w5 ⟨rfl, hc5, hf5⟩))
          go_roundw
          case rel => exact ⟨k + 1, x, _, 1, by omega, rfl, by rw [HSN.out], by go_num, .inr ⟨rfl, hx⟩, by rw [HSN.out]; exact hc5, (hf.fresh hf4 (by omega) (by omega)).fresh hf5 (by omega) (by omega)⟩
          case measure => simp [intOf]; omega
      · obtain rfl : k = n := by omega
        rcases hwon with ⟨rfl, hx⟩ | ⟨rfl, hx⟩
        all_goals
          go_wp2_with (first
              | (go_at_call 10; refine (first_calls _).mono ?_; rintro e w5 ⟨rfl, hf5⟩)
              | (go_at_call 15; refine (peek_calls _ _ _ _ _ (hc.frame hf5 (fun x => x) (fun x => x))).mono ?_; rintro e w6 ⟨rfl, rfl⟩))
          go_ret
          exact ⟨rfl, hf.trans hf5⟩
  · have hg : (100 : Int) < n := by omega
    clear hn
    go_enter Try.func7, Try.ntmps7
    go_wp2_with (first
        | (go_at_call 10; refine (first_calls _).mono ?_; rintro e w0 ⟨rfl, hf0⟩)
        | (go_at_call 11; refine (new_calls 2 _ (by omega) (by omega)).mono ?_; rintro e w1 ⟨rfl, hc1, hf1⟩))
    all_goals go_ret
    all_goals exact ⟨rfl, by repeat (first | exact Fr.refl _ _ | assumption | refine Fr.trans ?_ (by assumption))⟩
end Go.Proofs.Ytellolecedpolaa
