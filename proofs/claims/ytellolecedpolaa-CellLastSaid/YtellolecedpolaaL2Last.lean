/- ltklaw2.CellLast answers true. -/
import Derived.Test.YtellolecedpolaaL2Counts
namespace Go.Proofs.Ytellolecedpolaa
open Go.RowKit

def Cw (ws : List Int) (c : Int) : CM := { xs := ws, cnt := c }
theorem Cw_in (ws : List Int) (c a : Int) (h : ws.length = 20) (h0 : 0 ≤ a) (h1 : a ≤ 19) : (Cw ws c).in a = true := by rw [CM.in_iff]; simp [Cw, h]; omega
theorem Cw_out (ws : List Int) (c a : Int) (h : ws.length = 20) (h0 : a < 0 ∨ 19 < a) : (Cw ws c).in a = false := by
  rw [Bool.eq_false_iff, ne_eq, CM.in_iff]; simp [Cw, h]; omega
theorem Cw_err_in (ws : List Int) (c a : Int) (h : ws.length = 20) (h0 : 0 ≤ a) (h1 : a ≤ 19) : (Cw ws c).err a = 0 := by unfold CM.err; rw [if_pos (Cw_in ws c a h h0 h1)]
theorem Cw_err_out (ws : List Int) (c a : Int) (h : ws.length = 20) (h0 : a < 0 ∨ 19 < a) : (Cw ws c).err a = 1 := by unfold CM.err; rw [Cw_out ws c a h h0]; rfl
theorem Cw_store_in (ws : List Int) (c a v : Int) (h : ws.length = 20) (h0 : 0 ≤ a) (h1 : a ≤ 19) : (Cw ws c).store a v = Cw (ws.set a.toNat v) (wrap64 (c + 1)) := by unfold CM.store; rw [if_pos (Cw_in ws c a h h0 h1)]; rfl
theorem Cw_store_out (ws : List Int) (c a v : Int) (h : ws.length = 20) (h0 : a < 0 ∨ 19 < a) : (Cw ws c).store a v = Cw ws (wrap64 (c + 1)) := by unfold CM.store; rw [Cw_out ws c a h h0]; rfl
theorem Cw_word (ws : List Int) (c a : Int) (h : ws.length = 20) (h0 : 0 ≤ a) (h1 : a ≤ 19) : (Cw ws c).word a = ws.getD a.toNat 0 := by unfold CM.word; rw [if_pos (Cw_in ws c a h h0 h1)]; rfl

set_option maxRecDepth 100000 in
set_option linter.unusedVariables false in
theorem last_walk (A : Option Addr) (n cap : Nat) (xs : List (List Int)) (w : World) (h : NumsIn 5 w A n xs) :
    Calls Try.prog 3 #[.slice A n cap] w fun e w' => e = .returned (.bool true) ∧ Fr (fun _ => False) w w' := by
  by_cases hn : n ≤ 300
  · go_enter Try.func3, Try.ntmps3
    go_wp2_with (first
      | (go_at_call 10; refine (first_calls _).mono ?_; rintro e w0 ⟨rfl, hf0⟩)
      | (go_at_call 11; refine (new_calls 20 _ (by omega) (by omega)).mono ?_; rintro e w1 ⟨rfl, hc1, hf1⟩))
    have hl0 := hf0.size
    have hl1 := hc1.lt
    have hB := heap_alloc_new w1 (.cells (ints (List.replicate 20 0)) 28)
    have hC : CellsAt (w1.alloc (.cells (ints (List.replicate 20 0)) 28)) (w0.heap.size + 1) w0.heap.size (Cw (List.replicate 20 0) 0) := hc1.alloc _
    have hfw := (hf0.trans hf1).alloc (.cells (ints (List.replicate 20 0)) 28)
    clear hf0 hf1 hc1
    go_loopw [6] (fun v6 wr => ∃ (k : Nat) (ws : List Int) (c : Int), k ≤ n ∧ v6 = .int .i64 k ∧ ws.length = 20 ∧ CellsAt wr (w0.heap.size + 1) w0.heap.size (Cw ws c) ∧ wr.heap[w1.heap.size]? = some (.cells (ints ws) 28 (0, 0)) ∧ Fr (fun _ => False) w wr) (fun v6 _ => n - (intOf v6).toNat)
    case atStart => exact ⟨0, List.replicate 20 0, 0, Nat.zero_le _, rfl, rfl, hC, hB, hfw⟩
    case round =>
      obtain ⟨k, ws, c, hk, rfl, hws, hc, hb, hf⟩ := hrel
      clear hC hB hfw
      have HWS := Lib.hid hws
      have HB := Lib.hid hb
      by_cases hlt : k < n
      · obtain ⟨ad, rfl, hcs⟩ := h.at_ (by omega)
        obtain ⟨hl5, hcl⟩ := hcs k hlt
        have hnb := World.block_lt_of_cell? w _ (hcl 0 (by omega))
        generalize hx : xs.getD k [] = x at hl5 hcl
        clear hx hcs
        match x, hl5, hcl with
        | [kd, a, b, v, u], _, hcl =>
        have q1 := hf.cell (hcl 1 (by omega)) (fun x => x)
        have q3 := hf.cell (hcl 3 (by omega)) (fun x => x)
        rw [add_blk] at hnb
        have HN1 := Lib.hid (show ¬ two (w0.heap.size + 1) w0.heap.size (ad.add (k * 5 + 1)).block from fun x => by rw [add_blk] at x; unfold two at x; omega)
        have HN3 := Lib.hid (show ¬ two (w0.heap.size + 1) w0.heap.size (ad.add (k * 5 + 3)).block from fun x => by rw [add_blk] at x; unfold two at x; omega)
        have HNW := Lib.hid (show ¬ two (w0.heap.size + 1) w0.heap.size w1.heap.size from fun x => by unfold two at x; omega)
        rw [add_past _ _ _ (by omega)] at q1 q3 HN1 HN3
        simp only [List.getD_cons_zero, List.getD_cons_succ] at q1 q3
        clear hcl
        by_cases ha : 0 ≤ a ∧ a ≤ 19
        · obtain ⟨ha0, ha1⟩ := ha
          have ee := Cw_err_in ws c a hws ha0 ha1
          have HS := Lib.hid (Cw_store_in ws c a v hws ha0 ha1)
          clear hws hb
          go_wp2_with (first
            | (go_at_call 12
               (with_reducible refine (store_calls _ _ (Cw ws c) a v _ hc).mono ?_)
               rw [HS.out]
               rintro e w2 ⟨rfl, hc2, hf2⟩
               have q3' := hf2.cell q3 HN3.out
               have hb2 := hf2.heap HB.out HNW.out
               have qb := blk_cell hb2 a.toNat
               rw [ints_get _ _ (by rw [HWS.out]; omega)] at qb
               have qf := blk_free hb2 a.toNat
               have HB2 := Lib.hid hb2
               clear hb2))
          go_roundw
          case rel => exact ⟨k + 1, ws.set a.toNat v, _, by omega, by go_num, by rw [List.length_set]; exact HWS.out, ⟨hc2.len, by rw [blk_other hc2.hp (by omega)], by rw [blk_other hc2.ha (by omega)], hc2.ne⟩, by rw [blk_set HB2.out, ints_set], (hf.fresh hf2 (by omega) (by omega)).setCell (.inr (by simp; omega)) _⟩
          case measure => simp [intOf]; omega
        · have ha' : a < 0 ∨ 19 < a := by omega
          have ee := Cw_err_out ws c a hws ha'
          have HS := Lib.hid (Cw_store_out ws c a v hws ha')
          clear ha hws hb
          rcases ha' with ha | ha
          all_goals
            go_wp2_with (first
              | (go_at_call 12
                 (with_reducible refine (store_calls _ _ (Cw ws c) a v _ hc).mono ?_)
                 rw [HS.out]
                 rintro e w2 ⟨rfl, hc2, hf2⟩))
            go_roundw
            case rel => exact ⟨k + 1, ws, _, by omega, by go_num, HWS.out, hc2, hf2.heap HB.out HNW.out, hf.fresh hf2 (by omega) (by omega)⟩
            case measure => simp [intOf]; omega
      · obtain rfl : k = n := by omega
        clear hws hb
        go_wp2
        go_loopw [8] (fun v8 wq => ∃ (j : Nat) (d : Int), j ≤ 20 ∧ v8 = .int .i64 j ∧ CellsAt wq (w0.heap.size + 1) w0.heap.size (Cw ws d) ∧ wq.heap[w1.heap.size]? = some (.cells (ints ws) 28 (0, 0)) ∧ Fr (fun _ => False) w wq) (fun v8 _ => 20 - (intOf v8).toNat)
        case atStart => exact ⟨0, c, by omega, rfl, hc, HB.out, hf⟩
        case round =>
          obtain ⟨j, d, hj, rfl, hc3, hb3, hf3⟩ := hrel
          have HNW := Lib.hid (show ¬ two (w0.heap.size + 1) w0.heap.size w1.heap.size from fun x => by unfold two at x; omega)
          have HB3 := Lib.hid hb3
          clear hb3 hc hf
          by_cases hj20 : j < 20
          · have ee := Cw_err_in ws d j HWS.out (by omega) (by omega)
            have ew := Cw_word ws d j HWS.out (by omega) (by omega)
            rw [Int.toNat_natCast] at ew
            have HT : Hid ((Cw ws d).tick = Cw ws (wrap64 (d + 1))) := rfl
            generalize hz : ws.getD j 0 = z at ew
            have HZ := Lib.hid hz
            clear hz
            go_wp2_with (first
              | (go_at_call 13
                 (with_reducible refine (load_calls _ _ (Cw ws d) _ _ hc3).mono ?_)
                 rw [HT.out]
                 rintro e w4 ⟨rfl, hc4, hf4⟩
                 have hb4 := hf4.heap HB3.out HNW.out
                 have qb := blk_cell hb4 j
                 rw [ints_get _ _ (by rw [HWS.out]; omega), HZ.out] at qb
                 have HB4 := Lib.hid hb4
                 clear hb4))
            go_roundw
            case rel => exact ⟨j + 1, _, by omega, by go_num, hc4, HB4.out, hf3.fresh hf4 (by omega) (by omega)⟩
            case measure => simp [intOf]; omega
          · obtain rfl : j = 20 := by omega
            go_wp2_with (go_at_call 10; refine (first_calls _).mono ?_; rintro e w5 ⟨rfl, hf5⟩)
            go_ret
            exact ⟨rfl, hf3.trans hf5⟩
  · have hg : (300 : Int) < n := by omega
    clear hn
    go_enter Try.func3, Try.ntmps3
    go_wp2_with (first
        | (go_at_call 10; refine (first_calls _).mono ?_; rintro e w0 ⟨rfl, hf0⟩)
        | (go_at_call 11; refine (new_calls 20 _ (by omega) (by omega)).mono ?_; rintro e w1 ⟨rfl, hc1, hf1⟩))
    all_goals go_ret
    all_goals exact ⟨rfl, by repeat (first | exact Fr.refl _ _ | assumption | refine Fr.trans ?_ (by assumption))⟩
end Go.Proofs.Ytellolecedpolaa
