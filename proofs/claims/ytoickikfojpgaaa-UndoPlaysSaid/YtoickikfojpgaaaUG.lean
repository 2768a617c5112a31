/- ltklaw14.first and ltklaw14.UndoFull answer true. -/
import Derived.Test.YtoickikfojpgaaaUF
namespace Go.Proofs.Ytoickikfojpgaaa
open Go.RowKit

def mkAcc (a v : Int) (ha : (Lit.int .i64 a).wf = true) (hv : (Lit.int .i64 v).wf = true) : Acc := ⟨(a, v), ha, hv⟩
set_option maxRecDepth 100000 in
theorem first1_calls (w : World) : Calls Try.prog 7 #[] w fun e w' => e = .returned (.bool true) ∧ Fr (fun _ => False) w w' := by
  have T1 : True := trivial
  have T2 : True := trivial
  go_enter Try.func7, Try.ntmps7
  go_wp2_with (first
    | (go_at_call 8; refine (new_in 1 (by decide) (by decide) w w (Fr.refl _ _)).mono ?_; rintro e w1 ⟨lb, rfl, h1, _⟩)
    | (go_at_call 9; have _t := T1; refine (push_in h1 (by decide) (mkAcc 0 1 rfl rfl)).mono ?_; rintro e w2 ⟨rfl, v2, h2, _⟩; clear T1)
    | (go_at_call 9; have _t := T2; refine (full_in h2 (by decide) (mkAcc 0 2 rfl rfl)).mono ?_; rintro e w3 ⟨rfl, h3, _⟩; clear T2)
    | (go_at_call 11; refine (len_in h3).mono ?_; rintro e w4 ⟨rfl, rfl⟩)
    | (go_at_call 17; refine (room_in h3).mono ?_; rintro e w5 ⟨rfl, h5, _⟩))
  go_ret
  exact ⟨rfl, h5.fr⟩

theorem wf_of {x : Int} (h1 : -9223372036854775808 ≤ x) (h2 : x ≤ 9223372036854775807) : (Lit.int .i64 x).wf = true := by
  have e1 : decide (IntKind.i64.min ≤ x) = true := decide_eq_true h1
  have e2 : decide (x ≤ IntKind.i64.max) = true := decide_eq_true h2
  show (decide (IntKind.i64.min ≤ x) && decide (x ≤ IntKind.i64.max)) = true
  rw [e1, e2]; rfl
theorem firsts_nil {out : List Acc} (h : IsFirsts [] out) : out = [] := firsts_unique h ⟨List.Pairwise.nil, fun a v => ⟨fun ⟨p, hp, _⟩ => (by cases hp), fun h => (by cases h)⟩⟩
/-- The entries of UndoFull. -/
def fullAcc (j : Nat) : Acc := if h : j ≤ 1000 then ⟨(((j % 7 : Nat) : Int), (j : Int)), wf_of (by omega) (by omega), wf_of (by omega) (by omega)⟩ else acc0
theorem fullAcc_of {j : Nat} (h : j ≤ 1000) : (fullAcc j).1 = (((j % 7 : Nat) : Int), (j : Int)) := by unfold fullAcc; rw [dif_pos h]
def fullAccs (k : Nat) : List Acc := (List.range k).map fullAcc
theorem fullAccs_len (k : Nat) : (fullAccs k).length = k := by simp [fullAccs]
theorem fullAccs_succ (k : Nat) : fullAccs (k + 1) = fullAccs k ++ [fullAcc k] := by simp [fullAccs, List.range_succ]

set_option maxRecDepth 100000 in
theorem full_calls (most pops : Int) (w : World) : Calls Try.prog 6 #[.int .i64 most, .int .i64 pops] w fun e w' => e = .returned (.bool true) ∧ Fr (fun _ => False) w w' := by
  have T1 : True := trivial
  by_cases hin : 1 ≤ most ∧ most ≤ 200 ∧ 0 ≤ pops ∧ pops ≤ most
  · obtain ⟨hm1, hm2, hp1, hp2⟩ := hin
    obtain ⟨n, rfl⟩ : ∃ n : Nat, most = n := ⟨most.toNat, by omega⟩
    obtain ⟨p, rfl⟩ : ∃ p : Nat, pops = p := ⟨pops.toNat, by omega⟩
    go_enter Try.func6, Try.ntmps6
    go_wp2_with (first
      | (go_at_call 7; have _t := T1; refine (first1_calls w).mono ?_; rintro e w1 ⟨rfl, hf1⟩; clear T1)
      | (go_at_call 8; refine (new_in n (by omega) (by omega) w w1 hf1).mono ?_; rintro e w2 ⟨lb, rfl, h2, _⟩))
    go_loopw [7, 8] (fun v7 v8 wr => ∃ i v, v7 = .int .i64 (i : Nat) ∧ i ≤ n + 3 ∧ LogIn w wr lb v (fullAccs (min i n)) n) (fun v7 _ _ => n + 3 - (intOf v7).toNat)
    case atStart => exact ⟨0, _, rfl, by omega, by rw [Nat.zero_min]; exact h2⟩
    case round =>
      obtain ⟨i, v, rfl, hi, h3⟩ := hrel
      by_cases hlt : i < n
      · have hmin : min i n = i := by omega
        rw [hmin] at h3
        have hx : fullAccs (min (i + 1) n) = fullAccs i ++ [fullAcc i] := by rw [show min (i + 1) n = i + 1 by omega, fullAccs_succ]
        have hP := push_in h3 (by rw [fullAccs_len]; omega) (fullAcc i)
        rw [fullAcc_of (by omega)] at hP
        have hq : ((n : Int) - ((fullAccs (min (i + 1) n)).length : Int) != max ((n : Int) - 1 - (i : Int)) 0) = false := by rw [fullAccs_len]; simp; omega
        have HX := Lib.hid hx
        clear hx hmin
        go_wp2_with (first
          | (go_at_call 9; refine hP.mono ?_; rintro e w4 ⟨rfl, v4, h4, _⟩; rw [← HX.out] at h4)
          | (go_at_call 17; refine (room_in h4).mono ?_; rintro e w5 ⟨rfl, h5, _⟩))
        go_roundw
        case rel => exact ⟨i + 1, _, by go_num, by omega, h5⟩
        case measure => simp [intOf]; omega
      · by_cases hlt2 : i < n + 3
        · have hmin : min i n = n := by omega
          rw [hmin] at h3
          have hx : fullAccs (min (i + 1) n) = fullAccs n := by rw [show min (i + 1) n = n by omega]
          have hP := full_in h3 (by rw [fullAccs_len]) (fullAcc i)
          rw [fullAcc_of (by omega)] at hP
          have hq : ((n : Int) - ((fullAccs (min (i + 1) n)).length : Int) != max ((n : Int) - 1 - (i : Int)) 0) = false := by rw [fullAccs_len]; simp; omega
          have HX := Lib.hid hx
          clear hx hmin
          go_wp2_with (first
            | (go_at_call 9; refine hP.mono ?_; rintro e w4 ⟨rfl, h4, _⟩; rw [← HX.out] at h4)
            | (go_at_call 17; refine (room_in h4).mono ?_; rintro e w5 ⟨rfl, h5, _⟩))
          go_roundw
          case rel => exact ⟨i + 1, _, by go_num, by omega, h5⟩
          case measure => simp [intOf]; omega
        · rw [show min i n = n - 0 by omega] at h3
          go_wp2
          go_loopw [9, 10, 11] (fun v9 v10 v11 wr => ∃ i v, v9 = .int .i64 (i : Nat) ∧ i ≤ p ∧ LogIn w wr lb v (fullAccs (n - i)) n) (fun v9 _ _ _ => p - (intOf v9).toNat)
          case atStart => exact ⟨0, _, rfl, by omega, h3⟩
          case round =>
            clear h3
            obtain ⟨i, v, rfl, hi, h3⟩ := hrel
            by_cases hlt3 : i < p
            · obtain ⟨q, hq⟩ : ∃ q, q = n - 1 - i := ⟨_, rfl⟩
              have hqi : (n : Int) - 1 - (i : Int) = (q : Int) := by omega
              have hx : fullAccs (n - i) = fullAccs q ++ [fullAcc q] := by rw [show n - i = q + 1 by omega, fullAccs_succ]
              rw [hx] at h3
              have hP := pop_in h3
              rw [fullAcc_of (by omega)] at hP
              have HQ := Lib.hid hq
              clear hx hq
              go_wp2_with (first
                | (go_at_call 12; refine hP.mono ?_; rintro e w4 ⟨rfl, v4, h4, _⟩; replace h4 := h4.frame ((Fr.refl _ _).alloc (.cells #[.int .i64 ((q % 7 : Nat) : Int), .int .i64 (q : Int)] 34))))
              go_roundw
              case rel => exact ⟨i + 1, _, by go_num, by omega, by rw [show n - (i + 1) = q by have := HQ.out; omega]; exact h4⟩
              case measure => simp [intOf]; omega
            · obtain rfl : i = p := by omega
              have hlen : ((fullAccs (n - i)).length : Int) = (n : Int) - (i : Int) := by rw [fullAccs_len]; omega
              have T2 : True := trivial
              have T3 : True := trivial
              go_wp2_with (first
                | (go_at_call 11; have _t := T2; refine (len_in h3).mono ?_; rintro e w4 ⟨rfl, rfl⟩; clear T2; rw [hlen])
                | (go_at_call 16; refine (clear_in h3).mono ?_; rintro e w5 ⟨rfl, h5, _⟩)
                | (go_at_call 12; refine (none_in h5).mono ?_; rintro e w6 ⟨rfl, h6, _⟩; replace h6 := h6.frame ((Fr.refl _ _).alloc (.cells #[.int .i64 0, .int .i64 0] 34)))
                | (go_at_call 7; refine (first1_calls _).mono ?_; rintro e w7 ⟨rfl, hf7⟩; have h7 := h6.frame hf7)
                | (go_at_call 11; have _t := T3; refine (len_in h7).mono ?_; rintro e w8 ⟨rfl, rfl⟩; clear T3)
                | (go_at_call 17; refine (room_in h7).mono ?_; rintro e w9 ⟨rfl, h9, _⟩)
                | (go_at_call 10; refine (first_in h9).mono ?_; rintro e w10 ⟨A, out, c, rfl, ho, _, h10, _⟩; obtain rfl := firsts_nil ho))
              go_ret
              exact ⟨rfl, h10.fr⟩
  · by_cases hA : most < 1 ∨ 200 < most
    · go_enter Try.func6, Try.ntmps6
      go_wp2_with (first
        | (go_at_call 7; have _t := T1; refine (first1_calls w).mono ?_; rintro e w1 ⟨rfl, hf1⟩; clear T1)
        | (go_at_call 7; refine (first1_calls w1).mono ?_; rintro e w2 ⟨rfl, hf2⟩))
      all_goals go_ret
      all_goals exact ⟨rfl, hf1.trans hf2⟩
    · have hp : pops < 0 ∨ most < pops := by omega
      go_enter Try.func6, Try.ntmps6
      go_wp2_with (first
        | (go_at_call 7; have _t := T1; refine (first1_calls w).mono ?_; rintro e w1 ⟨rfl, hf1⟩; clear T1)
        | (go_at_call 7; refine (first1_calls w1).mono ?_; rintro e w2 ⟨rfl, hf2⟩))
      all_goals go_ret
      all_goals exact ⟨rfl, hf1.trans hf2⟩
theorem full_walk (most pops : Int) (w : World) (_ : (Lit.int .i64 most).wf = true) (_ : (Lit.int .i64 pops).wf = true) :
    Calls Try.prog 6 #[.int .i64 most, .int .i64 pops] w fun e w' => e = .returned (.bool true) ∧ Fr (fun _ => False) w w' := full_calls most pops w
end Go.Proofs.Ytoickikfojpgaaa
