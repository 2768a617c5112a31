/- ltkref1.Eval: the greatest and the least; the whole. -/
import Derived.Test.YtkaokhpaabfhmaaCalcRef
namespace Go.Proofs.Ytkaokhpaabfhmaa
open Go.RowKit

set_option maxRecDepth 100000 in
set_option maxHeartbeats 4000000 in
set_option linter.unusedVariables false in
theorem refEvalHigh (k : Int) (A : Option Addr) (n cap : Nat) (xs : List Int) (w : World) (hI : IntsC w A n cap xs) (hk : known k = true) (g1 : decide (7 ≤ k) = true) (hn : n ≠ 0) :
    Calls Try.prog 38 #[.int .i64 k, .slice A n cap] w fun e w' => e = .returned (.tuple #[.int .i64 (evalV k xs), .int .i64 (evalE k xs)]) ∧ Fr (fun _ => False) w w' := by
  have HJ := Lib.hid hI
  have hl := hI.row.len
  have hb := hI.max
  have HK := Lib.hid (refKnownC k)
  have HN := Lib.hid (known_nine hk)
  have HEE := Lib.hid (show evalE k xs = 0 from evalE_ok hk (by intro hx; subst hx; exact hn hl.symm))
  have g2 : ((n : Int) == 0) = false := by simpa using hn
  have g3 : decide (7 ≤ k) = true := g1
  have hrow := hI.row
  clear hI hn
  go_enter Try.func38, Try.ntmps38
  go_wp2_with (first
    | (go_at_call 35; refine (HK.out _).mono ?_; rintro e w1 ⟨rfl, rfl⟩))
  go_loopw [6, 7, 8, 9, 10, 11, 12] (fun v6 v7 v8 v9 v10 v11 v12 wr => ∃ i : Nat, i ≤ n ∧ v12 = .int .i64 i ∧ v6 = .int .i64 (foldAll 0 0 (xs.take i)) ∧ v7 = .int .i64 (foldAll 2 1 (xs.take i)) ∧ v8 = .int .i64 (foldAll 5 (-1) (xs.take i)) ∧ v9 = .int .i64 (foldAll 6 0 (xs.take i)) ∧ v10 = .bool (chainB 3 (xs.take i)) ∧ v11 = .bool (chainB 4 (xs.take i)) ∧ Fr (fun _ => False) w1 wr) (fun _ _ _ _ _ _ v12 _ => n - (intOf v12).toNat)
  case atStart => exact ⟨0, by omega, rfl, rfl, rfl, rfl, rfl, rfl, rfl, Fr.refl _ _⟩
  case round =>
    obtain ⟨i, hi, rfl, rfl, rfl, rfl, rfl, rfl, rfl, hf⟩ := hrel
    by_cases hlt : i < n
    · obtain ⟨ad, rfl, hc⟩ := hrow.at_ (by omega)
      have h0 : xs.length = n := hl
      have HS0 := Lib.hid (foldAll_take 0 0 xs i (by omega))
      have HS2 := Lib.hid (foldAll_take 2 1 xs i (by omega))
      have HS5 := Lib.hid (foldAll_take 5 (-1) xs i (by omega))
      have HS6 := Lib.hid (foldAll_take 6 0 xs i (by omega))
      have HC4 := Lib.hid (chain4_take xs i (by omega))
      have q0 := hf.cell (hc 0 (by omega)) (fun x => x)
      rw [add_nil] at q0
      have q1 := hf.cell (hc i hlt) (fun x => x)
      generalize foldAll 0 0 (xs.take i) = s0 at HS0
      generalize foldAll 2 1 (xs.take i) = s2 at HS2
      generalize foldAll 5 (-1) (xs.take i) = s5 at HS5
      generalize foldAll 6 0 (xs.take i) = s6 at HS6
      generalize hb3 : chainB 3 (xs.take i) = b3
      generalize hb4 : chainB 4 (xs.take i) = b4
      have HB3 := Lib.hid hb3
      have HB4 := Lib.hid hb4
      by_cases hi0 : i = 0
      · subst hi0
        obtain rfl : b3 = true := hb3.symm
        obtain rfl : b4 = true := hb4.symm
        have HC3 := Lib.hid (chain3_one xs (by omega))
        generalize xs.getD 0 0 = x0 at q0 HS0 HS2 HS5 HS6 HC4
        clear q1 hc hrow hl h0 hb3 hb4
        go_wp2
        go_quiet (fail)
        go_wp2
        go_quiet (fail)
        go_wp2
        go_quiet (fail)
        go_wp2
        go_roundw
        case rel => exact ⟨0 + 1, by omega, by go_num, by rw [HS0.out]; rfl, by rw [HS2.out]; rfl, by rw [HS5.out]; rfl, by rw [HS6.out]; rfl, by rw [HC3.out], by rw [HC4.out, HB4.out]; simp, by repeat (first | exact hf | refine Fr.drewN ?_ _)⟩
        case measure => simp [intOf]; omega
      · obtain ⟨p, rfl⟩ : ∃ p, i = p + 1 := ⟨i - 1, by omega⟩
        have HC3 := Lib.hid (chain3_step xs p (by omega))
        have qp := hf.cell (hc p (by omega)) (fun x => x)
        generalize xs.getD 0 0 = x0 at q0 HC4
        generalize xs.getD (p + 1) 0 = x1 at q1 HS0 HS2 HS5 HS6 HC4 HC3
        generalize xs.getD p 0 = xp at qp HC3
        have hp0 : p < n := by omega
        have hn0 : 0 < n := by omega
        have HXI : Hid (∀ m, m = p + 1 → True) := fun _ _ => trivial
        generalize hm : p + 1 = m at *
        have e1 : IntKind.i64.wrap ((m : Int) - 1) = (p : Int) := by rw [iw]; unfold wrap64; omega
        have em : ((m : Int) == 0) = false := by simp; omega
        have HM := Lib.hid hm
        clear hc hrow hl h0 hm hb3 hb4
        cases b3 <;> cases b4
        all_goals
          go_wp2
          go_quiet (fail)
          go_wp2
          go_quiet (fail)
          go_wp2
          go_quiet (fail)
          go_wp2
          go_roundw
          case rel => exact ⟨m + 1, by omega, by go_num, by rw [HS0.out]; rfl, by rw [HS2.out]; rfl, by rw [HS5.out]; rfl, by rw [HS6.out]; rfl, by rw [← HM.out, HC3.out, HB3.out]; simp, by rw [HC4.out, HB4.out]; simp, by repeat (first | exact hf | refine Fr.drewN ?_ _)⟩
          case measure => simp [intOf]; omega
    · obtain rfl : i = n := by omega
      obtain ⟨ad, rfl, hc⟩ := hrow.at_ (by simp at g2; omega)
      obtain ⟨x0, hx0⟩ : ∃ x0, x0 = xs.getD 0 0 := ⟨_, rfl⟩
      have HV := Lib.hid (show (k = 7 → evalV k xs = foldAll 7 x0 xs) ∧ (k = 8 → evalV k xs = foldAll 8 x0 xs) from by
        rw [hx0]
        match xs, hl with
        | [], hl => exact absurd hl (by simp at g2; simp; omega)
        | a :: l, _ => exact ⟨fun h => by subst h; exact evalV_7 a l, fun h => by subst h; exact evalV_8 a l⟩)
      have hi0 : 0 < i := by simp at g2; omega
      have q0 := hf.cell (hc 0 hi0) (fun x => x)
      rw [add_nil, ← hx0] at q0
      have HC := Lib.hid hc
      have HL := Lib.hid hl
      have hh : ((k == 0) = false ∧ (k == 1) = false ∧ (k == 2) = false ∧ (k == 3) = false) ∧ (k == 4) = false ∧ (k == 5) = false ∧ (k == 6) = false := by simp at g1; simp; omega
      obtain ⟨⟨k0, k1, k2, k3⟩, k4, k5, k6⟩ := hh
      clear hrow hl hc hx0
      go_wp2
      go_quiet (fail)
      go_wp2
      have HF := Lib.hid (hf.drewN nq)
      clear q0 hf
      go_loopw [13, 14, 15] (fun v13 v14 v15 wx => ∃ j : Nat, j ≤ i ∧ v15 = .int .i64 j ∧ v13 = .int .i64 (foldAll 7 x0 (xs.take j)) ∧ v14 = .int .i64 (foldAll 8 x0 (xs.take j)) ∧ Fr (fun _ => False) w1 wx) (fun _ _ v15 _ => i - (intOf v15).toNat)
      case atStart => exact ⟨0, by omega, rfl, rfl, rfl, HF.out⟩
      case round =>
        obtain ⟨j, hj, rfl, rfl, rfl, hf⟩ := hrel
        by_cases hlt2 : j < i
        · have q1 := hf.cell (HC.out j hlt2) (fun x => x)
          have HS7 := Lib.hid (foldAll_take 7 x0 xs j (by rw [HL.out]; omega))
          have HS8 := Lib.hid (foldAll_take 8 x0 xs j (by rw [HL.out]; omega))
          generalize foldAll 7 x0 (xs.take j) = s7 at HS7
          generalize foldAll 8 x0 (xs.take j) = s8 at HS8
          generalize xs.getD j 0 = x1 at q1 HS7 HS8
          go_wp2
          go_region
          go_wp2
          go_roundw
          case rel => exact ⟨j + 1, by omega, by go_num, by rw [HS7.out]; rfl, by rw [HS8.out]; rfl, hf.drew⟩
          case measure => simp [intOf]; omega
        · obtain rfl : j = i := by omega
          have e : xs.take j = xs := by rw [← HL.out, List.take_length]
          have HE7 := Lib.hid (show foldAll 7 x0 (xs.take j) = foldAll 7 x0 xs from by rw [e])
          have HE8 := Lib.hid (show foldAll 8 x0 (xs.take j) = foldAll 8 x0 xs from by rw [e])
          clear e
          have h78 : ((k == 7) = true) ∨ ((k == 7) = false ∧ k = 8) := by have := HN.out; simp at g1; simp; omega
          rcases h78 with h7 | ⟨h7, h8⟩
          · have HW := Lib.hid ((HV.out.1 (by simpa using h7)).trans HE7.out.symm)
            go_wp2
            go_ret2
            exact ⟨by rw [HW.out, HEE.out]; rfl, hf⟩
          · have HW := Lib.hid ((HV.out.2 h8).trans HE8.out.symm)
            clear h8
            go_wp2
            go_ret2
            exact ⟨by rw [HW.out, HEE.out]; rfl, hf⟩

set_option maxRecDepth 100000 in
theorem refEvalC (k : Int) (A : Option Addr) (n cap : Nat) (xs : List Int) (w : World) (hI : IntsC w A n cap xs) :
    Calls Try.prog 38 #[.int .i64 k, .slice A n cap] w fun e w' => e = .returned (.tuple #[.int .i64 (evalV k xs), .int .i64 (evalE k xs)]) ∧ Fr (fun _ => False) w w' := by
  have HK := Lib.hid (refKnownC k)
  by_cases hk : known k = true
  · by_cases g1 : 7 ≤ k
    · by_cases hn : n = 0
      · have hl := hI.row.len
        subst hn
        obtain rfl : xs = [] := List.length_eq_zero_iff.1 hl
        have h78 : k = 7 ∨ k = 8 := by have := known_nine hk; omega
        have HV := Lib.hid (show evalV k [] = 0 from by rcases h78 with rfl | rfl <;> rfl)
        have HE := Lib.hid (show evalE k [] = 1 from by rcases h78 with rfl | rfl <;> rfl)
        clear h78 hl hI
        go_enter Try.func38, Try.ntmps38
        go_wp2_with (first
          | (go_at_call 35; refine (HK.out _).mono ?_; rintro e w1 ⟨rfl, rfl⟩))
        go_ret2
        exact ⟨by rw [HV.out, HE.out]; rfl, Fr.refl _ _⟩
      · exact refEvalHigh k A n cap xs w hI hk (by simpa using g1) hn
    · exact refEvalLow k A n cap xs w hI hk (by simpa using g1)
  · replace hk : known k = false := by simpa using hk
    have HV := Lib.hid (show evalV k xs = 0 from by unfold evalV; rw [hk]; rfl)
    have HE := Lib.hid (show evalE k xs = 1 from by unfold evalE; rw [hk]; rfl)
    clear hI
    go_enter Try.func38, Try.ntmps38
    go_wp2_with (first
      | (go_at_call 35; refine (HK.out _).mono ?_; rintro e w1 ⟨rfl, rfl⟩))
    go_ret2
    exact ⟨by rw [HV.out, HE.out]; rfl, Fr.refl _ _⟩
end Go.Proofs.Ytkaokhpaabfhmaa
