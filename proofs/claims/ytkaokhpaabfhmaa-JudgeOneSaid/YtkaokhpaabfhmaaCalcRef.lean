/- The contracts of ltkref1: Known, Wrap, bit, Eval. -/
import Derived.Test.YtkaokhpaabfhmaaCalcFirst
namespace Go.Proofs.Ytkaokhpaabfhmaa
open Go.RowKit

theorem refKnownC (k : Int) (w : World) : Calls Try.prog 35 #[.int .i64 k] w fun e w' => e = .returned (.bool (known k)) ∧ w' = w := by
  unfold known
  go_enter Try.func35, Try.ntmps35
  go_wp2
  all_goals (go_ret; exact ⟨by first | (simp [*]; done) | (simp [*]; omega), rfl⟩)
theorem refBitC (b : Bool) (w : World) : Calls Try.prog 55 #[.bool b] w fun e w' => e = .returned (.int .i64 (b01 b)) ∧ w' = w := by
  cases b <;>
  · go_enter Try.func55, Try.ntmps55
    go_wp2
    go_ret
    exact ⟨rfl, rfl⟩
theorem refWrapC (n m : Int) (w : World) (_hn : I64 n) (hm : I64 m) : Calls Try.prog 54 #[.int .i64 n, .int .i64 m] w fun e w' => e = .returned (.int .i64 (wrapV n m)) ∧ w' = w := by
  unfold I64 at hm
  by_cases h : m < 1
  · have HV := Lib.hid (show wrapV n m = 0 from if_pos h)
    go_enter Try.func54, Try.ntmps54
    go_wp2
    go_ret
    exact ⟨ret_i64 HV.out.symm, rfl⟩
  · have HV := Lib.hid (show wrapV n m = n % m from if_neg h)
    have hz : ¬ m = 0 := by omega
    have hz' : (m == 0) = false := by simpa using hz
    have b1 := Int.emod_nonneg n hz
    have b2 := Int.emod_lt_of_pos n (show 0 < m by omega)
    have b3 : n.tmod m = n % m ∨ (n.tmod m = n % m - m ∧ n.tmod m < 0) := by
      rcases Int.le_total 0 n with hn0 | hn0
      · exact .inl (Int.tmod_eq_emod_of_nonneg hn0)
      · rw [Int.tmod_eq_emod]
        split <;> omega
    have HT := Lib.hid b3
    clear b3
    by_cases hq : n.tmod m < 0
    · have HX := Lib.hid (show wrap64 (n.tmod m + m) = n % m from by have := HT.out; unfold wrap64; omega)
      go_enter Try.func54, Try.ntmps54
      go_wp2
      go_ret
      exact ⟨ret_i64 (HX.out.trans HV.out.symm), rfl⟩
    · have HX := Lib.hid (show n.tmod m = n % m from by have := HT.out; omega)
      go_enter Try.func54, Try.ntmps54
      go_wp2
      go_ret
      exact ⟨ret_i64 (HX.out.trans HV.out.symm), rfl⟩

/-- What is told of each kind, by the whole. -/
theorem evalV_0 {xs : List Int} (h : ∀ x ∈ xs, I64 x) : evalV 0 xs = foldAll 0 0 xs := by
  match xs with
  | [] => rfl
  | a :: l => exact evalV_whole (.inl rfl) h (by simp)
theorem evalV_2 {xs : List Int} (h : ∀ x ∈ xs, I64 x) : evalV 2 xs = foldAll 2 1 xs := by
  match xs with
  | [] => rfl
  | a :: l => exact evalV_whole (.inr (.inl rfl)) h (by simp)
theorem evalV_5 {xs : List Int} (h : ∀ x ∈ xs, I64 x) : evalV 5 xs = foldAll 5 (-1) xs := by
  match xs with
  | [] => rfl
  | a :: l => exact evalV_whole (.inr (.inr (.inl rfl))) h (by simp)
theorem evalV_6 {xs : List Int} (h : ∀ x ∈ xs, I64 x) : evalV 6 xs = foldAll 6 0 xs := by
  match xs with
  | [] => rfl
  | a :: l => exact evalV_whole (.inr (.inr (.inr (.inl rfl)))) h (by simp)
theorem evalV_1 (a : Int) {l : List Int} (h : ∀ x ∈ a :: l, I64 x) : evalV 1 (a :: l) = wrap64 (a - wrap64 (foldAll 0 0 (a :: l) - a)) :=
  (sub_law (h a (by simp)) (fun x hx => h x (by simp [hx]))).symm
theorem evalV_3 (xs : List Int) : evalV 3 xs = b01 (chainB 3 xs) := by
  match xs with
  | [] => rfl
  | a :: l => rfl
theorem evalV_4 (xs : List Int) : evalV 4 xs = b01 (chainB 4 xs) := by
  match xs with
  | [] => rfl
  | a :: l => rfl
theorem evalV_7 (a : Int) (l : List Int) : evalV 7 (a :: l) = foldAll 7 a (a :: l) := (most_again a l).symm
theorem evalV_8 (a : Int) (l : List Int) : evalV 8 (a :: l) = foldAll 8 a (a :: l) := (least_again a l).symm
theorem known_nine {k : Int} (h : known k = true) : k = 0 ∨ k = 1 ∨ k = 2 ∨ k = 3 ∨ k = 4 ∨ k = 5 ∨ k = 6 ∨ k = 7 ∨ k = 8 := by
  unfold known at h; simp at h; omega
theorem chain3_step (xs : List Int) (p : Nat) (h : p + 1 < xs.length) : chainB 3 (xs.take (p + 2)) = (chainB 3 (xs.take (p + 1)) && decide (xs.getD p 0 < xs.getD (p + 1) 0)) := by
  rw [chainB_take 3 xs (p + 1) h, pass3]
  simp
theorem chain3_one (xs : List Int) (h : 0 < xs.length) : chainB 3 (xs.take 1) = true := by
  rw [chainB_take 3 xs 0 h]; rfl

set_option maxRecDepth 100000 in
set_option maxHeartbeats 4000000 in
set_option linter.unusedVariables false in
theorem refEvalLow (k : Int) (A : Option Addr) (n cap : Nat) (xs : List Int) (w : World) (hI : IntsC w A n cap xs) (hk : known k = true) (g1 : decide (7 ≤ k) = false) :
    Calls Try.prog 38 #[.int .i64 k, .slice A n cap] w fun e w' => e = .returned (.tuple #[.int .i64 (evalV k xs), .int .i64 (evalE k xs)]) ∧ Fr (fun _ => False) w w' := by
  have HJ := Lib.hid hI
  have hl := hI.row.len
  have hb := hI.max
  have HK := Lib.hid (refKnownC k)
  have HN := Lib.hid (known_nine hk)
  have HEE := Lib.hid (show evalE k xs = 0 from by unfold evalE; rw [if_pos hk, if_neg]; rintro ⟨_, h⟩; simp at g1; omega)
  have hrow := hI.row
  clear hI
  go_enter Try.func38, Try.ntmps38
  go_wp2_with (first
    | (go_at_call 35; refine (HK.out _).mono ?_; rintro e w1 ⟨rfl, rfl⟩))
  go_loopw [6, 7, 8, 9, 10, 11, 12] (fun v6 v7 v8 v9 v10 v11 v12 wr => ∃ i : Nat, i ≤ n ∧ v12 = .int .i64 i ∧ v6 = .int .i64 (foldAll 0 0 (xs.take i)) ∧ v7 = .int .i64 (foldAll 2 1 (xs.take i)) ∧ v8 = .int .i64 (foldAll 5 (-1) (xs.take i)) ∧ v9 = .int .i64 (foldAll 6 0 (xs.take i)) ∧ v10 = .bool (chainB 3 (xs.take i)) ∧ v11 = .bool (chainB 4 (xs.take i)) ∧ Fr (fun _ => False) w1 wr) (fun _ _ _ _ _ _ v12 _ => n - (intOf v12).toNat)
  case atStart => exact ⟨0, by omega, rfl, rfl, rfl, rfl, rfl, rfl, rfl, Fr.refl _ _⟩
  case round =>
    obtain ⟨i, hi, rfl, rfl, rfl, rfl, rfl, rfl, rfl, hf⟩ := hrel
    by_cases hlt : i < n
    · obtain ⟨ad, rfl, hc⟩ := hrow.at_ (by omega)
      have h0 : xs.length = n := hl
      have HS0 := Lib.hid (foldAll_take 0 0 xs i (by omega))
      have HS2 := Lib.hid (foldAll_take 2 1 xs i (by omega))
      have HS5 := Lib.hid (foldAll_take 5 (-1) xs i (by omega))
      have HS6 := Lib.hid (foldAll_take 6 0 xs i (by omega))
      have HC4 := Lib.hid (chain4_take xs i (by omega))
      have q0 := hf.cell (hc 0 (by omega)) (fun x => x)
      rw [add_nil] at q0
      have q1 := hf.cell (hc i hlt) (fun x => x)
      generalize foldAll 0 0 (xs.take i) = s0 at HS0
      generalize foldAll 2 1 (xs.take i) = s2 at HS2
      generalize foldAll 5 (-1) (xs.take i) = s5 at HS5
      generalize foldAll 6 0 (xs.take i) = s6 at HS6
      generalize hb3 : chainB 3 (xs.take i) = b3
      generalize hb4 : chainB 4 (xs.take i) = b4
      have HB3 := Lib.hid hb3
      have HB4 := Lib.hid hb4
      by_cases hi0 : i = 0
      · subst hi0
        obtain rfl : b3 = true := hb3.symm
        obtain rfl : b4 = true := hb4.symm
        have HC3 := Lib.hid (chain3_one xs (by omega))
        generalize xs.getD 0 0 = x0 at q0 HS0 HS2 HS5 HS6 HC4
        clear q1 hc hrow hl h0 hb3 hb4
        go_wp2
        go_quiet (fail)
        go_wp2
        go_quiet (fail)
        go_wp2
        go_quiet (fail)
        go_wp2
        go_roundw
        case rel => exact ⟨0 + 1, by omega, by go_num, by rw [HS0.out]; rfl, by rw [HS2.out]; rfl, by rw [HS5.out]; rfl, by rw [HS6.out]; rfl, by rw [HC3.out], by rw [HC4.out, HB4.out]; simp, by repeat (first | exact hf | refine Fr.drewN ?_ _)⟩
        case measure => simp [intOf]; omega
      · obtain ⟨p, rfl⟩ : ∃ p, i = p + 1 := ⟨i - 1, by omega⟩
        have HC3 := Lib.hid (chain3_step xs p (by omega))
        have qp := hf.cell (hc p (by omega)) (fun x => x)
        generalize xs.getD 0 0 = x0 at q0 HC4
        generalize xs.getD (p + 1) 0 = x1 at q1 HS0 HS2 HS5 HS6 HC4 HC3
        generalize xs.getD p 0 = xp at qp HC3
        have hp0 : p < n := by omega
        have hn0 : 0 < n := by omega
        have HXI : Hid (∀ m, m = p + 1 → True) := fun _ _ => trivial
        generalize hm : p + 1 = m at *
        have e1 : IntKind.i64.wrap ((m : Int) - 1) = (p : Int) := by rw [iw]; unfold wrap64; omega
        have em : ((m : Int) == 0) = false := by simp; omega
        have HM := Lib.hid hm
        clear hc hrow hl h0 hm hb3 hb4
        cases b3 <;> cases b4
        all_goals
          go_wp2
          go_quiet (fail)
          go_wp2
          go_quiet (fail)
          go_wp2
          go_quiet (fail)
          go_wp2
          go_roundw
          case rel => exact ⟨m + 1, by omega, by go_num, by rw [HS0.out]; rfl, by rw [HS2.out]; rfl, by rw [HS5.out]; rfl, by rw [HS6.out]; rfl, by rw [← HM.out, HC3.out, HB3.out]; simp, by rw [HC4.out, HB4.out]; simp, by repeat (first | exact hf | refine Fr.drewN ?_ _)⟩
          case measure => simp [intOf]; omega
    · obtain rfl : i = n := by omega
      have e : xs.take i = xs := by rw [← hl, List.take_length]
      have h6 := HJ.out.i64
      have HV0 := Lib.hid (show evalV 0 xs = foldAll 0 0 (xs.take i) from by rw [e]; exact evalV_0 h6)
      have HV2 := Lib.hid (show evalV 2 xs = foldAll 2 1 (xs.take i) from by rw [e]; exact evalV_2 h6)
      have HV3 := Lib.hid (show evalV 3 xs = b01 (chainB 3 (xs.take i)) from by rw [e]; exact evalV_3 xs)
      have HV4 := Lib.hid (show evalV 4 xs = b01 (chainB 4 (xs.take i)) from by rw [e]; exact evalV_4 xs)
      have HV5 := Lib.hid (show evalV 5 xs = foldAll 5 (-1) (xs.take i) from by rw [e]; exact evalV_5 h6)
      have HV6 := Lib.hid (show evalV 6 xs = foldAll 6 0 (xs.take i) from by rw [e]; exact evalV_6 h6)
      have HE0 := Lib.hid e
      have H6 := Lib.hid h6
      clear e h6
      by_cases k1 : k = 1
      · subst k1
        by_cases hi0 : i = 0
        · subst hi0
          have HV := Lib.hid (show evalV 1 xs = 0 from by obtain rfl : xs = [] := List.length_eq_zero_iff.1 hl; rfl)
          clear hrow hl
          go_wp2
          go_ret2
          exact ⟨by rw [HV.out, HEE.out]; rfl, hf⟩
        · obtain ⟨ad, rfl, hc⟩ := hrow.at_ (by omega)
          obtain ⟨x0, hx0⟩ : ∃ x0, x0 = xs.getD 0 0 := ⟨_, rfl⟩
          have HV := Lib.hid (show evalV 1 xs = wrap64 (x0 - wrap64 (foldAll 0 0 (xs.take i) - x0)) from by
            rw [HE0.out, hx0]
            match xs, hl, H6 with
            | [], hl, _ => exact absurd hl (by simp; omega)
            | a :: l, _, H6 => exact evalV_1 a H6.out)
          have q0 := hf.cell (hc 0 (by omega)) (fun x => x)
          rw [add_nil, ← hx0] at q0
          clear hx0
          have hi1 : 0 < i := by omega
          have hi2 : ((i : Int) == 0) = false := by simp; omega
          generalize foldAll 0 0 (xs.take i) = s0 at HV HV0
          clear hrow hl hc
          go_wp2
          go_quiet (fail)
          go_wp2
          go_ret2
          exact ⟨by rw [HV.out, HEE.out]; rfl, hf.drewN _⟩
      · rcases HN.out with rfl | rfl | rfl | rfl | rfl | rfl | rfl | rfl | rfl
        all_goals first
          | (exfalso; revert g1; decide)
          | (exfalso; exact k1 rfl)
          | (clear hrow hl
             go_wp2_with (first
               | (go_at_call 55; refine (refBitC _ _).mono ?_; rintro e w2 ⟨rfl, rfl⟩))
             go_ret2
             exact ⟨by (first | rw [HV0.out, HEE.out] | rw [HV2.out, HEE.out] | rw [HV3.out, HEE.out] | rw [HV4.out, HEE.out] | rw [HV5.out, HEE.out] | rw [HV6.out, HEE.out]); rfl, hf⟩)
end Go.Proofs.Ytkaokhpaabfhmaa
