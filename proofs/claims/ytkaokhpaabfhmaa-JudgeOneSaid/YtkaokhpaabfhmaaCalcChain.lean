/- calc.chain. -/
import Derived.Test.YtkaokhpaabfhmaaCalc
namespace Go.Proofs.Ytkaokhpaabfhmaa
open Go.RowKit

set_option maxRecDepth 100000 in
set_option maxHeartbeats 4000000 in
set_option linter.unusedVariables false in
theorem chain3 (A : Option Addr) (n cap : Nat) (xs : List Int) (w : World) (h : IntsIn w A n xs) (hb : n ≤ 9223372036854775807) (h0 : 1 < n) :
    Calls Try.prog 71 #[.int .i64 3, .slice A n cap] w fun e w' => e = .returned (.bool (chainB 3 xs)) ∧ ∃ q, w' = w.drewN q := by
  have hl := h.len
  obtain ⟨ad, rfl, hc⟩ := h.at_ (by omega)
  have HT := Lib.hid (chainB_iff 3 xs)
  have HF := Lib.hid (fun j => @chainB_false 3 xs j)
  have HL := Lib.hid hl
  clear h hl
  go_enter Try.func71, Try.ntmps71
  go_wp2
  go_loopw [5] (fun v5 wr => ∃ m : Nat, 1 ≤ m ∧ m ≤ n ∧ v5 = .int .i64 m ∧ (∀ j, j + 1 < m → pass 3 (xs.getD j 0) (xs.getD (j + 1) 0) = true) ∧ ∃ q, wr = w.drewN q) (fun v5 _ => n - (intOf v5).toNat)
  case atStart => exact ⟨1, by omega, by omega, rfl, fun j hj => absurd hj (by omega), 0, rfl⟩
  case round =>
    obtain ⟨m, hm1, hm, rfl, hp, q, hwq⟩ := hrel
    have HQ := Lib.hid hwq
    have HPP := Lib.hid hp
    by_cases hlt : m < n
    · obtain ⟨p, rfl⟩ : ∃ p, m = p + 1 := ⟨m - 1, by omega⟩
      have q0 : wr.cell? (ad.add p) = some (.int .i64 (xs.getD p 0)) := by rw [hwq]; exact hc p (by omega)
      have q1 : wr.cell? (ad.add (p + 1)) = some (.int .i64 (xs.getD (p + 1) 0)) := by rw [hwq]; exact hc (p + 1) (by omega)
      have HP : Hid (pass 3 (xs.getD p 0) (xs.getD (p + 1) 0) = !(((3 : Int) == 3 && decide (xs.getD (p + 1) 0 ≤ xs.getD p 0)) || ((3 : Int) == 4 && !(xs.getD p 0 == xs.getD (p + 1) 0)))) := rfl
      generalize hx0 : xs.getD p 0 = x0 at q0 q1 HP
      generalize hx1 : xs.getD (p + 1) 0 = x1 at q0 q1 HP
      have HX0 := Lib.hid hx0
      have HX1 := Lib.hid hx1
      clear hx0 hx1 hp hc hwq
      generalize hm' : p + 1 = m at *
      have e1 : IntKind.i64.wrap ((m : Int) - 1) = (p : Int) := by rw [iw]; unfold wrap64; omega
      have hp0 : p < n := by omega
      have HM := Lib.hid hm'
      clear hm'
      by_cases hq : x1 ≤ x0
      · have HC := Lib.hid (HF.out p (by rw [HL.out, HM.out]; exact hlt) (by rw [HX0.out, HM.out, HX1.out, HP.out]; simp [hq]))
        go_wp2
        go_quiet (fail)
        go_wp2
        go_ret
        exact ⟨ret_bool HC.out.symm, _, by rw [HQ.out]; exact World.drewN_drewN _ _ _⟩
      · have hq' : decide (x1 ≤ x0) = false := by simpa using hq
        clear hq
        go_wp2
        go_quiet (fail)
        go_wp2
        go_roundw
        case rel =>
          exact ⟨m + 1, by omega, by omega, by go_num, fun j hj => by
            by_cases hjm : j + 1 < m
            · exact HPP.out j hjm
            · obtain rfl : j = p := by have := HM.out; omega
              rw [HX0.out, HM.out, HX1.out, HP.out, hq']; rfl, _, by rw [HQ.out]; exact World.drewN_drewN _ _ _⟩
        case measure => simp [intOf]; omega

    · obtain rfl : m = n := by omega
      have HC := Lib.hid (HT.out.2 (fun j hj => HPP.out j (by rw [HL.out] at hj; exact hj)))
      clear hp hc hwq
      go_wp2
      go_ret
      exact ⟨ret_bool HC.out.symm, _, HQ.out⟩

set_option maxRecDepth 100000 in
set_option maxHeartbeats 4000000 in
set_option linter.unusedVariables false in
theorem chain4 (A : Option Addr) (n cap : Nat) (xs : List Int) (w : World) (h : IntsIn w A n xs) (hb : n ≤ 9223372036854775807) (h0 : 1 < n) :
    Calls Try.prog 71 #[.int .i64 4, .slice A n cap] w fun e w' => e = .returned (.bool (chainB 4 xs)) ∧ ∃ q, w' = w.drewN q := by
  have hl := h.len
  obtain ⟨ad, rfl, hc⟩ := h.at_ (by omega)
  have HT := Lib.hid (chainB_iff 4 xs)
  have HF := Lib.hid (fun j => @chainB_false 4 xs j)
  have HL := Lib.hid hl
  clear h hl
  go_enter Try.func71, Try.ntmps71
  go_wp2
  go_loopw [5] (fun v5 wr => ∃ m : Nat, 1 ≤ m ∧ m ≤ n ∧ v5 = .int .i64 m ∧ (∀ j, j + 1 < m → pass 4 (xs.getD j 0) (xs.getD (j + 1) 0) = true) ∧ ∃ q, wr = w.drewN q) (fun v5 _ => n - (intOf v5).toNat)
  case atStart => exact ⟨1, by omega, by omega, rfl, fun j hj => absurd hj (by omega), 0, rfl⟩
  case round =>
    obtain ⟨m, hm1, hm, rfl, hp, q, hwq⟩ := hrel
    have HQ := Lib.hid hwq
    have HPP := Lib.hid hp
    by_cases hlt : m < n
    · obtain ⟨p, rfl⟩ : ∃ p, m = p + 1 := ⟨m - 1, by omega⟩
      have q0 : wr.cell? (ad.add p) = some (.int .i64 (xs.getD p 0)) := by rw [hwq]; exact hc p (by omega)
      have q1 : wr.cell? (ad.add (p + 1)) = some (.int .i64 (xs.getD (p + 1) 0)) := by rw [hwq]; exact hc (p + 1) (by omega)
      have HP : Hid (pass 4 (xs.getD p 0) (xs.getD (p + 1) 0) = !(((4 : Int) == 3 && decide (xs.getD (p + 1) 0 ≤ xs.getD p 0)) || ((4 : Int) == 4 && !(xs.getD p 0 == xs.getD (p + 1) 0)))) := rfl
      generalize hx0 : xs.getD p 0 = x0 at q0 q1 HP
      generalize hx1 : xs.getD (p + 1) 0 = x1 at q0 q1 HP
      have HX0 := Lib.hid hx0
      have HX1 := Lib.hid hx1
      clear hx0 hx1 hp hc hwq
      generalize hm' : p + 1 = m at *
      have e1 : IntKind.i64.wrap ((m : Int) - 1) = (p : Int) := by rw [iw]; unfold wrap64; omega
      have hp0 : p < n := by omega
      have HM := Lib.hid hm'
      clear hm'
      by_cases hq : x0 = x1
      · subst hq
        go_wp2
        go_quiet (fail)
        go_wp2
        go_roundw
        case rel =>
          exact ⟨m + 1, by omega, by omega, by go_num, fun j hj => by
            by_cases hjm : j + 1 < m
            · exact HPP.out j hjm
            · obtain rfl : j = p := by have := HM.out; omega
              rw [HX0.out, HM.out, HX1.out, HP.out]; simp, _, by rw [HQ.out]; exact World.drewN_drewN _ _ _⟩
        case measure => simp [intOf]; omega
      · have hq' : (x0 == x1) = false := by simpa using hq
        have HC := Lib.hid (HF.out p (by rw [HL.out, HM.out]; exact hlt) (by rw [HX0.out, HM.out, HX1.out, HP.out]; simp [hq]))
        go_wp2
        go_quiet (fail)
        go_wp2
        go_ret
        exact ⟨ret_bool HC.out.symm, _, by rw [HQ.out]; exact World.drewN_drewN _ _ _⟩

    · obtain rfl : m = n := by omega
      have HC := Lib.hid (HT.out.2 (fun j hj => HPP.out j (by rw [HL.out] at hj; exact hj)))
      clear hp hc hwq
      go_wp2
      go_ret
      exact ⟨ret_bool HC.out.symm, _, HQ.out⟩

set_option maxRecDepth 100000 in
set_option maxHeartbeats 4000000 in
set_option linter.unusedVariables false in
theorem chainX (k : Int) (k3 : (k == 3) = false) (k4 : (k == 4) = false) (A : Option Addr) (n cap : Nat) (xs : List Int) (w : World) (h : IntsIn w A n xs) (hb : n ≤ 9223372036854775807) (h0 : 1 < n) :
    Calls Try.prog 71 #[.int .i64 k, .slice A n cap] w fun e w' => e = .returned (.bool (chainB k xs)) ∧ ∃ q, w' = w.drewN q := by
  have hl := h.len
  obtain ⟨ad, rfl, hc⟩ := h.at_ (by omega)
  have HT := Lib.hid (chainB_iff k xs)
  have HF := Lib.hid (fun j => @chainB_false k xs j)
  have HL := Lib.hid hl
  clear h hl
  go_enter Try.func71, Try.ntmps71
  go_wp2
  go_loopw [5] (fun v5 wr => ∃ m : Nat, 1 ≤ m ∧ m ≤ n ∧ v5 = .int .i64 m ∧ (∀ j, j + 1 < m → pass k (xs.getD j 0) (xs.getD (j + 1) 0) = true) ∧ ∃ q, wr = w.drewN q) (fun v5 _ => n - (intOf v5).toNat)
  case atStart => exact ⟨1, by omega, by omega, rfl, fun j hj => absurd hj (by omega), 0, rfl⟩
  case round =>
    obtain ⟨m, hm1, hm, rfl, hp, q, hwq⟩ := hrel
    have HQ := Lib.hid hwq
    have HPP := Lib.hid hp
    by_cases hlt : m < n
    · obtain ⟨p, rfl⟩ : ∃ p, m = p + 1 := ⟨m - 1, by omega⟩
      have q0 : wr.cell? (ad.add p) = some (.int .i64 (xs.getD p 0)) := by rw [hwq]; exact hc p (by omega)
      have q1 : wr.cell? (ad.add (p + 1)) = some (.int .i64 (xs.getD (p + 1) 0)) := by rw [hwq]; exact hc (p + 1) (by omega)
      have HP : Hid (pass k (xs.getD p 0) (xs.getD (p + 1) 0) = !((k == 3 && decide (xs.getD (p + 1) 0 ≤ xs.getD p 0)) || (k == 4 && !(xs.getD p 0 == xs.getD (p + 1) 0)))) := rfl
      generalize hx0 : xs.getD p 0 = x0 at q0 q1 HP
      generalize hx1 : xs.getD (p + 1) 0 = x1 at q0 q1 HP
      have HX0 := Lib.hid hx0
      have HX1 := Lib.hid hx1
      clear hx0 hx1 hp hc hwq
      generalize hm' : p + 1 = m at *
      have e1 : IntKind.i64.wrap ((m : Int) - 1) = (p : Int) := by rw [iw]; unfold wrap64; omega
      have hp0 : p < n := by omega
      have HM := Lib.hid hm'
      clear hm'
      go_wp2
      go_quiet (fail)
      go_wp2
      go_roundw
      case rel =>
        exact ⟨m + 1, by omega, by omega, by go_num, fun j hj => by
          by_cases hjm : j + 1 < m
          · exact HPP.out j hjm
          · obtain rfl : j = p := by have := HM.out; omega
            rw [HX0.out, HM.out, HX1.out, HP.out]; simp [k3, k4], _, by rw [HQ.out]; exact World.drewN_drewN _ _ _⟩
      case measure => simp [intOf]; omega

    · obtain rfl : m = n := by omega
      have HC := Lib.hid (HT.out.2 (fun j hj => HPP.out j (by rw [HL.out] at hj; exact hj)))
      clear hp hc hwq
      go_wp2
      go_ret
      exact ⟨ret_bool HC.out.symm, _, HQ.out⟩

set_option maxRecDepth 100000 in
theorem chainC (k : Int) (A : Option Addr) (n cap : Nat) (xs : List Int) (w : World) (h : IntsIn w A n xs) (hb : n ≤ 9223372036854775807) :
    Calls Try.prog 71 #[.int .i64 k, .slice A n cap] w fun e w' => e = .returned (.bool (chainB k xs)) ∧ ∃ q, w' = w.drewN q := by
  by_cases h0 : 1 < n
  · by_cases k3 : k = 3
    · subst k3; exact chain3 A n cap xs w h hb h0
    · by_cases k4 : k = 4
      · subst k4; exact chain4 A n cap xs w h hb h0
      · exact chainX k (by simpa using k3) (by simpa using k4) A n cap xs w h hb h0
  · have hl := h.len
    have HC := Lib.hid (show chainB k xs = true from (chainB_iff k xs).2 (fun j hj => by omega))
    have hn : ¬ (1 : Int) < n := by omega
    clear hl
    go_enter Try.func71, Try.ntmps71
    go_wp2
    go_rounds 1
    go_ret
    exact ⟨ret_bool HC.out.symm, 0, rfl⟩

theorem IntsIn.tail {w : World} {ad : Addr} {n : Nat} {xs : List Int} (h : IntsIn w (some ad) n xs) (k : Nat) (hk : k ≤ n) : IntsIn w (some (ad.add k)) (n - k) (xs.drop k) :=
  ⟨by rw [List.length_drop, h.len], fun hn => ⟨_, rfl, fun i hi => by
    obtain ⟨ad', h1, h2⟩ := h.at_ (by omega)
    cases h1
    rw [Addr.add_add, h2 (k + i) (by omega), List.getD_eq_getElem?_getD, List.getD_eq_getElem?_getD, List.getElem?_drop]⟩⟩

end Go.Proofs.Ytkaokhpaabfhmaa
