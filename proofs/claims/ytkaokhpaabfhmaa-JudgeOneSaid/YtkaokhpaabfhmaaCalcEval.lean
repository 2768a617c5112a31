/- calc.Eval. -/
import Derived.Test.YtkaokhpaabfhmaaCalcChain
namespace Go.Proofs.Ytkaokhpaabfhmaa
open Go.RowKit

set_option maxRecDepth 100000 in
set_option maxHeartbeats 4000000 in
theorem evalQ (k : Int) (A : Option Addr) (n cap : Nat) (xs : List Int) (w : World) (hI : IntsC w A n cap xs) :
    Calls Try.prog 59 #[.int .i64 k, .slice A n cap] w fun e w' => e = .returned (.tuple #[.int .i64 (evalV k xs), .int .i64 (evalE k xs)]) ∧ ∃ q, w' = w.drewN q := by
  have h := hI.row
  have hb := hI.max
  have hcap := hI.cap
  have HJ := Lib.hid hI
  clear hI
  have hl := h.len
  have HK := Lib.hid (knownC k)
  have HN := Lib.hid (noneC k)
  have HCH := Lib.hid (chainC k A n cap xs)
  have HF := Lib.hid (foldsC k)
  have HI := Lib.hid h
  by_cases hk : known k = true
  · have HE := Lib.hid (show evalE k xs = if xs = [] ∧ (k = 7 ∨ k = 8) then 1 else 0 from if_pos hk)
    by_cases h0 : n = 0
    · obtain rfl : xs = [] := List.length_eq_zero_iff.1 (by omega)
      have HV := Lib.hid (show evalV k [] = noneV k from by unfold evalV; rw [if_pos hk])
      have HX := Lib.hid (show evalE k [] = noneE k from by rw [HE.out]; unfold noneE; simp)
      subst h0
      clear h hl
      go_enter Try.func59, Try.ntmps59
      go_wp2_with (first
        | (go_at_call 66; refine (HK.out _).mono ?_; rintro e w1 ⟨rfl, rfl⟩)
        | (go_at_call 69; refine (HN.out _).mono ?_; rintro e w1 ⟨rfl, rfl⟩))
      go_ret2
      exact ⟨by rw [HV.out, HX.out]; rfl, 0, rfl⟩
    · have HX := Lib.hid (show evalE k xs = 0 from evalE_ok hk (by intro hx; subst hx; simp at hl; omega))
      have hn0 : ((n : Int) == 0) = false := by simpa using h0
      obtain ⟨ad, rfl, hc⟩ := h.at_ (by omega)
      match xs, hl, hc, HI, HX, HCH with
      | [], hl, _, _, _, _ => exact absurd hl (by simp; omega)
      | a :: l, hl, hc, HI, HX, HCH =>
      have hk34 : ((k == 3) = true) ∨ ((k == 3) = false ∧ (k == 4) = true) ∨ ((k == 3) = false ∧ (k == 4) = false) := by simp; omega
      rcases hk34 with k3 | ⟨k3, k4⟩ | ⟨k3, k4⟩
      · have HV := Lib.hid (show evalV k (a :: l) = b01 (chainB k (a :: l)) from by unfold evalV; rw [if_pos hk]; exact if_pos (.inl (by simpa using k3)))
        clear h hl hc
        go_enter Try.func59, Try.ntmps59
        go_wp2_with (first
          | (go_at_call 66; refine (HK.out _).mono ?_; rintro e w1 ⟨rfl, rfl⟩)
          | (go_at_call 71; refine (HCH.out _ HI.out hb).mono ?_; rintro e w2 ⟨rfl, q2, rfl⟩)
          | (go_at_call 70; refine (bitC _ _).mono ?_; rintro e w3 ⟨rfl, rfl⟩))
        go_ret2
        exact ⟨by rw [HV.out, HX.out]; rfl, q2, rfl⟩
      · have HV := Lib.hid (show evalV k (a :: l) = b01 (chainB k (a :: l)) from by unfold evalV; rw [if_pos hk]; exact if_pos (.inr (by simpa using k4)))
        clear h hl hc
        go_enter Try.func59, Try.ntmps59
        go_wp2_with (first
          | (go_at_call 66; refine (HK.out _).mono ?_; rintro e w1 ⟨rfl, rfl⟩)
          | (go_at_call 71; refine (HCH.out _ HI.out hb).mono ?_; rintro e w2 ⟨rfl, q2, rfl⟩)
          | (go_at_call 70; refine (bitC _ _).mono ?_; rintro e w3 ⟨rfl, rfl⟩))
        go_ret2
        exact ⟨by rw [HV.out, HX.out]; rfl, q2, rfl⟩
      · have HV := Lib.hid (show evalV k (a :: l) = foldAll k a l from by unfold evalV; rw [if_pos hk]; exact if_neg (by simp at k3 k4; omega))
        have q0 : w.cell? ad = some (.int .i64 a) := by have := hc 0 (by omega); rwa [add_nil] at this
        have HT := HI.out.tail 1 (by omega)
        rw [show (a :: l).drop 1 = l from rfl] at HT
        have HL := Lib.hid HT.len
        have HTT := Lib.hid HT
        by_cases hn1 : n = 1
        · have hl0 : l = [] := List.length_eq_zero_iff.1 (by rw [HL.out]; omega)
          subst hn1
          have HV' := Lib.hid (show evalV k (a :: l) = a from by rw [HV.out, hl0]; rfl)
          clear h hl hc HT
          go_enter Try.func59, Try.ntmps59
          go_wp2_with (first
            | (go_at_call 66; refine (HK.out _).mono ?_; rintro e w1 ⟨rfl, rfl⟩))
          all_goals
            go_rounds 1
            go_ret2
            exact ⟨by rw [HV'.out, HX.out]; rfl, 0, rfl⟩
        · have hn2 : 1 < n := by omega
          have hcap1 : ¬ cap = 1 := by omega
          obtain ⟨ad', had, hcl⟩ := HT.at_ (by omega)
          rw [show ad.add 1 = ⟨ad.block, ad.off + 1, none⟩ from rfl] at had
          cases had
          have hb' : 1 ≤ n := by omega
          clear h hl hc HT
          go_enter Try.func59, Try.ntmps59
          go_wp2_with (first
            | (go_at_call 66; refine (HK.out _).mono ?_; rintro e w1 ⟨rfl, rfl⟩))
          go_loopw [6, 38] (fun v6 v38 wr => ∃ i : Nat, i ≤ n - 1 ∧ v38 = .int .i64 i ∧ v6 = .int .i64 (foldAll k a (l.take i)) ∧ wr = w1) (fun _ v38 _ => n - (intOf v38).toNat)
          case atStart => exact ⟨0, by omega, rfl, rfl, rfl⟩
          case round =>
            obtain ⟨i, hi, rfl, rfl, rfl⟩ := hrel
            by_cases hlt : i < n - 1
            · have q1 := hcl i hlt
              rw [add_none] at q1
              have HS := Lib.hid (foldAll_take k a l i (by rw [HL.out]; exact hlt))
              go_wp2_with (go_at_call 72; refine (HF.out _ _ _).mono ?_; rintro e w2 ⟨rfl, rfl⟩)
              go_roundw
              case rel => exact ⟨i + 1, by omega, by go_num, by rw [HS.out, List.getD_eq_getElem?_getD], trivial⟩
              case measure => simp [intOf]; omega
            · obtain rfl : i = n - 1 := by omega
              have HE2 := Lib.hid (show foldAll k a (l.take (n - 1)) = foldAll k a l from by rw [← HL.out, List.take_length])
              go_wp2
              go_ret2
              exact ⟨by rw [HV.out, HX.out, ← HE2.out]; rfl, 0, rfl⟩
  · replace hk : known k = false := by simpa using hk
    have HV := Lib.hid (show evalV k xs = 0 from by unfold evalV; rw [hk]; rfl)
    have HE := Lib.hid (show evalE k xs = 1 from by unfold evalE; rw [hk]; rfl)
    clear h hl
    go_enter Try.func59, Try.ntmps59
    go_wp2_with (first
      | (go_at_call 66; refine (HK.out _).mono ?_; rintro e w1 ⟨rfl, rfl⟩))
    go_ret2
    exact ⟨by rw [HV.out, HE.out]; rfl, 0, rfl⟩

theorem evalC (k : Int) (A : Option Addr) (n cap : Nat) (xs : List Int) (w : World) (hI : IntsC w A n cap xs) :
    Calls Try.prog 59 #[.int .i64 k, .slice A n cap] w fun e w' => e = .returned (.tuple #[.int .i64 (evalV k xs), .int .i64 (evalE k xs)]) ∧ Fr (fun _ => False) w w' :=
  (evalQ k A n cap xs w hI).mono fun _ _ ⟨h1, q, h2⟩ => ⟨h1, by rw [h2]; exact (Fr.refl _ _).drewN q⟩
end Go.Proofs.Ytkaokhpaabfhmaa
