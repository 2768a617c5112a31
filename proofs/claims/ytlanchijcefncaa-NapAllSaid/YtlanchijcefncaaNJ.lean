/- ltklaw15.NapAll answers true. -/
import Derived.Test.YtlanchijcefncaaNH
namespace Go.Proofs.Ytlanchijcefncaa
open Go.RowKit Go.Shelf Go.Maps

set_option maxRecDepth 100000 in
set_option maxHeartbeats 8000000 in
theorem nall_walk0 (n s : Nat) (t : Int) (w : World) (ht : (Lit.int .i64 t).wf = true) (h1 : n ≤ 60) (h2 : 1 ≤ s) (h3 : s ≤ 10) :
    Calls Try.prog 3 #[.int .i64 n, .int .i64 t, .int .i64 s] w fun e w' => e = .returned (.bool true) ∧ Fr (fun _ => False) w w' := by
  have T1 := Lib.hid trivial
  go_enter Try.func3, Try.ntmps3
  go_wp2_with (first
    | (go_at_call 7; have _t := T1; (with_reducible refine (first15_calls _).mono ?_); rintro e w1 ⟨rfl, hf1⟩; clear T1)
    | (go_at_call 8; (with_reducible refine (newN_in w w1 hf1).mono ?_); rintro e w2 ⟨nb, rfl, hN2⟩))
  go_loopw [8, 9, 10] (fun v8 v9 _ wr => ∃ d : Nat, d ≤ n ∧ v9 = .int .i64 ((n : Int) - 1 - d) ∧ v8 = .int .i64 (cntS s (n - d) d : Nat) ∧ NapIn w wr nb d (allM t ht s (n - d) d)) (fun _ v9 _ _ => (numOfA v9 + 1).toNat)
  case atStart => exact ⟨0, by omega, by simp, rfl, hN2⟩
  case round =>
    clear hN2
    obtain ⟨d, hd, rfl, rfl, hN⟩ := hrel
    by_cases hlt : d < n
    · obtain ⟨q, hq⟩ : ∃ q, q = n - 1 - d := ⟨_, rfl⟩
      have hqi : (n : Int) - 1 - (d : Int) = (q : Int) := by omega
      have hnd : n - d = q + 1 := by omega
      rw [hqi]
      rw [hnd] at hN ⊢
      have hcl := cntS_le s (q + 1) d
      have hq60 : q ≤ 60 := by omega
      have hss : IntKind.i64.wrap ((s : Int) - 1) = ((s - 1 : Nat) : Int) := by rw [IntKind.wrap_i64]; omega
      have hcs := cntS_succ s q d
      have HNQ := Lib.hid (show n - (d + 1) = q ∧ (n : Int) - 1 - ((d + 1 : Nat) : Int) = (q : Int) - 1 by omega)
      have hxi := allXs_ints t ht s q
      have hfl := fun u => flat_accs u (allXs t ht s q) (arr := #[.int .i64 (addrA t s q), .int .i64 3, .int .i64 (addrA t s q), .int .i64 9]) (n := 2) (m := 2 * 2) (b := u.heap.size) (by rw [hxi]; rfl) (allXs_len t ht s q) rfl rfl
      have HSL := Lib.hid (fun u (hu : Fr (fun _ => False) wr u) => sleep_to (cap := 2) ((hN.frame hu).frame ((Fr.refl _ _).alloc (.cells #[.int .i64 (addrA t s q), .int .i64 3, .int .i64 (addrA t s q), .int .i64 9] 27))) (by omega) (a := (q : Int)) (wfB (by omega) (by omega)) (allM_any t ht s q d) (allXs_len t ht s q) (hfl u) (by omega) (allM_ins t ht s q d))
      clear hq hqi hnd hxi hfl hN
      by_cases hm : q % s = s - 1
      · have ha : addrA t s q = wrap64 (t + 1) := by unfold addrA; rw [if_pos hm]
        have hs0 : sits s q = false := by unfold sits; simp [hm]
        rw [ha] at HSL
        rw [hs0] at hcs
        simp only [Bool.false_eq_true, if_false, Nat.add_zero] at hcs
        have HCS := Lib.hid hcs
        clear hcs ha hs0
        go_wp2_with (go_at_call 9; (with_reducible refine (HSL.out _ (Fr.refl _ _)).mono ?_); rintro e w5 ⟨rfl, hN5⟩)
        go_roundw
        case rel => exact ⟨d + 1, by omega, by rw [HNQ.out.2], by rw [HNQ.out.1, HCS.out], by rw [HNQ.out.1]; exact hN5⟩
        case measure => simp [numOfA]
      · have ha : addrA t s q = t := by unfold addrA; rw [if_neg hm]
        have hs0 : sits s q = true := by unfold sits; simp [hm]
        rw [ha] at HSL
        rw [hs0] at hcs
        simp only [if_true] at hcs
        have HCS := Lib.hid hcs
        clear hcs ha hs0
        go_wp2_with (go_at_call 9; (with_reducible refine (HSL.out _ (Fr.refl _ _)).mono ?_); rintro e w5 ⟨rfl, hN5⟩)
        go_roundw
        case rel => exact ⟨d + 1, by omega, by rw [HNQ.out.2], by rw [HNQ.out.1, HCS.out]; go_num, by rw [HNQ.out.1]; exact hN5⟩
        case measure => simp [numOfA]
    · obtain rfl : d = n := by omega
      rw [Nat.sub_self] at hN ⊢
      have hm1 : (d : Int) - 1 - (d : Int) = -1 := by omega
      rw [hm1]
      clear hm1
      obtain ⟨h31, h32⟩ := allM_three t ht s d
      obtain ⟨h91, h92⟩ := allM_nine t ht s d
      obtain ⟨h81, h82⟩ := onM_nine t ht s d
      have hML := allM_len t ht s 0 d
      have hUL := upL_len s d
      have hOL := onM_len t ht s d
      have hUR := upL_rise s d
      have T2 := Lib.hid trivial
      have hAl := all_in hN
      rw [hML] at hAl
      have HC3 := Lib.hid (fun u (hu : NapIn w u nb d (allM t ht s 0 d)) => changed_to hu 3 ht (by rw [hML]; omega) h31 rfl h32)
      have HC9 := Lib.hid (fun u (hu : NapIn w u nb d (allM t ht s 0 d)) => changed_to hu 9 ht (by rw [hML]; omega) h91 hUL h92)
      clear h31 h32 h91 h92 hN
      have hcl := cntS_le s 0 d
      go_wp2_with (first
        | (go_at_call 10; (with_reducible refine hAl.mono ?_); rintro e w5 ⟨A5, c5, rfl, _, hN5, _⟩)
        | (go_at_call 11; have _t := T2; (with_reducible refine (HC3.out _ hN5).mono ?_); rintro e w6 ⟨A6, c6, rfl, _, hN6, _⟩; clear T2)
        | (go_at_call 11; (with_reducible refine (HC9.out _ hN6).mono ?_); rintro e w7 ⟨A7, c7, rfl, hl7, hN7, _⟩))
      generalize hcn : cntS s 0 d = cn at hUL hOL hcl hl7
      generalize hup : upL s d = L at hUL hUR hl7
      obtain ⟨r, hrl⟩ : ∃ r, r = (onM t ht s d).length := ⟨_, rfl⟩
      rw [← hrl] at hOL
      have hsub : (d : Int) - (cn : Int) = (r : Int) := by omega
      have HL7 := Lib.hid hl7
      have HCN := Lib.hid hcn
      have hc8 := Lib.hid (fun u (hu : NapIn w u nb d (onM t ht s d)) => changed_to hu 9 ht (by rw [← hrl]; omega) h81 rfl h82)
      have hA8 := Lib.hid (fun u (hu : NapIn w u nb d (onM t ht s d)) => by have h := all_in hu; rw [← hrl] at h; exact h)
      clear HC3 HC9 h81 h82 hup hcn hl7 hrl hAl hOL
      go_loopw [12] (fun v12 wr2 => ∃ k : Nat, v12 = .int .i64 k ∧ 1 ≤ k ∧ k ≤ cn + 1 ∧ Fr (fun _ => False) w7 wr2) (fun v12 _ => cn + 1 - (numOfA v12).toNat)
      case atStart => exact ⟨1, rfl, by omega, by omega, Fr.refl _ _⟩
      case round =>
        obtain ⟨k, rfl, hk1, hk, hf⟩ := hrel
        by_cases hkl : k < cn
        · obtain ⟨ad, rfl, _, hac⟩ := HL7.out.at_ (by omega)
          have p1 := hf.cell (hac k hkl) (fun x => x)
          have p0 := hf.cell (hac (k - 1) (by omega)) (fun x => x)
          have hlt2 : L.getD (k - 1) 0 < L.getD k 0 := by
            rw [List.getD_eq_getElem?_getD, List.getD_eq_getElem?_getD, List.getElem?_eq_getElem (show k < L.length by omega), List.getElem?_eq_getElem (show k - 1 < L.length by omega)]
            exact List.pairwise_iff_getElem.1 hUR (k - 1) k (by omega) (by omega) (by omega)
          generalize L.getD (k - 1) 0 = x at p0 hlt2
          generalize L.getD k 0 = y at p1 hlt2
          have s1 : IntKind.i64.wrap ((k : Int) - 1) = ((k - 1 : Nat) : Int) := by rw [IntKind.wrap_i64]; omega
          have g1 : decide (y ≤ x) = false := by simp; omega
          clear hac hlt2
          go_wp2
          go_quiet (fail)
          go_wp2
          go_roundw
          case rel => exact ⟨k + 1, by go_num, by omega, by omega, by first | exact hf | exact hf.drew | exact hf.drewN _⟩
          case measure => simp [numOfA]; omega
        · have hN8 := hN7.frame hf
          go_wp2_with (first
            | (go_at_call 7; (with_reducible refine (first15_calls _).mono ?_); rintro e wa ⟨rfl, hfa⟩; have hN9 := hN8.frame hfa)
            | (go_at_call 10; (with_reducible refine (hA8.out _ hN9).mono ?_); rintro e wb ⟨A8, c8, rfl, _, hNb, _⟩)
            | (go_at_call 11; (with_reducible refine (hc8.out _ hNb).mono ?_); rintro e wc ⟨A9, c9, rfl, _, hNc, _⟩))
          go_ret
          exact ⟨by first | rfl | (rw [HCN.out]; simp), hNc.fr⟩
set_option maxRecDepth 100000 in
theorem nall_far (n s t : Int) (w : World) (hn : (n < 0 ∨ 60 < n) ∨ s < 1 ∨ 10 < s) :
    Calls Try.prog 3 #[.int .i64 n, .int .i64 t, .int .i64 s] w fun e w' => e = .returned (.bool true) ∧ Fr (fun _ => False) w w' := by
  have T1 : True := trivial
  go_enter Try.func3, Try.ntmps3
  go_wp2_with (first
    | (go_at_call 7; have _t := T1; refine (first15_calls w).mono ?_; rintro e w1 ⟨rfl, hf1⟩; clear T1)
    | (go_at_call 8; (with_reducible refine (newN_in w w1 hf1).mono ?_); rintro e w2 ⟨nb, rfl, hN2⟩)
    | (go_at_call 7; refine (first15_calls w2).mono ?_; rintro e w3 ⟨rfl, hf3⟩))
  all_goals go_ret
  all_goals exact ⟨rfl, hN2.fr.trans hf3⟩
theorem nall_walk (n t s : Int) (w : World) (_ : (Lit.int .i64 n).wf = true) (ht : (Lit.int .i64 t).wf = true) (_ : (Lit.int .i64 s).wf = true) :
    Calls Try.prog 3 #[.int .i64 n, .int .i64 t, .int .i64 s] w fun e w' => e = .returned (.bool true) ∧ Fr (fun _ => False) w w' := by
  by_cases hin : (0 ≤ n ∧ n ≤ 60) ∧ 1 ≤ s ∧ s ≤ 10
  · obtain ⟨⟨h1, h2⟩, h3, h4⟩ := hin
    obtain ⟨a, rfl⟩ : ∃ a : Nat, n = a := ⟨n.toNat, by omega⟩
    obtain ⟨b, rfl⟩ : ∃ b : Nat, s = b := ⟨s.toNat, by omega⟩
    exact nall_walk0 a b t w ht (by omega) (by omega) (by omega)
  · exact nall_far n s t w (by omega)
end Go.Proofs.Ytlanchijcefncaa
