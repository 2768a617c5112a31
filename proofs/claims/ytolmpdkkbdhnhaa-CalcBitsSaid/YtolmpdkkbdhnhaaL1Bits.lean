/- ltklaw1.CalcBits answers true. -/
import Derived.Test.YtolmpdkkbdhnhaaCalcAppend
namespace Go.Proofs.Ytolmpdkkbdhnhaa
open Go.RowKit

theorem chain3_step (xs : List Int) (p : Nat) (h : p + 1 < xs.length) : chainB 3 (xs.take (p + 2)) = (chainB 3 (xs.take (p + 1)) && decide (xs.getD p 0 < xs.getD (p + 1) 0)) := by
  rw [chainB_take 3 xs (p + 1) h, pass3]
  simp
theorem evalV_3 (xs : List Int) : evalV 3 xs = b01 (chainB 3 xs) := by
  match xs with
  | [] => rfl
  | a :: l => rfl
theorem getD_mem {xs : List Int} {i : Nat} (h : i < xs.length) : xs.getD i 0 ∈ xs := by
  rw [List.getD_eq_getElem?_getD, List.getElem?_eq_getElem h]; exact List.getElem_mem h

set_option maxRecDepth 100000 in
set_option maxHeartbeats 1000000 in
set_option linter.unusedVariables false in
theorem bits_bad (A : Option Addr) (n cap : Nat) (xs : List Int) (m : Int) (w : World) (hbad : n < 1 ∨ n > 100) :
    Calls Try.prog 4 #[.slice A n cap, .int .i64 m] w fun e w' => e = .returned (.bool true) ∧ Fr (fun _ => False) w w' := by
  have hh : n = 0 ∨ (¬ n = 0 ∧ decide ((n : Int) < 1) = false ∧ decide ((100 : Int) < n) = true) := by simp; omega
  clear hbad
  rcases hh with d1 | ⟨d0, d1, d2⟩
  · subst d1
    go_enter Try.func4, Try.ntmps4
    go_wp2_with (first
      | (go_at_call 9; refine (firstC _).mono ?_; rintro e w0 ⟨rfl, hf0⟩))
    all_goals go_ret
    all_goals exact ⟨rfl, by repeat (first | exact Fr.refl _ _ | assumption | refine Fr.trans ?_ (by assumption))⟩
  · go_enter Try.func4, Try.ntmps4
    go_wp2_with (first
      | (go_at_call 9; refine (firstC _).mono ?_; rintro e w0 ⟨rfl, hf0⟩))
    all_goals go_ret
    all_goals exact ⟨rfl, by repeat (first | exact Fr.refl _ _ | assumption | refine Fr.trans ?_ (by assumption))⟩

set_option maxRecDepth 100000 in
set_option maxHeartbeats 2000000 in
set_option linter.unusedVariables false in
theorem bits_main (ad : Addr) (n cap : Nat) (xs : List Int) (m : Int) (w : World) (hI : IntsC w (some ad) n cap xs) (hl : 1 ≤ n) (hl' : n ≤ 100) :
    Calls Try.prog 4 #[.slice (some ad) n cap, .int .i64 m] w fun e w' => e = .returned (.bool true) ∧ Fr (fun _ => False) w w' := by
  have d0 : ¬ n = 0 := by omega
  have d1 : decide ((n : Int) < 1) = false := by simp; omega
  have d2 : decide ((100 : Int) < n) = false := by simp; omega
  have d3 : ¬ 100 < n := by omega
  have hne : xs ≠ [] := by rw [ne_eq, ← List.length_eq_zero_iff, hI.row.len]; exact d0
  have HLEN := Lib.hid hI.row.len
  have H6 := Lib.hid hI.i64
  have HC0 := Lib.hid hI
  have E5 : evalE 5 xs = 0 := evalE_ok rfl hne
  have E6 : evalE 6 xs = 0 := evalE_ok rfl hne
  have E3 : evalE 3 xs = 0 := evalE_ok rfl hne
  have HV3 := Lib.hid (evalV_3 xs)
  have HCA := Lib.hid (fun (A : Option Addr) (c : Nat) (ww : World) (h : IntsC ww A (xs ++ xs).length c (xs ++ xs)) => show Calls Try.prog 10 #[.int .i64 6, .slice A (xs.length + xs.length) c] ww fun e w' => e = .returned (.tuple #[.int .i64 (evalV 6 xs), .int .i64 0]) ∧ Fr (fun _ => False) ww w' from by
    have := evalC 6 A _ c (xs ++ xs) ww h
    rw [evalV_twice (.inr rfl) hI.i64 hne, evalE_ok rfl (by simp [hne]), List.length_append] at this
    exact this)
  have HA5 := Lib.hid (fun x (hx : x ∈ xs) => show bits .and .i64 (evalV 5 xs) x = evalV 5 xs from evalV_absorb (.inl rfl) hI.i64 hx)
  have HA6 := Lib.hid (fun x (hx : x ∈ xs) => show bits .or .i64 (evalV 6 xs) x = evalV 6 xs from evalV_absorb (.inr rfl) hI.i64 hx)
  have H66 := Lib.hid (show ∀ x ∈ xs ++ xs, I64 x from fun x hx => by rcases List.mem_append.1 hx with h | h <;> exact hI.i64 x h)
  clear hI hne
  go_enter Try.func4, Try.ntmps4
  go_wp2_with (first
    | (go_at_call 9; refine (firstC w).mono ?_; rintro e w0 ⟨rfl, hf0⟩; have hi0 := HC0.out.frame hf0 (fun k x => x.elim))
    | (go_at_call 10; (with_reducible refine (evalC 5 _ _ _ xs _ hi0).mono ?_); rintro e w1 ⟨rfl, hf1⟩; have hi1 := hi0.frame hf1 (fun k x => x.elim))
    | (go_at_call 10; (with_reducible refine (evalC 6 _ _ _ xs _ hi1).mono ?_); rintro e w2 ⟨rfl, hf2⟩; have hi2 := hi1.frame hf2 (fun k x => x.elim); have ho2 := Own.empty (Nat.le_refl w2.heap.size); have hi2a := hi2.frame ((Fr.refl (fun _ => False) w2).alloc (.cells #[] 3)) (fun k x => x.elim))
    | (at_builtin; refine append_ints _ rfl (.tmp 37) (.tmp 38) rfl w2.heap.size _ [] rfl ho2 ad n cap xs rfl hi2a (by simp; omega) (by simp) ?_; intro v3 w3 ho3 hf3; have hi3 := hi2.frame (((Fr.refl (fun k => w2.heap.size ≤ k) w2).alloc _).trans hf3) (fun k hk => hk); rw [List.nil_append] at ho3)
    | (at_builtin; refine append_ints _ rfl (.tmp 39) (.tmp 40) rfl w2.heap.size _ xs rfl ho3 ad n cap xs rfl hi3 (by have := HLEN.out; omega) (by have := hf3.size; simp at this; omega) ?_; intro v4 w4 ho4 hf4; have hi4a := hi2.frame ((((Fr.refl (fun k => w2.heap.size ≤ k) w2).alloc _).trans hf3).trans hf4) (fun k hk => hk); obtain ⟨A4, c4, rfl, hi4, hb4⟩ := ho4.shape H66.out)
    | (go_at_call 10; (with_reducible refine (HCA.out _ _ _ hi4).mono ?_); rintro e w5 ⟨rfl, hf5⟩; have hi5 := hi4a.frame hf5 (fun k x => x.elim))
    | (go_at_call 10; (with_reducible refine (evalC 3 _ _ _ xs _ hi5).mono ?_); rintro e w6 ⟨rfl, hf6⟩))
  have HF := Lib.hid (show Fr (fun _ => False) w w6 from (((hf0.trans hf1).trans hf2).trans' ((((Fr.refl (fun k => w2.heap.size ≤ k) w2).alloc _).trans hf3).trans hf4) (fun i hi hl => by have a := hf0.size; have b := hf1.size; have c := hf2.size; omega)).trans hf5 |>.trans hf6)
  have hi6 := hi5.frame hf6 (fun k x => x.elim)
  obtain ⟨ad', had, hc⟩ := hi6.row.at_ (by omega)
  cases had
  have HC := Lib.hid hc
  have hn0 : 0 < n := by omega
  clear hf0 hf1 hf2 hf3 hf4 hf5 hf6 hi0 hi1 hi2 hi2a hi3 hi4 hi4a hi5 hi6 ho2 ho3 ho4 hb4 hc
  go_loopw [13, 14] (fun v13 v14 wr => ∃ i : Nat, i ≤ n ∧ v14 = .int .i64 i ∧ v13 = .int .i64 (b01 (chainB 3 (xs.take i))) ∧ Fr (fun _ => False) w6 wr) (fun _ v14 _ => n - (intOf v14).toNat)
  case atStart => exact ⟨0, by omega, rfl, rfl, Fr.refl _ _⟩
  case round =>
    obtain ⟨i, hi, rfl, rfl, hf⟩ := hrel
    by_cases hlt : i < n
    · have q1 := hf.cell (HC.out i hlt) (fun x => x)
      have a5 := HA5.out (xs.getD i 0) (getD_mem (by rw [HLEN.out]; exact hlt))
      have a6 := HA6.out (xs.getD i 0) (getD_mem (by rw [HLEN.out]; exact hlt))
      by_cases hi0 : i = 0
      · subst hi0
        rw [add_nil] at q1
        generalize xs.getD 0 0 = x1 at q1 a5 a6
        have HS := Lib.hid (show chainB 3 (xs.take (0 + 1)) = true from by rw [chainB_take 3 xs 0 (by rw [HLEN.out]; exact hlt)]; rfl)
        go_wp2
        go_quiet (fail)
        go_wp2
        go_roundw
        case rel => exact ⟨0 + 1, by omega, by go_num, by rw [HS.out]; rfl, hf.drewN _⟩
        case measure => simp [intOf]; omega
      · obtain ⟨p, rfl⟩ : ∃ p, i = p + 1 := ⟨i - 1, by omega⟩
        have qp := hf.cell (HC.out p (by omega)) (fun x => x)
        have HS := Lib.hid (chain3_step xs p (by rw [HLEN.out]; exact hlt))
        generalize xs.getD (p + 1) 0 = x1 at q1 a5 a6 HS
        generalize xs.getD p 0 = xp at qp HS
        have hp0 : p < n := by omega
        generalize hm : p + 1 = i at *
        have e1 : IntKind.i64.wrap ((i : Int) - 1) = (p : Int) := by rw [iw]; unfold wrap64; omega
        have em : decide ((0 : Int) < (i : Int)) = true := by simp; omega
        have em2 : decide (0 < i) = true := by simp; omega
        have em3 : 0 < i := by omega
        have HM := Lib.hid hm
        clear hm hi0
        by_cases hq : x1 ≤ xp
        · have hq' : decide (x1 ≤ xp) = true := by simpa using hq
          have HQ : Hid (decide (xp < x1) = false) := by show decide (xp < x1) = false; simp; omega
          clear hq
          go_wp2
          go_quiet (fail)
          go_wp2
          go_roundw
          case rel => exact ⟨i + 1, by omega, by go_num, by rw [← HM.out, HS.out, HQ.out]; simp [b01], hf.drewN _⟩
          case measure => simp [intOf]; omega
        · have hq' : decide (x1 ≤ xp) = false := by simpa using hq
          have HQ : Hid (decide (xp < x1) = true) := by show decide (xp < x1) = true; simp; omega
          clear hq
          go_wp2
          go_quiet (fail)
          go_wp2
          go_roundw
          case rel => exact ⟨i + 1, by omega, by go_num, by rw [← HM.out, HS.out, HQ.out, HM.out]; simp, hf.drewN _⟩
          case measure => simp [intOf]; omega
    · obtain rfl : i = n := by omega
      have e7 : b01 (chainB 3 (xs.take i)) = evalV 3 xs := by rw [← HLEN.out, List.take_length]; exact HV3.out.symm
      go_wp2_with (first
        | (go_at_call 9; refine (firstC _).mono ?_; rintro e w7 ⟨rfl, hf7⟩))
      go_ret
      exact ⟨rfl, (HF.out.trans hf).trans hf7⟩

theorem bits_walk (A : Option Addr) (n cap : Nat) (xs : List Int) (m : Int) (w : World) (hI : IntsC w A n cap xs) (_ : (Lit.int .i64 m).wf = true) :
    Calls Try.prog 4 #[.slice A n cap, .int .i64 m] w fun e w' => e = .returned (.bool true) ∧ Fr (fun _ => False) w w' := by
  by_cases hbad : n < 1 ∨ n > 100
  · exact bits_bad A n cap xs m w hbad
  · obtain ⟨ad, rfl, _⟩ := hI.row.at_ (by omega)
    exact bits_main ad n cap xs m w hI (by omega) (by omega)
end Go.Proofs.Ytolmpdkkbdhnhaa
