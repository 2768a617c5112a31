/- The small readers: alike, among them. -/
import Derived.Test.YtlanchijcefncaaRows
import Derived.Test.YtlanchijcefncaaEv0
namespace Go.Proofs.Ytlanchijcefncaa
open Go.RowKit

set_option maxRecDepth 100000 in
theorem ints_calls (A1 : Option Addr) (n1 c1 : Nat) (A2 : Option Addr) (n2 c2 : Nat) (xs ys : List Int) (F G : Nat → Prop) (w : World) (hx : Flat w F A1 n1 xs) (hs : n1 ≤ 20000) (hy : Flat w G A2 n2 ys) :
    Calls Try.prog 14 #[.slice A1 n1 c1, .slice A2 n2 c2] w fun e w' => e = .returned (.bool (decide (xs = ys))) ∧ Fr (fun _ => False) w w' := by
  by_cases hn : n1 = n2
  · subst hn
    obtain ⟨r, hr⟩ : ∃ r, r = decide (xs = ys) := ⟨_, rfl⟩
    rw [← hr]
    have HR := Lib.hid hr
    clear hr
    go_enter Try.func14, Try.ntmps14
    go_wp2
    go_loopw [5] (fun v5 wr => ∃ j : Nat, j ≤ n1 ∧ v5 = .int .i64 j ∧ (∀ i, i < j → xs.getD i 0 = ys.getD i 0) ∧ Fr (fun _ => False) w wr) (fun v5 _ => n1 - (intOf v5).toNat)
    case atStart => exact ⟨0, by omega, rfl, fun i hi => absurd hi (by omega), Fr.refl _ _⟩
    case round =>
      obtain ⟨j, hj, rfl, hb, hf⟩ := hrel
      have HB := Lib.hid hb
      clear hb
      by_cases hlt : j < n1
      · obtain ⟨a, rfl, _, h1⟩ := hx.at_ (by omega)
        obtain ⟨b, rfl, _, h2⟩ := hy.at_ (by omega)
        have q0 := hf.cell (h1 j hlt) (fun x => x)
        have p0 := hf.cell (h2 j hlt) (fun x => x)
        clear h1 h2
        generalize hx0 : xs.getD j 0 = x0 at q0
        generalize hy0 : ys.getD j 0 = y0 at p0
        have H0 := Lib.hid hx0
        have H1 := Lib.hid hy0
        clear hx0 hy0
        by_cases he : x0 = y0
        · subst he
          go_wp2
          go_quiet (fail)
          go_wp2
          go_roundw
          case rel => exact ⟨j + 1, by omega, by go_num, fun i hi => by
            by_cases hij : i < j
            · exact HB.out i hij
            · obtain rfl : i = j := by omega
              rw [H0.out, H1.out], by first | assumption | exact hf.drewN _ | exact hf.drew⟩
          case measure => simp [intOf]; omega
        · have HN := Lib.hid (show ¬ xs = ys from fun e => he (by rw [← H0.out, ← H1.out, e]))
          have hne : (x0 == y0) = false := by simpa using he
          clear he
          go_wp2
          go_quiet (fail)
          go_wp2
          go_ret
          exact ⟨by rw [HR.out, decide_eq_false HN.out]; rfl, by first | assumption | exact hf.drewN _ | exact hf.drew⟩
      · obtain rfl : j = n1 := by omega
        have HE := Lib.hid (show xs = ys from eq_of_getD (by rw [hx.len, hy.len]) (by rw [hx.len]; exact HB.out))
        go_wp2
        go_ret
        exact ⟨by rw [HR.out, decide_eq_true HE.out]; rfl, hf⟩
  · have HN := Lib.hid (show ¬ xs = ys from fun e => hn (by rw [← hx.len, ← hy.len, e]))
    have hne : ((n1 : Int) == (n2 : Int)) = false := by simpa using (show ¬ (n1 : Int) = (n2 : Int) by omega)
    obtain ⟨r, hr⟩ : ∃ r, r = decide (xs = ys) := ⟨_, rfl⟩
    rw [← hr]
    have HR := Lib.hid hr
    clear hr hn
    go_enter Try.func14, Try.ntmps14
    go_wp2
    go_ret
    exact ⟨by rw [HR.out, decide_eq_false HN.out]; rfl, Fr.refl _ _⟩

end Go.Proofs.Ytlanchijcefncaa
