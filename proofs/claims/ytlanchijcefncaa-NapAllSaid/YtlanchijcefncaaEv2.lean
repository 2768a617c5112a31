/- The small readers of accesses: alike. -/
import Derived.Test.YtlanchijcefncaaEv1
import Derived.Laws.StructEq
namespace Go.Proofs.Ytlanchijcefncaa
open Go.RowKit

theorem neq_acc (x0 x1 y0 y1 : Int) (w : World) : Sem.run Try.prog (binOp .neq 27 (.agg #[.int .i64 x0, .int .i64 x1]) (.agg #[.int .i64 y0, .int .i64 y1])) w = .ok (.bool (!(x0 == y0 && x1 == y1))) w := by
  have u3 := Try.underlying3
  have a3 := Try.isAgg3
  have z3 := Try.sizeOf3
  have hS : Try.prog.underlying 27 = some (.struct (Try.prog.fieldsOf 27)) := by kernel_rfl
  have hp : Try.prog.stoodInHeld 27 = false := by kernel_rfl
  rw [run_neq_struct, show (10000 : Nat) = 9999 + 1 from rfl, run_equalIn_agg w 9999 27 _ _ hS hp]
  simp only [Program.fieldsOf, Try.underlying27]
  go_simp
  by_cases h1 : x0 = y0 <;> by_cases h2 : x1 = y1 <;> simp [h1, h2]
theorem guard_acc (x y : Operand) (xs ys : Array Value) (w : World) : (eqGuard .neq 27 x y (.agg xs) (.agg ys)).run Try.prog w = .ok () w := run_eqGuard_agg w .neq _ x y xs ys (by kernel_rfl)

set_option maxRecDepth 100000 in
theorem access_calls (A1 : Option Addr) (n1 c1 : Nat) (A2 : Option Addr) (n2 c2 : Nat) (xs ys : List Int) (F G : Nat → Prop) (w : World) (hx : Flat w F A1 (n1 * 2) xs) (hs : n1 ≤ 20000) (hy : Flat w G A2 (n2 * 2) ys) :
    Calls Try.prog 18 #[.slice A1 n1 c1, .slice A2 n2 c2] w fun e w' => e = .returned (.bool (decide (xs = ys))) ∧ Fr (fun _ => False) w w' := by
  by_cases hn : n1 = n2
  · subst hn
    obtain ⟨r, hr⟩ : ∃ r, r = decide (xs = ys) := ⟨_, rfl⟩
    rw [← hr]
    have HR := Lib.hid hr
    clear hr
    go_enter Try.func18, Try.ntmps18
    go_wp2
    go_loopw [5] (fun v5 wr => ∃ j : Nat, j ≤ n1 ∧ v5 = .int .i64 j ∧ (∀ i, i < j * 2 → xs.getD i 0 = ys.getD i 0) ∧ Fr (fun _ => False) w wr) (fun v5 _ => n1 - (intOf v5).toNat)
    case atStart => exact ⟨0, by omega, rfl, fun i hi => absurd hi (by omega), Fr.refl _ _⟩
    case round =>
      obtain ⟨j, hj, rfl, hb, hf⟩ := hrel
      have HB := Lib.hid hb
      clear hb
      by_cases hlt : j < n1
      · obtain ⟨a, rfl, _, h1⟩ := hx.at_ (by omega)
        obtain ⟨b, rfl, _, h2⟩ := hy.at_ (by omega)
        have q0 := hf.cell (h1 (j * 2 + 0) (by omega)) (fun x => x)
        have q1 := hf.cell (h1 (j * 2 + 1) (by omega)) (fun x => x)
        have p0 := hf.cell (h2 (j * 2 + 0) (by omega)) (fun x => x)
        have p1 := hf.cell (h2 (j * 2 + 1) (by omega)) (fun x => x)
        rw [add_past _ _ _ (by omega)] at q1 p1
        simp only [Nat.add_zero] at q0 p0
        clear h1 h2
        generalize hx0 : xs.getD (j * 2) 0 = x0 at q0
        generalize hy0 : ys.getD (j * 2) 0 = y0 at p0
        generalize hx1 : xs.getD (j * 2 + 1) 0 = x1 at q1
        generalize hy1 : ys.getD (j * 2 + 1) 0 = y1 at p1
        have H0 := Lib.hid hx0
        have H1 := Lib.hid hy0
        have H2 := Lib.hid hx1
        have H3 := Lib.hid hy1
        clear hx0 hy0 hx1 hy1
        have NQ := neq_acc x0 x1 y0 y1
        have EG := guard_acc
        by_cases he : x0 = y0 ∧ x1 = y1
        · obtain ⟨rfl, rfl⟩ := he
          simp only [beq_self_eq_true, Bool.and_self, Bool.not_true] at NQ
          go_wp2
          go_quiet (fail)
          go_wp2
          go_roundw
          case rel => exact ⟨j + 1, by omega, by go_num, fun i hi => by
            by_cases hij : i < j * 2
            · exact HB.out i hij
            · obtain rfl | rfl : i = j * 2 ∨ i = j * 2 + 1 := by omega
              · rw [H0.out, H1.out]
              · rw [H2.out, H3.out], by first | assumption | exact hf.drewN _ | exact hf.drew⟩
          case measure => simp [intOf]; omega
        · have HN := Lib.hid (show ¬ xs = ys from fun e => he ⟨by rw [← H0.out, ← H1.out, e], by rw [← H2.out, ← H3.out, e]⟩)
          have hne : (x0 == y0 && x1 == y1) = false := by simpa using he
          simp only [hne, Bool.not_false] at NQ
          clear he
          go_wp2
          go_quiet (fail)
          go_wp2
          go_ret
          exact ⟨by rw [HR.out, decide_eq_false HN.out]; rfl, by first | assumption | exact hf.drewN _ | exact hf.drew⟩
      · obtain rfl : j = n1 := by omega
        have HE := Lib.hid (show xs = ys from eq_of_getD (by rw [hx.len, hy.len]) (by rw [hx.len]; exact HB.out))
        go_wp2
        go_ret
        exact ⟨by rw [HR.out, decide_eq_true HE.out]; rfl, hf⟩
  · have HN := Lib.hid (show ¬ xs = ys from fun e => hn (by have := hx.len; have := hy.len; rw [e] at *; omega))
    have hne : ((n1 : Int) == (n2 : Int)) = false := by simpa using (show ¬ (n1 : Int) = (n2 : Int) by omega)
    obtain ⟨r, hr⟩ : ∃ r, r = decide (xs = ys) := ⟨_, rfl⟩
    rw [← hr]
    have HR := Lib.hid hr
    clear hr hn
    go_enter Try.func18, Try.ntmps18
    go_wp2
    go_ret
    exact ⟨by rw [HR.out, decide_eq_false HN.out]; rfl, Fr.refl _ _⟩

end Go.Proofs.Ytlanchijcefncaa
