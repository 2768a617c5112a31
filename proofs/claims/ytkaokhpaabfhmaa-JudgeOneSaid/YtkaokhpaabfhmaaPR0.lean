/- ltkref5.reg, Addr; what ltkref5.Check asks. -/
import Derived.Test.YtkaokhpaabfhmaaP9
import Derived.Test.YtkaokhpaabfhmaaCalcRef2
import Derived.Test.YtkaokhpaabfhmaaRefShape
namespace Go.Proofs.Ytkaokhpaabfhmaa
open Go.RowKit

/-- The box of a configuration, behind all that follows. -/
theorem boxAllR (w : World) (c : Conf) : ∀ w' (_ : Fr (fun _ => False) (w.alloc (.cells #[.int .i64 c.r, .int .i64 c.o, .int .i64 c.s, .int .i64 c.wd, .int .i64 c.th, .int .i64 c.sl, .int .i64 c.rg, .int .i64 c.lk, .int .i64 c.un, .int .i64 c.es, .int .i64 c.tk, .int .i64 c.po] 23)) w'),
    w'.cell? ⟨w.heap.size, 0, none⟩ = some (.int .i64 c.r) ∧ w'.cell? ⟨w.heap.size, 1, none⟩ = some (.int .i64 c.o) ∧ w'.cell? ⟨w.heap.size, 2, none⟩ = some (.int .i64 c.s) ∧ w'.cell? ⟨w.heap.size, 3, none⟩ = some (.int .i64 c.wd) ∧
    w'.cell? ⟨w.heap.size, 4, none⟩ = some (.int .i64 c.th) ∧ w'.cell? ⟨w.heap.size, 5, none⟩ = some (.int .i64 c.sl) ∧ w'.cell? ⟨w.heap.size, 6, none⟩ = some (.int .i64 c.rg) ∧ w'.cell? ⟨w.heap.size, 7, none⟩ = some (.int .i64 c.lk) ∧
    w'.cell? ⟨w.heap.size, 8, none⟩ = some (.int .i64 c.un) ∧ w'.cell? ⟨w.heap.size, 9, none⟩ = some (.int .i64 c.es) ∧ w'.cell? ⟨w.heap.size, 10, none⟩ = some (.int .i64 c.tk) ∧ w'.cell? ⟨w.heap.size, 11, none⟩ = some (.int .i64 c.po) :=
  fun _ h => ((BoxConf.mk w c).frame h (fun x => x)).all

theorem ref_reg_calls (c : Conf) (r : Int) (w : World) : Calls Try.prog 34 #[c.val, .int .i64 r] w fun e w' => e = .returned (.bool (!noneB c r)) ∧ Fr (fun _ => False) w w' := by
  have HN := Lib.hid (show noneB c r = (decide (r < 0) || decide (c.rg ≤ r)) from rfl)
  by_cases h0 : 0 ≤ r
  · by_cases h1 : r < c.rg
    · have e0 : decide (0 ≤ r) = true := by simpa using h0
      have e1 : decide (r < c.rg) = true := by simpa using h1
      have HB := Lib.hid (show (!noneB c r) = true by rw [HN.out]; simp; omega)
      unfold Conf.val
      clear h0 h1
      go_enter Try.func34, Try.ntmps34
      go_wp2
      go_ret
      exact ⟨by first | (rw [HB.out]; rfl) | rw [HB.out], (Fr.refl _ _).alloc _⟩
    · have e0 : decide (0 ≤ r) = true := by simpa using h0
      have e1 : decide (r < c.rg) = false := by simpa using h1
      have HB := Lib.hid (show (!noneB c r) = false by rw [HN.out]; simp; omega)
      unfold Conf.val
      clear h0 h1
      go_enter Try.func34, Try.ntmps34
      go_wp2
      go_ret
      exact ⟨by first | (rw [HB.out]; rfl) | rw [HB.out], (Fr.refl _ _).alloc _⟩
  · have e0 : decide (0 ≤ r) = false := by simpa using h0
    have HB := Lib.hid (show (!noneB c r) = false by rw [HN.out]; simp; omega)
    unfold Conf.val
    clear h0
    go_enter Try.func34, Try.ntmps34
    go_wp2
    go_ret
    exact ⟨by first | (rw [HB.out]; rfl) | rw [HB.out], (Fr.refl _ _).alloc _⟩
/-- The address of an instruction. -/
theorem ref_addr_calls (c : Conf) (x : Ins) (v : Value) (A : Option Addr) (n cap : Nat) (regs : List Int) (F : Nat → Prop) (w : World) (hr : Flat w F A n regs) (hn : n ≤ 20000) (hw : I64 c.words) (hb : I64 x.b) (ht : ∃ A' n' c', v = .slice A' n' c') :
    Calls Try.prog 37 #[c.val, .agg #[.int .i64 x.k, .int .i64 x.a, .int .i64 x.b, .int .i64 x.c, v], .slice A n cap] w fun e w' => e = .returned (.int .i64 (addrV c x regs)) ∧ Fr (fun _ => False) w w' := by
  obtain ⟨A', n', c', rfl⟩ := ht
  have hl := hr.len
  have HW := Lib.hid (ref_words_calls c)
  have HV := Lib.hid (show addrV c x regs = _ from rfl)
  unfold addrV at HV
  have HBX := Lib.hid (boxAllR w c)
  have HWI := Lib.hid hw
  clear hw
  unfold Conf.val at *
  have hk := ((Fr.refl (fun _ => False) w).alloc (.cells #[.int .i64 c.r, .int .i64 c.o, .int .i64 c.s, .int .i64 c.wd, .int .i64 c.th, .int .i64 c.sl, .int .i64 c.rg, .int .i64 c.lk, .int .i64 c.un, .int .i64 c.es, .int .i64 c.tk, .int .i64 c.po] 23)).alloc (.cells #[.int .i64 x.k, .int .i64 x.a, .int .i64 x.b, .int .i64 x.c, .slice A' n' c'] 67)
  by_cases h1 : x.c = -1
  · have HA := Lib.hid (show addrV c x regs = wrapV x.b c.words from by unfold addrV; rw [if_pos h1])
    have e0 : (x.c != -1) = false := by simpa using h1
    have HWR := Lib.hid (fun w' => refWrapC x.b c.words w' hb HWI.out)
    obtain ⟨xk, xa, xb, xc, xl⟩ := x
    simp only at *
    clear HV h1 hb hr
    go_enter Try.func37, Try.ntmps37
    go_wp2_with (first
      | (go_at_call 19
         (with_reducible refine (HW.out _).mono ?_)
         rintro ex w4 ⟨rfl, hf4⟩
         replace hk := hk.trans hf4)
      | (go_at_call 54
         (with_reducible refine (HWR.out _).mono ?_)
         rintro ex w5 ⟨rfl, rfl⟩))
    go_ret
    exact ⟨by first | (rw [HA.out]; rfl) | rw [HA.out], hk⟩
  · have e0 : (x.c != -1) = true := by simpa using h1
    by_cases h2 : x.c < 0
    · have HA := Lib.hid (show addrV c x regs = 0 from by unfold addrV; rw [if_neg h1, if_pos (.inl h2)])
      have e1 : decide (x.c < 0) = true := by simpa using h2
      obtain ⟨xk, xa, xb, xc, xl⟩ := x
      simp only at *
      clear HV h1 hb hr h2
      go_enter Try.func37, Try.ntmps37
      go_wp2
      go_ret
      exact ⟨by first | (rw [HA.out]; rfl) | rw [HA.out], hk⟩
    · have e1 : decide (x.c < 0) = false := by simpa using h2
      by_cases h3 : (n : Int) ≤ x.c
      · have HA := Lib.hid (show addrV c x regs = 0 from by unfold addrV; rw [if_neg h1, if_pos (.inr (by omega))])
        have e2 : decide ((n : Int) ≤ x.c) = true := by simpa using h3
        obtain ⟨xk, xa, xb, xc, xl⟩ := x
        simp only at *
        clear HV h1 hb hr h2 h3
        go_enter Try.func37, Try.ntmps37
        go_wp2
        go_ret
        exact ⟨by first | (rw [HA.out]; rfl) | rw [HA.out], hk⟩
      · have e2 : decide ((n : Int) ≤ x.c) = false := by simpa using h3
        obtain ⟨ad, rfl, _, hcells⟩ := hr.at_ (by omega)
        obtain ⟨t, ht⟩ : ∃ t : Nat, x.c = t := ⟨x.c.toNat, by omega⟩
        have HA := Lib.hid (show addrV c x regs = wrapV (wrap64 (x.b + regs.getD t 0)) c.words from by unfold addrV; rw [if_neg h1, if_neg (by omega), ht, Int.toNat_natCast])
        have q0 := hk.cell (hcells t (by omega)) (fun x => x)
        have htn : t < n := by omega
        have htn' : ¬ n ≤ t := by omega
        have e3 : decide (n ≤ t) = false := by simpa using htn'
        generalize regs.getD t 0 = rv at *
        have HWR := Lib.hid (fun w' => refWrapC (wrap64 (x.b + rv)) c.words w' (I64_wrap64 _) HWI.out)
        obtain ⟨xk, xa, xb, xc, xl⟩ := x
        simp only at *
        subst ht
        clear HV h1 hb hr h2 h3 hcells
        go_enter Try.func37, Try.ntmps37
        go_wp2_with (first
          | (go_at_call 19
             (with_reducible refine (HW.out _).mono ?_)
             rintro ex w4 ⟨rfl, hf4⟩
             replace hk := hk.trans hf4)
          | (go_at_call 54
             (with_reducible refine (HWR.out _).mono ?_)
             rintro ex w5 ⟨rfl, rfl⟩))
        go_ret
        exact ⟨by first | (rw [HA.out]; rfl) | rw [HA.out], hk⟩
end Go.Proofs.Ytkaokhpaabfhmaa
