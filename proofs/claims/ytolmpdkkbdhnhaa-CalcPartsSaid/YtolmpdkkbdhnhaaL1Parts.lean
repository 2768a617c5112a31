/- ltklaw1.CalcParts answers true. -/
import Derived.Test.YtolmpdkkbdhnhaaCalcFirst
namespace Go.Proofs.Ytolmpdkkbdhnhaa
open Go.RowKit

theorem IntsC.drewN {w : World} {A : Option Addr} {n cap : Nat} {xs : List Int} (h : IntsC w A n cap xs) (q : Nat) : IntsC (w.drewN q) A n cap xs := ⟨⟨h.row.len, h.row.at_⟩, h.cap, h.max, h.i64⟩
theorem IntsC.take {w : World} {ad : Addr} {n cap : Nat} {xs : List Int} (h : IntsC w (some ad) n cap xs) {t : Nat} (ht : t ≤ n) : IntsC w (some ad) t cap (xs.take t) :=
  ⟨⟨by rw [List.length_take, h.row.len]; omega, fun h0 => ⟨ad, rfl, fun i hi => by
    obtain ⟨ad', h1, h2⟩ := h.row.at_ (by omega)
    cases h1
    rw [getD_take _ hi]; exact h2 i (by omega)⟩⟩, by have := h.cap; omega, by have := h.max; omega, fun x hx => h.i64 x (List.mem_of_mem_take hx)⟩
theorem IntsC.dropA {w : World} {ad : Addr} {n cap : Nat} {xs : List Int} (h : IntsC w (some ad) n cap xs) {t : Nat} (ht : t ≤ n) : IntsC w (some (ad.add t)) (n - t) (cap - t) (xs.drop t) :=
  ⟨h.row.tail t ht, by have := h.cap; omega, by have := h.max; omega, fun x hx => h.i64 x (List.mem_of_mem_drop hx)⟩
theorem IntsC.drop {w : World} {ad : Addr} {n cap : Nat} {xs : List Int} (h : IntsC w (some ad) n cap xs) {t : Nat} (h0 : 0 < t) (ht : t ≤ n) : IntsC w (some ⟨ad.block, ad.off + t, none⟩) (n - t) (cap - t) (xs.drop t) := by
  have := h.row.tail t ht
  rw [show ad.add t = ⟨ad.block, ad.off + t, none⟩ from by unfold Addr.add; rw [if_neg (by omega)]] at this
  exact ⟨this, by have := h.cap; omega, by have := h.max; omega, fun x hx => h.i64 x (List.mem_of_mem_drop hx)⟩

/-- The kinds of parts. -/
def parts6 : List Int := [0, 2, 5, 6, 7, 8]
theorem parts6_built (w : World) : IntsC (w.alloc (.cells #[.int .i64 0, .int .i64 2, .int .i64 5, .int .i64 6, .int .i64 7, .int .i64 8] 3)) (some ⟨w.heap.size, 0, none⟩) 6 6 parts6 := IntsC.built w parts6 (by simp [parts6, I64]) (by decide)
theorem parts6_comm (i : Nat) (hi : i < 6) : Comm (parts6.getD i 0) := by
  have : i = 0 ∨ i = 1 ∨ i = 2 ∨ i = 3 ∨ i = 4 ∨ i = 5 := by omega
  unfold Comm
  rcases this with rfl | rfl | rfl | rfl | rfl | rfl <;> decide
theorem comm_known {k : Int} (h : Comm k) : known k = true := by unfold known; unfold Comm at h; simp; omega
theorem I64_evalV {k : Int} (hk : Comm k) {xs : List Int} (h : ∀ x ∈ xs, I64 x) (hx : xs ≠ []) : I64 (evalV k xs) := by rw [evalV_whole hk h hx]; exact whole_i64 h

set_option maxRecDepth 100000 in
set_option maxHeartbeats 1000000 in
set_option linter.unusedVariables false in
theorem parts_bad (A : Option Addr) (len cap : Nat) (xs : List Int) (a n m : Int) (w : World) (hI : IntsC w A len cap xs) (hbad : len > 1000 ∨ a < 1 ∨ a ≥ len) :
    Calls Try.prog 7 #[.slice A len cap, .int .i64 a, .int .i64 n, .int .i64 m] w fun e w' => e = .returned (.bool true) ∧ Fr (fun _ => False) w w' := by
  have hh : (decide ((1000 : Int) < len) = true) ∨ (decide ((1000 : Int) < len) = false ∧ decide (a < 1) = true) ∨ (decide ((1000 : Int) < len) = false ∧ decide (a < 1) = false ∧ decide ((len : Int) ≤ a) = true) := by simp; omega
  clear hbad
  rcases hh with d1 | ⟨d1, d2⟩ | ⟨d1, d2, d3⟩
  all_goals
    go_enter Try.func7, Try.ntmps7
    go_wp2_with (first
      | (go_at_call 9; refine (firstC _).mono ?_; rintro e w0 ⟨rfl, hf0⟩))
    all_goals go_ret
    all_goals exact ⟨rfl, by repeat (first | exact Fr.refl _ _ | assumption | refine Fr.trans ?_ (by assumption))⟩

set_option maxRecDepth 100000 in
set_option maxHeartbeats 1000000 in
set_option linter.unusedVariables false in
theorem parts_main (ad : Addr) (len cap : Nat) (xs : List Int) (t : Nat) (n m : Int) (w : World) (hI : IntsC w (some ad) len cap xs) (hl : len ≤ 1000) (ht0 : 1 ≤ t) (ht : t < len) (hn : I64 n) (hm : I64 m) :
    Calls Try.prog 7 #[.slice (some ad) len cap, .int .i64 t, .int .i64 n, .int .i64 m] w fun e w' => e = .returned (.bool true) ∧ Fr (fun _ => False) w w' := by
  have d1 : decide ((1000 : Int) < len) = false := by simp; omega
  have d2 : decide ((t : Int) < 1) = false := by simp; omega
  have d3 : decide ((len : Int) ≤ t) = false := by simp; omega
  have d3' : decide (len ≤ t) = false := by simp; omega
  have HI := Lib.hid hI
  have HP := Lib.hid (fun (k : Int) (hk : Comm k) => evalV_parts hk hI.i64 (show 0 < t by omega) (show t < xs.length by rw [hI.row.len]; exact ht))
  have HE1 := Lib.hid (fun (k : Int) (hk : Comm k) => evalE_ok (comm_known hk) (show xs.take t ≠ [] from by rw [ne_eq, ← List.length_eq_zero_iff, List.length_take, hI.row.len]; omega))
  have HE2 := Lib.hid (fun (k : Int) (hk : Comm k) => evalE_ok (comm_known hk) (show xs.drop t ≠ [] from by rw [ne_eq, ← List.length_eq_zero_iff, List.length_drop, hI.row.len]; omega))
  have HE3 := Lib.hid (fun (k : Int) (hk : Comm k) => evalE_ok (comm_known hk) (show xs ≠ [] from by rw [ne_eq, ← List.length_eq_zero_iff, hI.row.len]; omega))
  have HX1 := Lib.hid (fun (k : Int) (hk : Comm k) => I64_evalV hk (fun x hx => hI.i64 x (List.mem_of_mem_take hx)) (show xs.take t ≠ [] from by rw [ne_eq, ← List.length_eq_zero_iff, List.length_take, hI.row.len]; omega))
  have HX2 := Lib.hid (fun (k : Int) (hk : Comm k) => I64_evalV hk (fun x hx => hI.i64 x (List.mem_of_mem_drop hx)) (show xs.drop t ≠ [] from by rw [ne_eq, ← List.length_eq_zero_iff, List.length_drop, hI.row.len]; omega))
  have hcap := hI.cap
  have hc1 : ¬ cap = t := by omega
  have hc2 : t ≤ cap := by omega
  clear hI
  go_enter Try.func7, Try.ntmps7
  go_wp2_with (first
    | (go_at_call 9; refine (firstC _).mono ?_; rintro e w0 ⟨rfl, hf0⟩))
  have HB := Lib.hid (parts6_built w0)
  have HF0 := Lib.hid (hf0.alloc (.cells #[.int .i64 0, .int .i64 2, .int .i64 5, .int .i64 6, .int .i64 7, .int .i64 8] 3))
  clear hf0
  go_loopw [10] (fun v10 wr => ∃ i : Nat, i ≤ 6 ∧ v10 = .int .i64 i ∧ Fr (fun _ => False) (w0.alloc (.cells #[.int .i64 0, .int .i64 2, .int .i64 5, .int .i64 6, .int .i64 7, .int .i64 8] 3)) wr) (fun v10 _ => 6 - (intOf v10).toNat)
  case atStart => exact ⟨0, by omega, rfl, Fr.refl _ _⟩
  case round =>
    obtain ⟨i, hi, rfl, hf⟩ := hrel
    have HFw := Lib.hid (HF0.out.trans hf)
    by_cases hlt : i < 6
    · obtain ⟨ad', had, hcs⟩ := (HB.out.frame hf (fun k x => x.elim)).row.at_ (by decide)
      cases had
      have q0 := hcs i hlt
      rw [add_none, Nat.zero_add] at q0
      have hs := parts6_comm i hlt
      generalize parts6.getD i 0 = s at q0 hs
      have HI1 := HI.out.frame HFw.out (fun k x => x.elim)
      have HS := Lib.hid hs
      have p1 := HE1.out s hs
      have p2 := HE2.out s hs
      have p3 := HE3.out s hs
      have p4 := HP.out s hs
      have p5 := evalE_ok (comm_known hs) (show [evalV s (xs.take t), evalV s (xs.drop t)] ≠ [] by simp)
      have HX := Lib.hid (show ∀ x ∈ [evalV s (xs.take t), evalV s (xs.drop t)], I64 x from by
        intro x hx; simp at hx; rcases hx with rfl | rfl
        · exact HX1.out s hs
        · exact HX2.out s hs)
      have HT := Lib.hid (HI1.take (Nat.le_of_lt ht))
      have HD := Lib.hid (HI1.dropA (Nat.le_of_lt ht))
      have HI2 := Lib.hid HI1
      clear hcs hs HI1
      generalize hv1 : evalV s (xs.take t) = y1 at p4 p5 HX
      generalize hv2 : evalV s (xs.drop t) = y2 at p4 p5 HX
      go_wp2
      go_quiet (first
        | (go_at_call 10; exact Calls.quiet_of (evalQ s _ _ _ _ _ (HT.out.drewN _))))
      generalize nq = n1
      generalize hw2 : wr.drewN n1 = wr2
      have HW2 := Lib.hid hw2
      have q2 : wr2.cell? ⟨w0.heap.size, i, none⟩ = some (.int .i64 s) := by rw [← hw2]; exact q0
      have HD2 : Hid (IntsC wr2 (some (ad.add t)) (len - t) (cap - t) (xs.drop t)) := by rw [← hw2]; exact HD.out.drewN n1
      clear hw2 q0
      go_wp2
      go_quiet (first
        | (go_at_call 10; exact Calls.quiet_of (evalQ s _ _ _ _ _ (HD2.out.drewN _))))
      generalize hw3 : wr2.drewN nq = wr3
      have HW3 : Hid (wr3 = wr.drewN (n1 + nq)) := by rw [← hw3, ← HW2.out]; exact World.drewN_drewN _ _ _
      have q3 : wr3.cell? ⟨w0.heap.size, i, none⟩ = some (.int .i64 s) := by rw [← hw3]; exact q2
      have HI3 : Hid (IntsC wr3 (some ad) len cap xs) := by rw [HW3.out]; exact HI2.out.drewN _
      clear hw3 q2
      have HB2 := Lib.hid (IntsC.built2 wr3 y1 y2 HX.out)
      go_wp2_with (first
        | (go_at_call 10; (with_reducible refine (evalC s _ _ _ _ _ HB2.out).mono ?_); rintro e w4 ⟨rfl, hf4⟩; have q4 := (((Fr.refl (fun _ => False) wr3).alloc _).trans hf4).cell q3 (fun x => x); have HI4 := HI3.out.frame (((Fr.refl (fun _ => False) wr3).alloc _).trans hf4) (fun k x => x.elim))
        | (go_at_call 10; (with_reducible refine (evalC s _ _ _ xs _ HI4).mono ?_); rintro e w5 ⟨rfl, hf5⟩))
      go_roundw
      case rel =>
        refine ⟨i + 1, by omega, by go_num, ?_⟩
        have h3 : Fr (fun _ => False) wr wr3 := by rw [HW3.out]; exact (Fr.refl _ _).drewN _
        exact (((hf.trans h3).alloc _).trans hf4).trans hf5
      case measure => simp [intOf]; omega
    · obtain rfl : i = 6 := by omega
      clear hf
      have HW := Lib.hid (wrapC n m wr hn hm)
      by_cases hm1 : m < 1
      · have d4 : decide (m < 1) = true := by simpa using hm1
        have e0 : wrapV n m = 0 := if_pos hm1
        clear hm1
        go_wp2_with (first
          | (go_at_call 14; (with_reducible refine HW.out.mono ?_); rintro e w1 ⟨rfl, rfl⟩)
          | (go_at_call 9; refine (firstC _).mono ?_; rintro e w2 ⟨rfl, hf2⟩))
        go_ret
        exact ⟨rfl, HFw.out.trans hf2⟩
      · have d4 : decide (m < 1) = false := by simpa using hm1
        have e0 : wrapV n m = n % m := if_neg hm1
        have hz : ¬ m = 0 := by omega
        have hz' : (m == 0) = false := by simpa using hz
        have b1 := Int.emod_nonneg n hz
        have b2 := Int.emod_lt_of_pos n (show 0 < m by omega)
        have b3 : n.tmod m = n % m ∨ (n.tmod m = n % m - m ∧ n.tmod m < 0) := by
          rcases Int.le_total 0 n with hn0 | hn0
          · exact .inl (Int.tmod_eq_emod_of_nonneg hn0)
          · rw [Int.tmod_eq_emod]
            split <;> omega
        have c1 : decide (0 ≤ wrapV n m) = true := by simp; omega
        have c2 : decide (wrapV n m < m) = true := by simp; omega
        have c3 : ((wrap64 (n.tmod m - wrapV n m)).tmod m == 0) = true := by
          rw [e0]
          have : wrap64 (n.tmod m - n % m) = 0 ∨ wrap64 (n.tmod m - n % m) = -m := by unfold wrap64; unfold I64 at hm; omega
          rcases this with h | h <;> rw [h] <;> simp
        clear hm1 e0 b1 b2 b3
        generalize wrapV n m = v at c1 c2 c3 HW
        go_wp2_with (first
          | (go_at_call 14; (with_reducible refine HW.out.mono ?_); rintro e w1 ⟨rfl, rfl⟩)
          | (go_at_call 9; refine (firstC _).mono ?_; rintro e w2 ⟨rfl, hf2⟩))
        go_ret
        exact ⟨rfl, HFw.out.trans hf2⟩

theorem parts_walk (A : Option Addr) (len cap : Nat) (xs : List Int) (a n m : Int) (w : World) (hI : IntsC w A len cap xs) (_ : (Lit.int .i64 a).wf = true) (hn : (Lit.int .i64 n).wf = true) (hm : (Lit.int .i64 m).wf = true) :
    Calls Try.prog 7 #[.slice A len cap, .int .i64 a, .int .i64 n, .int .i64 m] w fun e w' => e = .returned (.bool true) ∧ Fr (fun _ => False) w w' := by
  by_cases hbad : len > 1000 ∨ a < 1 ∨ a ≥ len
  · exact parts_bad A len cap xs a n m w hI hbad
  · obtain ⟨t, rfl⟩ := Int.eq_ofNat_of_zero_le (show 0 ≤ a by omega)
    obtain ⟨ad, rfl, _⟩ := hI.row.at_ (by omega)
    exact parts_main ad len cap xs t n m w hI (by omega) (by omega) (by omega) (I64.of hn) (I64.of hm)
end Go.Proofs.Ytolmpdkkbdhnhaa
