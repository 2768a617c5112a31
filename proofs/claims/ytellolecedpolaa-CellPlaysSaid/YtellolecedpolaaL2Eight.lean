/- ltklaw2.CellEight answers true. -/
import Derived.Test.YtellolecedpolaaL2First
import Derived.Test.YtellolecedpolaaOpen
import Derived.Test.YtellolecedpolaaBits
namespace Go.Proofs.Ytellolecedpolaa
open Go.RowKit

def C1 (x c : Int) : CM := { xs := [x], cnt := c }
theorem C1_zero : CM.zero (Int.toNat 1) = C1 0 0 := rfl
theorem C1_in (x c : Int) : (C1 x c).in 0 = true := by rw [CM.in_iff]; simp [C1]
theorem C1_store (x c v : Int) : (C1 x c).store 0 v = C1 v (wrap64 (c + 1)) := by unfold CM.store; rw [if_pos (C1_in _ _)]; rfl
theorem C1_word (x c : Int) : (C1 x c).word 0 = x := by unfold CM.word; rw [if_pos (C1_in _ _)]; rfl
theorem C1_ok (x c k b : Int) (h0 : 0 ≤ k) (h8 : k < 8) (hb0 : 0 ≤ b) (hb : b ≤ 255) : ((C1 x c).inB 0 k && isByte b) = true := by
  simp [CM.inB, C1_in, part, isByte, h0, h8, hb0, hb]
theorem C1_errS (x c k b : Int) (h0 : 0 ≤ k) (h8 : k < 8) (hb0 : 0 ≤ b) (hb : b ≤ 255) : (C1 x c).errS 0 k b = 0 := by
  unfold CM.errS; rw [if_pos (C1_ok x c k b h0 h8 hb0 hb)]
theorem C1_storeB (x c k b : Int) (h0 : 0 ≤ k) (h8 : k < 8) (hb0 : 0 ≤ b) (hb : b ≤ 255) : (C1 x c).storeB 0 k b = C1 (withByte x k b) (wrap64 (c + 1)) := by
  unfold CM.storeB; rw [if_pos (C1_ok x c k b h0 h8 hb0 hb)]; rfl

theorem C1_bad (x c a k b : Int) (h : ((C1 x c).in a && part k && isByte b) = false) : (C1 x c).errS a k b = 1 := by
  unfold CM.errS CM.inB; rw [h]; rfl
theorem C1_badS (x c a k b : Int) (h : ((C1 x c).in a && part k && isByte b) = false) : (C1 x c).storeB a k b = C1 x (wrap64 (c + 1)) := by
  unfold CM.storeB CM.inB; rw [h]; rfl

theorem bit_withByte (x : Int) (k : Nat) (b : Int) (hk : k < 8) (hb0 : 0 ≤ b) (hb : b ≤ 255) (i : Nat) (hi : i < 64) :
    bit (withByte x k b) i = if 8 * k ≤ i ∧ i < 8 * k + 8 then bit b (i - 8 * k) else bit x i := by
  unfold withByte
  rw [bit_or, bit_andNot, bit_wrap, bit_wrap, show (8 * (k : Int)).toNat = 8 * k by omega, bit_shl, bit_shl, bit_255]
  by_cases h1 : 8 * k ≤ i
  · by_cases h2 : i < 8 * k + 8
    · rw [if_pos ⟨h1, h2⟩]
      have h3 : decide (i - 8 * k < 8) = true := by simp; omega
      simp [hi, h3, Nat.not_lt.2 h1]
    · rw [if_neg (by omega), bit_small hb0 hb (i - 8 * k) (by omega)]
      have h3 : decide (i - 8 * k < 8) = false := by simp; omega
      simp [h3]
  · rw [if_neg (by omega)]
    have h3 : decide (i < 8 * k) = true := by simp; omega
    simp [h3]

/-- Behind k bytes: the low ones are what is wanted, the others are as they were; nothing is wanted above. -/
def Sofar (k : Nat) (x want : Int) : Prop := I64 x ∧ (0 ≤ want ∧ want < 18446744073709551616) ∧ (∀ i, i < 8 * k → bit x i = bit want i) ∧ ∀ i, 8 * k ≤ i → bit want i = false
theorem Sofar.start {x : Int} (h : I64 x) : Sofar 0 x 0 := ⟨h, by omega, fun i hi => absurd hi (by omega), fun i _ => by have := bit_nat 0 i; rw [show ((0 : Nat) : Int) = 0 from rfl] at this; rw [this]; simp⟩
theorem Sofar.step {k : Nat} {x want b : Int} (h : Sofar k x want) (hk : k < 8) (hb0 : 0 ≤ b) (hb : b ≤ 255) (y : Int) (hy : ∀ i, i < 64 → bit y i = (!decide (i < 8 * k) && bit b (i - 8 * k))) :
    Sofar (k + 1) (withByte x k b) (bits .or .u64 want y) := by
  obtain ⟨h1, h2, h3, h4⟩ := h
  refine ⟨I64_bits _ _ _, ubits_range _ _ _, fun i hi => ?_, fun i hi => ?_⟩
  · rw [bit_withByte x k b hk hb0 hb i (by omega), ubit_or, hy i (by omega)]
    by_cases hi2 : 8 * k ≤ i
    · rw [if_pos ⟨hi2, by omega⟩, h4 i hi2]; simp [Nat.not_lt.2 hi2]
    · rw [if_neg (by omega), h3 i (by omega)]; simp [Nat.lt_of_not_le hi2]
  · by_cases hi64 : i < 64
    · rw [ubit_or, hy i hi64, h4 i (by omega), bit_small hb0 hb _ (by omega)]; simp
    · exact bit_past _ _ (by omega)
theorem Sofar.done {x want : Int} (h : Sofar 8 x want) : IntKind.u64.wrap x = want := by
  obtain ⟨h1, h2, h3, _⟩ := h
  exact ueq_of_bits (u64_range _) h2 (fun i hi => by rw [bit_uwrap]; exact h3 i (by omega))

set_option maxRecDepth 100000 in
set_option linter.unusedVariables false in
theorem eight_walk (x : Int) (A : Option Addr) (n cap : Nat) (xs : List Int) (w : World) (hx : (Lit.int .i64 x).wf = true) (h : BytesIn w A n xs) :
    Calls Try.prog 5 #[.int .i64 x, .slice A n cap] w fun e w' => e = .returned (.bool true) ∧ Fr (fun _ => False) w w' := by
  by_cases hn : n = 8
  · subst hn
    have Hz := Lib.hid C1_zero
    have Hst := Lib.hid (C1_store 0 0 x)
    have HX := Lib.hid (I64.of hx)
    clear hx
    go_enter Try.func5, Try.ntmps5
    go_wp2_with (first
      | (go_at_call 10; refine (first_calls _).mono ?_; rintro e w0 ⟨rfl, hf0⟩)
      | (go_at_call 11; refine (new_calls 1 _ (by omega) (by omega)).mono ?_; rw [Hz.out]; rintro e w1 ⟨rfl, hc1, hf1⟩)
      | (go_at_call 12; refine (store_calls _ _ _ _ _ _ hc1).mono ?_; rw [Hst.out]; rintro e w2 ⟨rfl, hc2, hf2⟩))
    have hfw := (hf0.trans hf1).trans' hf2 (fun i hi hl => by unfold two at hi; have := hf0.size; omega)
    have hl0 := hf0.size
    clear hf0 hf1 hc1 hf2
    go_loopw [7, 8] (fun v7 v8 wr => ∃ (k : Nat) (y c want : Int), k ≤ 8 ∧ v7 = .int .u64 want ∧ v8 = .int .i64 k ∧ Sofar k y want ∧ CellsAt wr (w0.heap.size + 1) w0.heap.size (C1 y c) ∧ Fr (fun _ => False) w wr) (fun _ v8 _ => 8 - (intOf v8).toNat)
    case atStart => exact ⟨0, x, _, 0, Nat.zero_le _, rfl, rfl, Sofar.start HX.out, hc2, hfw⟩
    case round =>
      obtain ⟨k, y, c, want, hk, rfl, rfl, hso, hc, hf⟩ := hrel
      clear hc2 hfw
      by_cases hlt : k < 8
      · obtain ⟨ad, rfl, hcs⟩ := h.at_ (by omega)
        obtain ⟨hcell0, hb0, hb⟩ := hcs k hlt
        have hcell : wr.cell? (ad.add k) = some (.int .u8 (xs.getD k 0)) := hf.cell hcell0 (fun x => x)
        have HNB := Lib.hid (show ¬ two (w0.heap.size + 1) w0.heap.size (ad.add k).block from fun x => by have := World.block_lt_of_cell? w _ hcell0; unfold two at x; omega)
        clear hcs hcell0
        generalize xs.getD k 0 = v at hcell hb0 hb
        have ee := C1_errS y c k v (by omega) (by omega) hb0 hb
        have HS := Lib.hid (C1_storeB y c k v (by omega) (by omega) hb0 hb)
        go_wp2_with (first
              | (go_at_call 17; refine (storeByte_calls _ _ _ _ _ _ _ hc).mono ?_; rw [HS.out]; rintro e w4 ⟨rfl, hc4, hf4⟩; have hcell4 := hf4.cell hcell HNB.out))
        go_roundw
        case rel => exact ⟨k + 1, _, _, _, by omega, rfl, by go_num, hso.step hlt hb0 hb _ (fun i hi => by rw [bit_uwrap, bit_shl]; simp [hi]), hc4, (hf.fresh hf4 (by omega) (by omega))⟩
        case measure => simp [intOf]; omega
      · obtain rfl : k = 8 := by omega
        have hd := hso.done
        have e0 : (IntKind.u64.wrap y == want) = true := by rw [hd]; simp
        clear hd
        have e1 : (C1 y c).errS 0 8 0 = 1 := C1_bad y c 0 8 0 (by simp [part])
        have e2 : (C1 y (wrap64 (c + 1))).errS 0 0 256 = 1 := C1_bad _ _ 0 0 256 (by simp [isByte])
        have e3 : (C1 y (wrap64 (wrap64 (c + 1) + 1))).errS 1 0 0 = 1 := C1_bad _ _ 1 0 0 (by simp [CM.in, C1])
        have e4 := C1_word y c
        have e5 := C1_word y (wrap64 (wrap64 (wrap64 (c + 1) + 1) + 1))
        have H1 := Lib.hid (C1_badS y c 0 8 0 (by simp [part]))
        have H2 := Lib.hid (C1_badS y (wrap64 (c + 1)) 0 0 256 (by simp [isByte]))
        have H3 := Lib.hid (C1_badS y (wrap64 (wrap64 (c + 1) + 1)) 1 0 0 (by simp [CM.in, C1]))
        go_wp2_with (first
          | (go_at_call 10; refine (first_calls _).mono ?_; rintro e w5 ⟨rfl, hf5⟩; have hc5 := hc.frame hf5 (fun x => x) (fun x => x); have tok : True := trivial)
          | (go_at_call 15; have := tok; clear this tok; refine (peek_calls _ _ _ _ _ hc5).mono ?_; rintro e w6 ⟨rfl, rfl⟩)
          | (go_at_call 17; with_reducible refine (storeByte_calls _ _ _ 0 8 0 _ hc5).mono ?_; rw [H1.out]; rintro e w7 ⟨rfl, hc7, hf7⟩)
          | (go_at_call 17; with_reducible refine (storeByte_calls _ _ _ 0 0 256 _ hc7).mono ?_; rw [H2.out]; rintro e w8 ⟨rfl, hc8, hf8⟩)
          | (go_at_call 17; with_reducible refine (storeByte_calls _ _ _ 1 0 0 _ hc8).mono ?_; rw [H3.out]; rintro e w9 ⟨rfl, hc9, hf9⟩)
          | (go_at_call 15; refine (peek_calls _ _ _ _ _ hc9).mono ?_; rintro e w10 ⟨rfl, rfl⟩))
        go_ret
        exact ⟨rfl, (((hf.trans hf5).fresh hf7 (by omega) (by omega)).fresh hf8 (by omega) (by omega)).fresh hf9 (by omega) (by omega)⟩
  · have hg : (n : Int) ≠ 8 := by omega
    have hg' : ((n : Int) != 8) = true := by simpa using hg
    clear hn hg
    go_enter Try.func5, Try.ntmps5
    go_wp2_with (first
        | (go_at_call 10; refine (first_calls _).mono ?_; rintro e w0 ⟨rfl, hf0⟩)
        | (go_at_call 11; refine (new_calls 1 _ (by omega) (by omega)).mono ?_; rintro e w1 ⟨rfl, hc1, hf1⟩))
    all_goals go_ret
    all_goals exact ⟨rfl, by repeat (first | exact Fr.refl _ _ | assumption | refine Fr.trans ?_ (by assumption))⟩
end Go.Proofs.Ytellolecedpolaa
