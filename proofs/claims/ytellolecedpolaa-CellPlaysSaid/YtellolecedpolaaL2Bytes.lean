/- ltklaw2.CellBytes answers true. -/
import Derived.Test.YtellolecedpolaaL2Eight
namespace Go.Proofs.Ytellolecedpolaa
open Go.RowKit

def C3 (x c : Int) : CM := { xs := [0, x, 0], cnt := c }
theorem C3_zero : CM.zero (Int.toNat 3) = C3 0 0 := rfl
theorem C3_in (x c : Int) : (C3 x c).in 1 = true := by rw [CM.in_iff]; simp [C3]
theorem C3_store (x c v : Int) : (C3 x c).store 1 v = C3 v (wrap64 (c + 1)) := by unfold CM.store; rw [if_pos (C3_in _ _)]; rfl
theorem C3_err (x c : Int) : (C3 x c).err 1 = 0 := by unfold CM.err; rw [if_pos (C3_in _ _)]
theorem C3_word1 (x c : Int) : (C3 x c).word 1 = x := by unfold CM.word; rw [if_pos (C3_in _ _)]; rfl
theorem C3_word0 (x c : Int) : (C3 x c).word 0 = 0 := by unfold CM.word; split <;> rfl
theorem C3_word2 (x c : Int) : (C3 x c).word 2 = 0 := by unfold CM.word; split <;> rfl
theorem C3_okB (x c k : Int) (h0 : 0 ≤ k) (h8 : k < 8) : (C3 x c).inB 1 k = true := by simp [CM.inB, C3_in, part, h0, h8]
theorem C3_ok (x c k b : Int) (h0 : 0 ≤ k) (h8 : k < 8) (hb0 : 0 ≤ b) (hb : b ≤ 255) : ((C3 x c).inB 1 k && isByte b) = true := by
  simp [C3_okB x c k h0 h8, isByte, hb0, hb]
theorem C3_errS (x c k b : Int) (h0 : 0 ≤ k) (h8 : k < 8) (hb0 : 0 ≤ b) (hb : b ≤ 255) : (C3 x c).errS 1 k b = 0 := by
  unfold CM.errS; rw [if_pos (C3_ok x c k b h0 h8 hb0 hb)]
theorem C3_storeB (x c k b : Int) (h0 : 0 ≤ k) (h8 : k < 8) (hb0 : 0 ≤ b) (hb : b ≤ 255) : (C3 x c).storeB 1 k b = C3 (withByte x k b) (wrap64 (c + 1)) := by
  unfold CM.storeB; rw [if_pos (C3_ok x c k b h0 h8 hb0 hb)]; rfl
theorem C3_byte (x c k : Int) (h0 : 0 ≤ k) (h8 : k < 8) : (C3 x c).byte 1 k = byteOf x k := by unfold CM.byte; rw [if_pos (C3_okB x c k h0 h8)]; rfl
theorem C3_errB (x c k : Int) (h0 : 0 ≤ k) (h8 : k < 8) : (C3 x c).errB 1 k = 0 := by unfold CM.errB; rw [if_pos (C3_okB x c k h0 h8)]
theorem C3_tick (x c : Int) : (C3 x c).tick = C3 x (wrap64 (c + 1)) := rfl

theorem bit_byteOf {x : Int} (hx : I64 x) (k : Nat) (hk : k < 8) (i : Nat) : bit (byteOf x k) i = (decide (i < 8) && bit x (8 * k + i)) := by
  unfold byteOf
  rw [bit_and, bit_255, show (8 * (k : Int)).toNat = 8 * k by omega]
  by_cases h : i < 8
  · rw [bit_sshr hx _ _ (by omega)]; simp [h]
  · simp [h]
theorem byteOf_I64 (x k : Int) : I64 (byteOf x k) := I64_bits _ _ _
theorem small_I64 {b : Int} (h0 : 0 ≤ b) (h : b ≤ 255) : I64 b := by unfold I64; omega
/-- The byte that was set; a byte beside it. -/
theorem byte_same {x : Int} (k : Nat) (b : Int) (hk : k < 8) (hb0 : 0 ≤ b) (hb : b ≤ 255) : byteOf (withByte x k b) k = b := by
  refine eq_of_bits (byteOf_I64 _ _) (small_I64 hb0 hb) (fun i hi => ?_)
  rw [bit_byteOf (x := withByte x k b) (I64_bits _ _ _) k hk]
  by_cases h : i < 8
  · rw [bit_withByte x k b hk hb0 hb _ (by omega), if_pos (by omega)]; simp [h]
  · rw [bit_small hb0 hb i (by omega)]; simp [h]
theorem byte_other {x : Int} (hx : I64 x) (k i : Nat) (b : Int) (hk : k < 8) (hi : i < 8) (hne : i ≠ k) (hb0 : 0 ≤ b) (hb : b ≤ 255) : byteOf (withByte x k b) i = byteOf x i := by
  refine eq_of_bits (byteOf_I64 _ _) (byteOf_I64 _ _) (fun j hj => ?_)
  rw [bit_byteOf (x := withByte x k b) (I64_bits _ _ _) i hi, bit_byteOf hx i hi]
  by_cases h : j < 8
  · rw [bit_withByte x k b hk hb0 hb _ (by omega), if_neg (by omega)]
  · simp [h]
/-- Go's other way to tell a byte. -/
theorem byte_u {x : Int} (hx : I64 x) (i : Nat) (hi : i < 8) (z : Int) (hz : z = bits .and .u64 (IntKind.u64.wrap x / 2 ^ (8 * (i : Int)).toNat) 255) : IntKind.i64.wrap z = byteOf x i := by
  refine eq_of_bits (by rw [i64_wrap_B]; exact I64_toInt _) (byteOf_I64 _ _) (fun j hj => ?_)
  rw [bit_iwrap, hz, ubit_and, bit_255, bit_byteOf hx i hi, bit_ushr (u64_range _).1 (u64_range _).2, bit_uwrap, show (8 * (i : Int)).toNat = 8 * i by omega]
  exact Bool.and_comm _ _

/-- What has been read from above down to byte m. -/
def Back (m : Nat) (y back : Int) : Prop := (0 ≤ back ∧ back < 18446744073709551616) ∧ ∀ j, j < 64 → bit back j = (decide (8 * m + j < 64) && bit y (8 * m + j))
theorem Back.start (y : Int) : Back 8 y 0 := ⟨by omega, fun j hj => by
  have := bit_nat 0 j; rw [show ((0 : Nat) : Int) = 0 from rfl] at this; rw [this]; simp; omega⟩
theorem Back.step {m : Nat} {y back : Int} (h : Back (m + 1) y back) (hm : m < 8) (hy : I64 y) (z : Int) (hz : z = byteOf y m) (u t : Int) (hu : ∀ j, j < 64 → bit u j = bit z j) (ht : ∀ j, j < 64 → bit t j = (!decide (j < 8) && bit back (j - 8))) : Back m y (bits .or .u64 t u) := by
  refine ⟨ubits_range _ _ _, fun j hj => ?_⟩
  rw [ubit_or, hu j hj, ht j hj, hz, bit_byteOf hy m hm]
  by_cases h8 : j < 8
  · have : 8 * m + j < 64 := by omega
    simp [h8, this]
  · rw [h.2 (j - 8) (by omega), show 8 * (m + 1) + (j - 8) = 8 * m + j by omega]; simp [h8]
theorem Back.done {y back : Int} (h : Back 0 y back) : IntKind.u64.wrap y = back :=
  ueq_of_bits (u64_range _) h.1 (fun i hi => by rw [bit_uwrap, h.2 i hi]; simp [hi])

set_option maxRecDepth 100000 in
set_option linter.unusedVariables false in
theorem bytes_walk (x k b : Int) (w : World) (hx : (Lit.int .i64 x).wf = true) (_ : (Lit.int .i64 k).wf = true) (_ : (Lit.int .i64 b).wf = true) :
    Calls Try.prog 6 #[.int .i64 x, .int .i64 k, .int .i64 b] w fun e w' => e = .returned (.bool true) ∧ Fr (fun _ => False) w w' := by
  by_cases hg : (0 ≤ k ∧ k ≤ 7) ∧ 0 ≤ b ∧ b ≤ 255
  · obtain ⟨⟨hk0, hk7⟩, hb0, hb⟩ := hg
    obtain ⟨k, rfl⟩ := Int.eq_ofNat_of_zero_le hk0
    have hk : k < 8 := by omega
    have Hz := Lib.hid C3_zero
    have Hst := Lib.hid (C3_store 0 0 x)
    have HSB := Lib.hid (C3_storeB x (wrap64 (0 + 1)) k b (by omega) (by omega) hb0 hb)
    have HX := Lib.hid (I64.of hx)
    clear hx
    go_enter Try.func6, Try.ntmps6
    go_wp2_with (first
      | (go_at_call 10; refine (first_calls _).mono ?_; rintro e w0 ⟨rfl, hf0⟩)
      | (go_at_call 11; refine (new_calls 3 _ (by omega) (by omega)).mono ?_; rw [Hz.out]; rintro e w1 ⟨rfl, hc1, hf1⟩)
      | (go_at_call 12; refine (store_calls _ _ _ _ _ _ hc1).mono ?_; rw [Hst.out]; rintro e w2 ⟨rfl, hc2, hf2⟩)
      | (go_at_call 17; refine (storeByte_calls _ _ _ _ _ _ _ hc2).mono ?_; rw [HSB.out]; rintro e w3 ⟨rfl, hc3, hf3⟩))
    have hfw := ((hf0.trans hf1).trans' hf2 (fun i hi hl => by unfold two at hi; have := hf0.size; omega)).trans' hf3 (fun i hi hl => by unfold two at hi; have := hf0.size; omega)
    have hl0 := hf0.size
    clear hf0 hf1 hc1 hf2 hc2 hf3
    have ec : wrap64 (wrap64 (0 + 1) + 1) = 10 - ((8 : Nat) : Int) := by decide +kernel
    rw [ec] at hc3
    clear ec
    have HBY := Lib.hid (fun (i : Nat) (hi : i < 8) (hne : i ≠ k) => byte_other HX.out k i b hk hi hne hb0 hb)
    have HBS := Lib.hid (byte_same (x := x) k b hk hb0 hb)
    have HY : Hid (I64 (withByte x k b)) := I64_bits _ _ _
    generalize withByte x k b = y at *
    go_loopw [9, 10] (fun v9 v10 wr => ∃ (m : Nat) (back : Int), m ≤ 8 ∧ v9 = .int .u64 back ∧ v10 = .int .i64 ((m : Int) - 1) ∧ Back m y back ∧ CellsAt wr (w0.heap.size + 1) w0.heap.size (C3 y (10 - m)) ∧ Fr (fun _ => False) w wr) (fun _ v10 _ => (intOf v10 + 1).toNat)
    case atStart => exact ⟨8, 0, by omega, rfl, rfl, Back.start _, hc3, hfw⟩
    case round =>
      obtain ⟨m, back, hm, rfl, rfl, hba, hc, hf⟩ := hrel
      clear hc3 hfw
      cases m with
      | zero =>
        have hd := hba.done
        have e0 : (IntKind.u64.wrap y == back) = true := by rw [hd]; simp
        clear hd
        replace hc : CellsAt wr (w0.heap.size + 1) w0.heap.size (C3 y 10) := hc
        have e1 := C3_word1 y 10
        have e2 := C3_err y 10
        have HT := Lib.hid (show (C3 y 10).tick = C3 y 11 from by rw [C3_tick, show wrap64 (10 + 1) = 11 from by decide +kernel])
        have e3 := C3_word0 y 11
        have e4 := C3_word2 y 11
        have e5 : (C3 y 11).cnt = 11 := rfl
        go_wp2_with (first
          | (go_at_call 13; refine (load_calls _ _ _ _ _ hc).mono ?_; rw [HT.out]; rintro e w4 ⟨rfl, hc4, hf4⟩)
          | (go_at_call 10; refine (first_calls _).mono ?_; rintro e w5 ⟨rfl, hf5⟩; have hc5 := hc4.frame hf5 (fun x => x) (fun x => x))
          | (go_at_call 15; refine (peek_calls _ _ _ _ _ hc5).mono ?_; rintro e w6 ⟨rfl, rfl⟩)
          | (go_at_call 16; refine (count_calls _ _ _ _ hc5).mono ?_; rintro e w6 ⟨rfl, rfl⟩))
        go_ret
        exact ⟨rfl, (hf.fresh hf4 (by omega) (by omega)).trans hf5⟩
      | succ m =>
        have hm8 : m < 8 := by omega
        rw [show (10 : Int) - ((m + 1 : Nat) : Int) = 9 - m by omega] at hc
        have e1 := C3_byte y (9 - (m : Int)) m (by omega) (by omega)
        have e2 := C3_errB y (9 - (m : Int)) m (by omega) (by omega)
        have HT := Lib.hid (show (C3 y (9 - (m : Int))).tick = C3 y (10 - (m : Int)) from by rw [C3_tick]; congr 1; unfold wrap64; omega)
        have em : ((m + 1 : Nat) : Int) - 1 = m := by omega
        rw [em]
        have hmi : (0 : Int) ≤ m := by omega
        clear em
        have hu : ∀ j, j < 64 → bit (IntKind.u64.wrap (byteOf y m)) j = bit (byteOf y m) j := fun j _ => bit_uwrap _ _
        have ht : ∀ j, j < 64 → bit (IntKind.u64.wrap (back * 256)) j = (!decide (j < 8) && bit back (j - 8)) := fun j hj => by
          rw [bit_uwrap, show (256 : Int) = 2 ^ 8 from rfl, bit_shl]; simp [hj]
        have HB := Lib.hid (hba.step hm8 HY.out _ rfl _ _ hu ht)
        clear hu ht hba
        by_cases hmk : m = k
        · subst hmk
          have HE3 := HBS
          have e4 : (byteOf y m != b) = false := by rw [HBS.out]; simp
          go_wp2_with (first
            | (go_at_call 18; refine (loadByte_calls _ _ _ _ _ _ hc).mono ?_; rw [HT.out]; rintro e w4 ⟨rfl, hc4, hf4⟩))
          go_roundw
          case rel => exact ⟨m, _, by omega, rfl, rfl, HB.out, hc4, hf.fresh hf4 (by omega) (by omega)⟩
          case measure => exact (show ((m : Int) - 1 + 1).toNat < ((m : Int) + 1).toNat by omega)
        · have hne : ((m : Int) == (k : Int)) = false := by simp; omega
          have hww : wrap64 (bits .and .u64 (IntKind.u64.wrap x / 2 ^ (8 * m)) 255) = byteOf y m := by
            have h1 := byte_u HX.out m hm8 _ rfl
            rw [IntKind.wrap_i64, show (8 * (m : Int)).toNat = 8 * m by omega] at h1
            rw [HBY.out m hm8 hmk, ← h1, wrap64]
          clear hmk
          go_wp2_with (first
            | (go_at_call 18; refine (loadByte_calls _ _ _ _ _ _ hc).mono ?_; rw [HT.out]; rintro e w4 ⟨rfl, hc4, hf4⟩))
          go_roundw
          case rel => exact ⟨m, _, by omega, rfl, rfl, HB.out, hc4, hf.fresh hf4 (by omega) (by omega)⟩
          case measure => exact (show ((m : Int) - 1 + 1).toNat < ((m : Int) + 1).toNat by omega)
  · have hg' : k < 0 ∨ 7 < k ∨ b < 0 ∨ 255 < b := by omega
    clear hg
    rcases hg' with hg | hg | hg | hg
    all_goals
      go_enter Try.func6, Try.ntmps6
      go_wp2_with (first
        | (go_at_call 10; refine (first_calls _).mono ?_; rintro e w0 ⟨rfl, hf0⟩)
        | (go_at_call 11; refine (new_calls 3 _ (by omega) (by omega)).mono ?_; rintro e w1 ⟨rfl, hc1, hf1⟩))
      all_goals go_ret
      all_goals exact ⟨rfl, by repeat (first | exact Fr.refl _ _ | assumption | refine Fr.trans ?_ (by assumption))⟩
end Go.Proofs.Ytellolecedpolaa
