/- clean of chapter 5. -/
import Derived.Test.YteopldhcmddokaaLatch5
namespace Go.Proofs.Yteopldhcmddokaa
open Go.RowKit

theorem all_zero {s : CM} (h : s.xs.all (· == 0) = true) (k : Int) : s.word k = 0 := by
  unfold CM.word
  split
  · unfold CM.get
    rw [List.getD_eq_getElem?_getD]
    cases hx : s.xs[k.toNat]? with
    | none => rfl
    | some y =>
      have := List.all_eq_true.1 h y (List.mem_of_getElem? hx)
      simpa using this
  · rfl
set_option maxRecDepth 100000 in
set_option maxHeartbeats 2000000 in
theorem clean_calls (c : Conf) (p ab : Nat) (s : CM) (w : World) (h : CellsAt w p ab s) (hz : ∀ k, s.word k = 0) :
    Calls Try.prog 23 #[c.val, .pointer (some ⟨p, 0, none⟩)] w fun e w' => e = .returned (.bool true) ∧ Fr (fun _ => False) w w' := by
  have H := Lib.hid h
  have HZ := Lib.hid hz
  have HC := Lib.hid (cells_calls c)
  have HB := Lib.hid (BoxConf.mk w c)
  obtain ⟨cb0, cb1⟩ := c.cells_bounds
  obtain ⟨n, hn⟩ := Int.eq_ofNat_of_zero_le cb0
  rw [hn] at HC cb1
  unfold Conf.val at *
  clear h hz cb0 hn
  go_enter Try.func23, Try.ntmps23
  go_wp2
  go_loopw [5] (fun v5 wr => ∃ i : Nat, i ≤ n ∧ v5 = .int .i64 i ∧ Fr (fun _ => False) w wr ∧ BoxConf wr w.heap.size c) (fun v5 _ => n - (intOf v5).toNat)
  case atStart => exact ⟨0, by omega, rfl, (Fr.refl _ _).alloc _, HB.out⟩
  case round =>
    obtain ⟨i, hi, rfl, hf, hb⟩ := hrel
    have HF := Lib.hid hf
    have HBB := Lib.hid hb
    obtain ⟨c0, c1, c2, c3, c4, c5, c6, c7, c8, c9, c10, c11⟩ := hb.all
    have hcell := H.out.frame hf (fun x => x) (fun x => x)
    clear hf hb
    by_cases hlt : i < n
    · go_wp2_with (first
        | (go_at_call 12; (with_reducible refine (HC.out _).mono ?_); rintro e w1 ⟨rfl, hf1⟩; have hc1 := hcell.frame hf1 (fun x => x) (fun x => x))
        | (go_at_call 20; (with_reducible refine (peek_calls p ab s i _ hc1).mono ?_); rw [HZ.out]; rintro e w2 ⟨rfl, rfl⟩))
      go_roundw
      case rel => exact ⟨i + 1, by omega, by go_num, HF.out.trans hf1, HBB.out.frame hf1 (fun x => x)⟩
      case measure => simp [intOf]; omega
    · obtain rfl : i = n := by omega
      go_wp2_with (first
        | (go_at_call 12; (with_reducible refine (HC.out _).mono ?_); rintro e w1 ⟨rfl, hf1⟩))
      go_ret
      exact ⟨rfl, HF.out.trans hf1⟩
end Go.Proofs.Yteopldhcmddokaa
