/- ltklaw2.CellAdds answers true. -/
import Derived.Test.YtellolecedpolaaL2First
import Derived.Test.YtellolecedpolaaOpen
namespace Go.Proofs.Ytellolecedpolaa
open Go.RowKit

def sumW (l : List Int) : Int := l.foldl (fun a x => wrap64 (a + x)) 0
def SK (at_ : Int) (l : List Int) : CM := { xs := (List.replicate 4 0).set at_.toNat (sumW l), cnt := l.length }

theorem sumW_snoc (l : List Int) (x : Int) : sumW (l ++ [x]) = wrap64 (sumW l + x) := by simp [sumW]
theorem take_snoc_int (xs : List Int) (k : Nat) (h : k < xs.length) : xs.take (k + 1) = xs.take k ++ [xs.getD k 0] := by
  rw [List.take_succ_eq_append_getElem h, List.getD_eq_getElem?_getD, List.getElem?_eq_getElem h]; rfl

theorem SK_in (at_ : Int) (l : List Int) (h0 : 0 ≤ at_) (h3 : at_ ≤ 3) : (SK at_ l).in at_ = true := by
  rw [CM.in_iff]; simp [SK]; omega
theorem SK_get (at_ : Int) (l : List Int) (h0 : 0 ≤ at_) (h3 : at_ ≤ 3) : (SK at_ l).get at_ = sumW l := by
  have : at_.toNat < 4 := by omega
  simp [SK, CM.get, List.getD_eq_getElem?_getD, this]
theorem SK_more (at_ : Int) (l : List Int) (x : Int) (h0 : 0 ≤ at_) (h3 : at_ ≤ 3) : (SK at_ l).more at_ x = wrap64 (sumW l + x) := by
  unfold CM.more; rw [if_pos (SK_in at_ l h0 h3), SK_get at_ l h0 h3]
theorem SK_err (at_ : Int) (l : List Int) (h0 : 0 ≤ at_) (h3 : at_ ≤ 3) : (SK at_ l).err at_ = 0 := by
  unfold CM.err; rw [if_pos (SK_in at_ l h0 h3)]
theorem SK_add (at_ : Int) (l : List Int) (x : Int) (h0 : 0 ≤ at_) (h3 : at_ ≤ 3) (hl : l.length ≤ 200) : (SK at_ l).add at_ x = SK at_ (l ++ [x]) := by
  unfold CM.add
  rw [if_pos (SK_in at_ l h0 h3), SK_get at_ l h0 h3]
  simp only [SK, CM.put, CM.tick, sumW_snoc, List.set_set, List.length_append, List.length_cons, List.length_nil, CM.mk.injEq, true_and]
  unfold wrap64; omega
theorem SK_word (at_ : Int) (l : List Int) (h0 : 0 ≤ at_) (h3 : at_ ≤ 3) : (SK at_ l).word at_ = sumW l := by
  unfold CM.word; rw [if_pos (SK_in at_ l h0 h3), SK_get at_ l h0 h3]

theorem SK_out (at_ a : Int) (l : List Int) (h : a < 0 ∨ 4 ≤ a) : (SK at_ l).in a = false := by
  rw [Bool.eq_false_iff, ne_eq, CM.in_iff]; simp [SK]; omega
theorem SK_beside (at_ a : Int) (l : List Int) (h0 : 0 ≤ a) (h4 : a < 4) (h : a ≠ at_) (h1 : 0 ≤ at_) : (SK at_ l).word a = 0 := by
  unfold CM.word
  rw [if_pos (by rw [CM.in_iff]; simp [SK]; omega)]
  have h5 : at_.toNat ≠ a.toNat := by omega
  have h6 : a.toNat < 4 := by omega
  simp only [SK, CM.get, List.getD_eq_getElem?_getD, List.getElem?_set, h5, if_false, List.getElem?_replicate, h6, if_true, Option.getD_some]
theorem word_tick (s : CM) (a : Int) : s.tick.word a = s.word a := rfl
theorem err_tick (s : CM) (a : Int) : s.tick.err a = s.err a := rfl

set_option linter.unusedVariables false in
theorem adds_walk (A : Option Addr) (n cap : Nat) (xs : List Int) (at_ : Int) (w : World) (h : IntsIn w A n xs) (_ : (Lit.int .i64 at_).wf = true) :
    Calls Try.prog 4 #[.slice A n cap, .int .i64 at_] w fun e w' => e = .returned (.bool true) ∧ Fr (fun _ => False) w w' := by
  by_cases hg : n ≤ 200 ∧ 0 ≤ at_ ∧ at_ ≤ 3
  · obtain ⟨hn, h0, h3⟩ := hg
    go_enter Try.func4, Try.ntmps4
    go_wp2_with (first
      | (go_at_call 10; refine (first_calls _).mono ?_; rintro e w0 ⟨rfl, hf0⟩)
      | (go_at_call 11; refine (new_calls 4 _ (by omega) (by omega)).mono ?_; rintro e w1 ⟨rfl, hc1, hf1⟩))
    have hz : CellsAt w1 (w0.heap.size + 1) w0.heap.size (SK at_ []) := by
      have : SK at_ [] = CM.zero (Int.toNat 4) := by
        simp only [SK, CM.zero, sumW, List.foldl_nil, CM.mk.injEq, List.length_nil]
        refine ⟨List.ext_getElem? fun i => ?_, rfl⟩
        simp only [List.getElem?_set, List.length_replicate, List.getElem?_replicate]
        split <;> (try split) <;> simp_all <;> omega
      rw [this]; exact hc1
    have hfw := hf0.trans hf1
    have hl0 := hf0.size
    clear hf0 hf1 hc1
    go_loopw [7, 8] (fun v7 v8 wr => ∃ k : Nat, k ≤ n ∧ v7 = .int .i64 (sumW (xs.take k)) ∧ v8 = .int .i64 k ∧ CellsAt wr (w0.heap.size + 1) w0.heap.size (SK at_ (xs.take k)) ∧ Fr (fun _ => False) w wr) (fun _ v8 _ => n - (intOf v8).toNat)
    case atStart => exact ⟨0, Nat.zero_le _, rfl, rfl, hz, hfw⟩
    case round =>
      obtain ⟨k, hk, rfl, rfl, hc, hf⟩ := hrel
      clear hz hfw
      by_cases hlt : k < n
      · obtain ⟨ad, rfl, hcs⟩ := h.at_ (by omega)
        have hcell : wr.cell? (ad.add k) = some (.int .i64 (xs.getD k 0)) := hf.cell (hcs k hlt) (fun x => x)
        have hsn := take_snoc_int xs k (by rw [h.len]; exact hlt)
        clear hcs
        generalize xs.getD k 0 = x at hcell hsn
        have hl : (xs.take k).length = k := by rw [List.length_take, h.len]; omega
        have em := SK_more at_ (xs.take k) x h0 h3
        have ee := SK_err at_ (xs.take k) h0 h3
        have ea := SK_add at_ (xs.take k) x h0 h3 (by omega)
        rw [← hsn] at ea
        have ew : ((SK at_ (xs.take k)).add at_ x).word at_ = wrap64 (sumW (xs.take k) + x) := by rw [ea, SK_word at_ _ h0 h3, hsn, sumW_snoc]
        have ec : ((SK at_ (xs.take k)).add at_ x).cnt = (k : Int) + 1 := by rw [ea]; simp [SK, h.len]; omega
        have HEA := Lib.hid ea
        have HSN := Lib.hid hsn
        have HL := Lib.hid hl
        clear ea hsn hl
        go_wp2_with (first
          | (go_at_call 14; refine (add_calls _ _ _ _ _ _ hc).mono ?_; rintro e w2 ⟨rfl, hc2, hf2⟩)
          | (go_at_call 15; refine (peek_calls _ _ _ _ _ hc2).mono ?_; rintro e w3 ⟨rfl, rfl⟩)
          | (go_at_call 16; refine (count_calls _ _ _ _ hc2).mono ?_; rintro e w4 ⟨rfl, rfl⟩))
        go_roundw
        case rel => exact ⟨k + 1, by omega, by rw [HSN.out, sumW_snoc], by go_num, by rw [← HEA.out]; exact hc2, hf.fresh hf2 (by omega) (by omega)⟩
        case measure => simp [intOf]; omega
      · obtain rfl : k = n := by omega
        have hx : xs.take k = xs := by rw [← h.len]; exact List.take_length
        rw [hx] at hc
        have hlen := h.len
        have e0 : (SK at_ xs).add 4 1 = (SK at_ xs).tick := by unfold CM.add; rw [if_neg (by rw [SK_out _ _ _ (by omega)]; simp)]
        have e1 : (SK at_ xs).err 4 = 1 := by unfold CM.err; rw [SK_out _ _ _ (by omega)]; rfl
        have e2 : (SK at_ xs).tick.err (-1) = 1 := by rw [err_tick]; unfold CM.err; rw [SK_out _ _ _ (by omega)]; rfl
        have e3 : (SK at_ xs).tick.tick.word 9 = 0 := by rw [word_tick, word_tick]; unfold CM.word; rw [SK_out _ _ _ (by omega)]; rfl
        have e4 : (SK at_ xs).tick.tick.cnt = (k : Int) + 2 := by simp only [SK, CM.tick, hlen]; unfold wrap64; omega
        have HB := Lib.hid (fun (j : Nat) (h4 : j < 4) (hj : (j : Int) ≠ at_) => (word_tick _ _).trans ((word_tick _ _).trans (SK_beside at_ j xs (by omega) (by omega) hj h0)))
        have HX := Lib.hid hx
        have HLEN := Lib.hid hlen
        clear hx hlen
        go_wp2_with (first
          | (go_at_call 14; refine (add_calls _ _ _ _ _ _ hc).mono ?_; rw [e0]; rintro e w2 ⟨rfl, hc2, hf2⟩)
          | (go_at_call 13; refine (load_calls _ _ _ _ _ hc2).mono ?_; rintro e w3 ⟨rfl, hc3, hf3⟩))
        go_loop [15] (fun v15 => ∃ j : Nat, j ≤ 4 ∧ v15 = .int .i64 j) (fun v15 => 4 - (intOf v15).toNat)
        case atStart => exact ⟨0, by omega, rfl⟩
        case round =>
          obtain ⟨j, hj, rfl⟩ := hrel
          by_cases hj4 : j < 4
          · by_cases hja : (j : Int) = at_
            · have hjb : ((j : Int) != at_) = false := by simpa using hja
              clear hja
              go_wp2
              go_round
              case rel => exact ⟨j + 1, by omega, by go_num⟩
              case measure => simp [intOf]; omega
            · have hjb : ((j : Int) != at_) = true := by simpa using hja
              have e5 := HB.out j hj4 hja
              clear hja
              go_wp2_with (go_at_call 15; refine (peek_calls _ _ _ _ _ hc3).mono ?_; rintro e w4 ⟨rfl, rfl⟩)
              go_round
              case rel => exact ⟨j + 1, by omega, by go_num⟩
              case measure => simp [intOf]; omega
          · obtain rfl : j = 4 := by omega
            go_wp2_with (first
              | (go_at_call 10; refine (first_calls _).mono ?_; rintro e w5 ⟨rfl, hf5⟩)
              | (go_at_call 16; refine (count_calls _ _ _ _ (hc3.frame hf5 (fun x => x) (fun x => x))).mono ?_; rintro e w6 ⟨rfl, rfl⟩)
              | (go_at_call 15; refine (peek_calls _ _ _ _ _ (hc3.frame hf5 (fun x => x) (fun x => x))).mono ?_; rintro e w6 ⟨rfl, rfl⟩))
            go_ret
            exact ⟨rfl, ((hf.fresh hf2 (by omega) (by omega)).fresh hf3 (by omega) (by omega)).trans hf5⟩
  · have hg' : (200 : Int) < n ∨ at_ < 0 ∨ 3 < at_ := by omega
    clear hg
    rcases hg' with hg | hg | hg
    all_goals
      go_enter Try.func4, Try.ntmps4
      go_wp2_with (first
        | (go_at_call 10; refine (first_calls _).mono ?_; rintro e w0 ⟨rfl, hf0⟩)
        | (go_at_call 11; refine (new_calls 4 _ (by omega) (by omega)).mono ?_; rintro e w1 ⟨rfl, hc1, hf1⟩))
      all_goals go_ret
      all_goals exact ⟨rfl, by repeat (first | exact Fr.refl _ _ | assumption | refine Fr.trans ?_ (by assumption))⟩
end Go.Proofs.Ytellolecedpolaa
