/- ltklaw1.CalcOrder answers true. -/
import Derived.Test.YtolmpdkkbdhnhaaCalcAppend
import Derived.Deep.RegionHeld3
namespace Go.Proofs.Ytolmpdkkbdhnhaa
open Go.RowKit

theorem drop_back (xs : List Int) (p : Nat) (h : p < xs.length) : (xs.drop p).reverse = (xs.drop (p + 1)).reverse ++ [xs.getD p 0] := by
  rw [List.drop_eq_getElem_cons h, List.reverse_cons, List.getD_eq_getElem?_getD, List.getElem?_eq_getElem h]; rfl
theorem IntsC.dropN {w : World} {n cap : Nat} {A : Option Addr} {xs : List Int} (h : IntsC w A n cap xs) (q : Nat) : IntsC (w.drewN q) A n cap xs := ⟨⟨h.row.len, h.row.at_⟩, h.cap, h.max, h.i64⟩
theorem IntsC.takeC {w : World} {ad : Addr} {n cap : Nat} {xs : List Int} (h : IntsC w (some ad) n cap xs) {t : Nat} (ht : t ≤ n) : IntsC w (some ad) t cap (xs.take t) :=
  ⟨⟨by rw [List.length_take, h.row.len]; omega, fun h0 => ⟨ad, rfl, fun i hi => by
    obtain ⟨ad', h1, h2⟩ := h.row.at_ (by omega)
    cases h1
    rw [getD_take _ hi]; exact h2 i (by omega)⟩⟩, by have := h.cap; omega, by have := h.max; omega, fun x hx => h.i64 x (List.mem_of_mem_take hx)⟩
theorem IntsC.void (w : World) (A : Option Addr) (c : Nat) : IntsC w A 0 c [] := ⟨⟨rfl, fun h => absurd h (by omega)⟩, Nat.zero_le _, by omega, fun x hx => by simp at hx⟩

set_option maxRecDepth 100000 in
set_option maxHeartbeats 1000000 in
set_option linter.unusedVariables false in
theorem order_bad (k : Int) (A : Option Addr) (n cap : Nat) (a : Int) (w : World) (hbad : n > 1000 ∨ a < 0 ∨ a > n ∨ k = 1 ∨ k = 3) :
    Calls Try.prog 3 #[.int .i64 k, .slice A n cap, .int .i64 a] w fun e w' => e = .returned (.bool true) ∧ Fr (fun _ => False) w w' := by
  have hh : (decide ((1000 : Int) < n) = true) ∨ (decide ((1000 : Int) < n) = false ∧ decide (a < 0) = true) ∨ (decide ((1000 : Int) < n) = false ∧ decide (a < 0) = false ∧ decide ((n : Int) < a) = true) ∨ (decide ((1000 : Int) < n) = false ∧ decide (a < 0) = false ∧ decide ((n : Int) < a) = false ∧ (k == 1) = true) ∨ (decide ((1000 : Int) < n) = false ∧ decide (a < 0) = false ∧ decide ((n : Int) < a) = false ∧ (k == 1) = false ∧ (k == 3) = true) := by simp; omega
  clear hbad
  rcases hh with d1 | ⟨d1, d2⟩ | ⟨d1, d2, d3⟩ | ⟨d1, d2, d3, d4⟩ | ⟨d1, d2, d3, d4, d5⟩
  all_goals
    go_enter Try.func3, Try.ntmps3
    go_wp2_with (first
      | (go_at_call 9; refine (firstC _).mono ?_; rintro e w0 ⟨rfl, hf0⟩))
    all_goals go_ret
    all_goals exact ⟨rfl, by repeat (first | exact Fr.refl _ _ | assumption | refine Fr.trans ?_ (by assumption))⟩

set_option maxRecDepth 100000 in
set_option maxHeartbeats 2000000 in
set_option linter.unusedVariables false in
theorem order_some (k : Int) (ad : Addr) (n cap t : Nat) (hct : ¬ cap = t) (xs : List Int) (w : World) (hI : IntsC w (some ad) n cap xs) (hn : n ≤ 1000) (ht : t ≤ n) (k1 : k ≠ 1) (k3 : k ≠ 3) :
    Calls Try.prog 3 #[.int .i64 k, .slice (some ad) n cap, .int .i64 t] w fun e w' => e = .returned (.bool true) ∧ Fr (fun _ => False) w w' := by
  have d1 : decide ((1000 : Int) < n) = false := by simp; omega
  have d1' : decide (1000 < n) = false := by simp; omega
  have d2 : decide ((t : Int) < 0) = false := by simp
  have d3 : decide ((n : Int) < t) = false := by simp; omega
  have d3' : decide (n < t) = false := by simp; omega
  have d4 : (k == 1) = false := by simpa using k1
  have d5 : (k == 3) = false := by simpa using k3
  have HC0 := Lib.hid hI
  have HLEN := Lib.hid hI.row.len
  have H6 := Lib.hid hI.i64
  have H6r := Lib.hid (show ∀ x ∈ xs.reverse, I64 x from fun x hx => hI.i64 x (by simpa using hx))
  have H6o := Lib.hid (show ∀ x ∈ xs.drop t ++ xs.take t, I64 x from fun x hx => by
    rcases List.mem_append.1 hx with h | h
    · exact hI.i64 x (List.mem_of_mem_drop h)
    · exact hI.i64 x (List.mem_of_mem_take h))
  have e0 : wrap64 ((n : Int) - 1) = (n : Int) - 1 := by unfold wrap64; omega
  have HCr := Lib.hid (fun (A : Option Addr) (c : Nat) (ww : World) (h : IntsC ww A n c xs.reverse) => show Calls Try.prog 10 #[.int .i64 k, .slice A n c] ww fun e w' => e = .returned (.tuple #[.int .i64 (evalV k xs), .int .i64 (evalE k xs)]) ∧ Fr (fun _ => False) ww w' from by
    have := evalC k A n c xs.reverse ww h
    rw [evalV_reverse k1 k3 hI.i64, evalE_len (show xs.reverse.length = xs.length by simp)] at this
    exact this)
  have HCo := Lib.hid (fun (A : Option Addr) (c : Nat) (ww : World) (h : IntsC ww A n c (xs.drop t ++ xs.take t)) => show Calls Try.prog 10 #[.int .i64 k, .slice A n c] ww fun e w' => e = .returned (.tuple #[.int .i64 (evalV k xs), .int .i64 (evalE k xs)]) ∧ Fr (fun _ => False) ww w' from by
    have := evalC k A n c _ ww h
    rw [evalV_rotate k1 k3 hI.i64, evalE_len (show (xs.drop t ++ xs.take t).length = xs.length by simp; have := hI.row.len; omega)] at this
    exact this)
  have HCAP := Lib.hid hI.cap
  have b1 : (0 : Int) ≤ (t : Int) := by omega
  have b2 : (t : Int) ≤ (n : Int) := by omega
  have b3 : (n : Int) ≤ (cap : Int) := by have := hI.cap; omega
  have b4 : t ≤ cap := by have := hI.cap; omega
  have HDR := Lib.hid ((fun (ww : World) (h : IntsC ww (some ad) n cap xs) => show IntsC ww (some (ad.add t)) (n - t) (cap - t) (xs.drop t) from ⟨h.row.tail t ht, by have := h.cap; omega, by have := h.max; omega, fun x hx => h.i64 x (List.mem_of_mem_drop hx)⟩))
  clear hI k1 k3
  go_enter Try.func3, Try.ntmps3
  go_wp2_with (first
    | (go_at_call 9; refine (firstC w).mono ?_; rintro e w0 ⟨rfl, hf0⟩; have hi0 := HC0.out.frame hf0 (fun k x => x.elim)))
  have HI0 := Lib.hid hi0
  have HF0 := Lib.hid hf0
  clear hi0 hf0
  go_loopw [7, 8] (fun v7 v8 wr => ∃ j : Nat, j ≤ n ∧ v8 = .int .i64 ((j : Int) - 1) ∧ Own w0.heap.size wr v7 (xs.drop j).reverse ∧ Fr (fun k => w0.heap.size ≤ k) w0 wr) (fun _ v8 _ => (intOf v8 + 1).toNat)
  case atStart => exact ⟨n, Nat.le_refl _, rfl, by rw [List.drop_of_length_le (by rw [HLEN.out]; exact Nat.le_refl _)]; exact Own.nil _ _, Fr.refl _ _⟩
  case round =>
    obtain ⟨j, hj, hv8, hown, hf⟩ := hrel
    have HOWN := Lib.hid hown
    have HF := Lib.hid hf
    by_cases hj0 : j = 0
    · subst hj0
      obtain rfl : u8 = .int .i64 (-1) := by rw [hv8]; rfl
      have hown' : Own w0.heap.size wr u7 xs.reverse := hown
      obtain ⟨A7, c7, rfl, hi7, hb7⟩ := hown'.shape H6r.out
      rw [show xs.reverse.length = n by rw [List.length_reverse]; exact HLEN.out] at hi7
      have hlr : xs.reverse.length = n := by rw [List.length_reverse]; exact HLEN.out
      rw [hlr]
      have hir := HI0.out.frame hf (fun k hk => hk)
      have hsz := hf.size
      clear hv8 hown hown' hf hlr hb7
      go_wp2_with (first
        | (go_at_call 10; (with_reducible refine (evalC k _ _ _ xs _ hir).mono ?_); rintro e w5 ⟨rfl, hf5⟩; have hi5 := hi7.frame hf5 (fun k x => x.elim))
        | (go_at_call 10; (with_reducible refine (HCr.out _ _ _ hi5).mono ?_); rintro e w6 ⟨rfl, hf6⟩))
      have hir6 := (hir.frame hf5 (fun k x => x.elim)).frame hf6 (fun k x => x.elim)
      have HIR := Lib.hid hir6
      have hsz6 : w0.heap.size ≤ w6.heap.size := by have a := hf5.size; have b := hf6.size; omega
      have HF6 := Lib.hid (show Fr (fun _ => False) w w6 from ((HF0.out.trans' HF.out (fun i hi hl => by have a := HF0.out.size; omega)).trans hf5).trans hf6)
      clear hir hir6 hf5 hf6 hi7 hi5
      have hoE : Own w6.heap.size (w6.drew.alloc (.cells #[] 3)) (.slice (some ⟨w6.heap.size, 0, none⟩) 0 0) [] := Own.empty (w := w6.drew) (Nat.le_refl _)
      have hfE : Fr (fun k => w6.heap.size ≤ k) w6 (w6.drew.alloc (.cells #[] 3)) := ((Fr.refl _ w6).drew).alloc _
      have hDr := HDR.out _ (HIR.out.frame hfE (fun k hk => hk))
      go_region_held3 (fun w' => True) (exact trivial)
        ((first
          | (refine step_append_ints _ (by rfl) (.tmp 67) (.tmp 70) (by rfl) w6.heap.size _ [] (by rfl) hoE _ _ _ (xs.drop t) (by rfl) hDr (fun h => by cases h) (by first | (simp; done) | (simp; omega)) (by simp) ?_; intro v7 w7 ho7 hf7; rw [List.nil_append] at ho7; have hT7 := (HIR.out.frame (hfE.trans hf7) (fun k hk => hk)).takeC ht; have hs7 := hf7.size)
          | (refine step_append_ints _ (by rfl) (.tmp 71) (.tmp 74) (by rfl) w6.heap.size _ (xs.drop t) (by rfl) ho7 _ _ _ (xs.take t) (by rfl) hT7 (fun h => by cases h) (by rw [List.length_drop, HLEN.out]; omega) (by simp at hs7; omega) ?_; intro v8 w8 ho8 hf8; obtain ⟨A8, c8, rfl, hi8, hb8⟩ := ho8.shape H6o.out; rw [show (xs.drop t ++ xs.take t).length = n from by simp; have := HLEN.out; omega] at hi8; rw [show (xs.drop t ++ xs.take t).length = n from by simp; have := HLEN.out; omega])
          | (go_at_call 10; (with_reducible refine (HCo.out _ _ _ hi8).mono ?_); rintro e w9 ⟨rfl, hf9⟩)))
      have HF8 := Lib.hid (show Fr (fun _ => False) w w9 from (HF6.out.trans' ((hfE.trans hf7).trans hf8) (fun i hi hl => by have a := HF6.out.size; omega)).trans hf9)
      clear hoE hfE hDr ho7 hf7 hT7 hs7 hf8 ho8 hi8 hb8 hf9
      go_wp2_with (first
        | (go_at_call 9; refine (firstC _).mono ?_; rintro e w10 ⟨rfl, hf10⟩))
      go_ret
      exact ⟨rfl, HF8.out.trans hf10⟩
    · obtain ⟨p, rfl⟩ : ∃ p, j = p + 1 := ⟨j - 1, by omega⟩
      obtain rfl : u8 = .int .i64 (p : Int) := by rw [hv8]; congr 1; omega
      have hir := HI0.out.frame hf (fun k hk => hk)
      obtain ⟨ad', had, hcs⟩ := hir.row.at_ (by omega)
      have q1 := hcs p (by omega)
      cases had
      have HD := Lib.hid (drop_back xs p (by rw [HLEN.out]; omega))
      have hx1 : I64 (xs.getD p 0) := H6.out _ (by rw [List.getD_eq_getElem?_getD, List.getElem?_eq_getElem (by rw [HLEN.out]; omega)]; exact List.getElem_mem _)
      generalize xs.getD p 0 = x1 at q1 HD hx1
      have hb1 := IntsC.built1 wr x1 (fun x hx => by simp at hx; subst hx; exact hx1)
      have hown1 := hown.frame ((Fr.refl (fun _ => False) wr).alloc (.cells #[.int .i64 x1] 3)) (fun k x => x.elim)
      have hsz := hf.size
      have e1 : wrap64 ((p : Int) - 1) = (p : Int) - 1 := by unfold wrap64; omega
      have hp0 : p < n := by omega
      have HL2 := Lib.hid (show (xs.drop (p + 1)).reverse.length + 1 ≤ 1000000 from by rw [List.length_reverse, List.length_drop, HLEN.out]; omega)
      have HSZ2 := Lib.hid (show w0.heap.size ≤ (wr.alloc (.cells #[.int .i64 x1] 3)).heap.size from by simp; omega)
      clear hv8 hown hf hir hcs hx1 hj0
      go_wp2_with (first
        | (at_builtin; refine append_ints _ rfl (.tmp 46) (.tmp 51) rfl w0.heap.size _ (xs.drop (p + 1)).reverse rfl hown1 ⟨wr.heap.size, 0, none⟩ 1 1 [x1] rfl hb1 HL2.out HSZ2.out ?_; intro v2 w2 ho2 hf2))
      go_roundw
      case rel => exact ⟨p, by omega, by go_num, by rw [HD.out]; exact ho2, (HF.out.alloc _).trans hf2⟩
      case measure => first | (simp [intOf]; done) | (simp [intOf]; omega)
set_option maxRecDepth 100000 in
set_option maxHeartbeats 2000000 in
set_option linter.unusedVariables false in
theorem order_eq (k : Int) (ad : Addr) (t : Nat) (xs : List Int) (w : World) (hI : IntsC w (some ad) t t xs) (hn : t ≤ 1000) (k1 : k ≠ 1) (k3 : k ≠ 3) :
    Calls Try.prog 3 #[.int .i64 k, .slice (some ad) t t, .int .i64 t] w fun e w' => e = .returned (.bool true) ∧ Fr (fun _ => False) w w' := by
  have d1 : decide ((1000 : Int) < t) = false := by simp; omega
  have d1' : decide (1000 < t) = false := by simp; omega
  have d2 : decide ((t : Int) < 0) = false := by simp
  have d3 : decide ((t : Int) < t) = false := by simp
  have d3' : decide (t < t) = false := by simp
  have d4 : (k == 1) = false := by simpa using k1
  have d5 : (k == 3) = false := by simpa using k3
  have HC0 := Lib.hid hI
  have HLEN := Lib.hid hI.row.len
  have H6 := Lib.hid hI.i64
  have H6r := Lib.hid (show ∀ x ∈ xs.reverse, I64 x from fun x hx => hI.i64 x (by simpa using hx))
  have H6o := Lib.hid (show ∀ x ∈ xs.drop t ++ xs.take t, I64 x from fun x hx => by
    rcases List.mem_append.1 hx with h | h
    · exact hI.i64 x (List.mem_of_mem_drop h)
    · exact hI.i64 x (List.mem_of_mem_take h))
  have e0 : wrap64 ((t : Int) - 1) = (t : Int) - 1 := by unfold wrap64; omega
  have HCr := Lib.hid (fun (A : Option Addr) (c : Nat) (ww : World) (h : IntsC ww A t c xs.reverse) => show Calls Try.prog 10 #[.int .i64 k, .slice A t c] ww fun e w' => e = .returned (.tuple #[.int .i64 (evalV k xs), .int .i64 (evalE k xs)]) ∧ Fr (fun _ => False) ww w' from by
    have := evalC k A t c xs.reverse ww h
    rw [evalV_reverse k1 k3 hI.i64, evalE_len (show xs.reverse.length = xs.length by simp)] at this
    exact this)
  have HCo := Lib.hid (fun (A : Option Addr) (c : Nat) (ww : World) (h : IntsC ww A t c (xs.drop t ++ xs.take t)) => show Calls Try.prog 10 #[.int .i64 k, .slice A t c] ww fun e w' => e = .returned (.tuple #[.int .i64 (evalV k xs), .int .i64 (evalE k xs)]) ∧ Fr (fun _ => False) ww w' from by
    have := evalC k A t c _ ww h
    rw [evalV_rotate k1 k3 hI.i64, evalE_len (show (xs.drop t ++ xs.take t).length = xs.length by simp; have := hI.row.len; omega)] at this
    exact this)
  have HCAP := Lib.hid hI.cap
  have b1 : (0 : Int) ≤ (t : Int) := by omega
  have b2 : (t : Int) ≤ (t : Int) := by omega
  have b3 : (t : Int) ≤ (t : Int) := by have := hI.cap; omega
  have b4 : t ≤ t := by have := hI.cap; omega
  have HDR := Lib.hid ((fun (ww : World) (h : IntsC ww (some ad) t t xs) => show IntsC ww (some ad) 0 0 (xs.drop t) from by rw [List.drop_of_length_le (by rw [h.row.len]; exact Nat.le_refl _)]; exact IntsC.void _ _ _))
  clear hI k1 k3
  go_enter Try.func3, Try.ntmps3
  go_wp2_with (first
    | (go_at_call 9; refine (firstC w).mono ?_; rintro e w0 ⟨rfl, hf0⟩; have hi0 := HC0.out.frame hf0 (fun k x => x.elim)))
  have HI0 := Lib.hid hi0
  have HF0 := Lib.hid hf0
  clear hi0 hf0
  go_loopw [7, 8] (fun v7 v8 wr => ∃ j : Nat, j ≤ t ∧ v8 = .int .i64 ((j : Int) - 1) ∧ Own w0.heap.size wr v7 (xs.drop j).reverse ∧ Fr (fun k => w0.heap.size ≤ k) w0 wr) (fun _ v8 _ => (intOf v8 + 1).toNat)
  case atStart => exact ⟨t, Nat.le_refl _, rfl, by rw [List.drop_of_length_le (by rw [HLEN.out]; exact Nat.le_refl _)]; exact Own.nil _ _, Fr.refl _ _⟩
  case round =>
    obtain ⟨j, hj, hv8, hown, hf⟩ := hrel
    have HOWN := Lib.hid hown
    have HF := Lib.hid hf
    by_cases hj0 : j = 0
    · subst hj0
      obtain rfl : u8 = .int .i64 (-1) := by rw [hv8]; rfl
      have hown' : Own w0.heap.size wr u7 xs.reverse := hown
      obtain ⟨A7, c7, rfl, hi7, hb7⟩ := hown'.shape H6r.out
      rw [show xs.reverse.length = t by rw [List.length_reverse]; exact HLEN.out] at hi7
      have hlr : xs.reverse.length = t := by rw [List.length_reverse]; exact HLEN.out
      rw [hlr]
      have hir := HI0.out.frame hf (fun k hk => hk)
      have hsz := hf.size
      clear hv8 hown hown' hf hlr hb7
      go_wp2_with (first
        | (go_at_call 10; (with_reducible refine (evalC k _ _ _ xs _ hir).mono ?_); rintro e w5 ⟨rfl, hf5⟩; have hi5 := hi7.frame hf5 (fun k x => x.elim))
        | (go_at_call 10; (with_reducible refine (HCr.out _ _ _ hi5).mono ?_); rintro e w6 ⟨rfl, hf6⟩))
      have hir6 := (hir.frame hf5 (fun k x => x.elim)).frame hf6 (fun k x => x.elim)
      have HIR := Lib.hid hir6
      have hsz6 : w0.heap.size ≤ w6.heap.size := by have a := hf5.size; have b := hf6.size; omega
      have HF6 := Lib.hid (show Fr (fun _ => False) w w6 from ((HF0.out.trans' HF.out (fun i hi hl => by have a := HF0.out.size; omega)).trans hf5).trans hf6)
      clear hir hir6 hf5 hf6 hi7 hi5
      have hoE : Own w6.heap.size (w6.drew.alloc (.cells #[] 3)) (.slice (some ⟨w6.heap.size, 0, none⟩) 0 0) [] := Own.empty (w := w6.drew) (Nat.le_refl _)
      have hfE : Fr (fun k => w6.heap.size ≤ k) w6 (w6.drew.alloc (.cells #[] 3)) := ((Fr.refl _ w6).drew).alloc _
      have hDr := HDR.out _ (HIR.out.frame hfE (fun k hk => hk))
      go_region_held3 (fun w' => True) (exact trivial)
        ((first
          | (refine step_append_ints _ (by rfl) (.tmp 67) (.tmp 70) (by rfl) w6.heap.size _ [] (by rfl) hoE _ _ _ (xs.drop t) (by rfl) hDr (fun h => by cases h) (by first | (simp; done) | (simp; omega)) (by simp) ?_; intro v7 w7 ho7 hf7; rw [List.nil_append] at ho7; have hT7 := (HIR.out.frame (hfE.trans hf7) (fun k hk => hk)).takeC (Nat.le_refl t); have hs7 := hf7.size)
          | (refine step_append_ints _ (by rfl) (.tmp 71) (.tmp 74) (by rfl) w6.heap.size _ (xs.drop t) (by rfl) ho7 _ _ _ (xs.take t) (by rfl) hT7 (fun h => by cases h) (by rw [List.length_drop, HLEN.out]; omega) (by simp at hs7; omega) ?_; intro v8 w8 ho8 hf8; obtain ⟨A8, c8, rfl, hi8, hb8⟩ := ho8.shape H6o.out; rw [show (xs.drop t ++ xs.take t).length = t from by simp; have := HLEN.out; omega] at hi8; rw [show (xs.drop t ++ xs.take t).length = t from by simp; have := HLEN.out; omega])
          | (go_at_call 10; (with_reducible refine (HCo.out _ _ _ hi8).mono ?_); rintro e w9 ⟨rfl, hf9⟩)))
      have HF8 := Lib.hid (show Fr (fun _ => False) w w9 from (HF6.out.trans' ((hfE.trans hf7).trans hf8) (fun i hi hl => by have a := HF6.out.size; omega)).trans hf9)
      clear hoE hfE hDr ho7 hf7 hT7 hs7 hf8 ho8 hi8 hb8 hf9
      go_wp2_with (first
        | (go_at_call 9; refine (firstC _).mono ?_; rintro e w10 ⟨rfl, hf10⟩))
      go_ret
      exact ⟨rfl, HF8.out.trans hf10⟩
    · obtain ⟨p, rfl⟩ : ∃ p, j = p + 1 := ⟨j - 1, by omega⟩
      obtain rfl : u8 = .int .i64 (p : Int) := by rw [hv8]; congr 1; omega
      have hir := HI0.out.frame hf (fun k hk => hk)
      obtain ⟨ad', had, hcs⟩ := hir.row.at_ (by omega)
      have q1 := hcs p (by omega)
      cases had
      have HD := Lib.hid (drop_back xs p (by rw [HLEN.out]; omega))
      have hx1 : I64 (xs.getD p 0) := H6.out _ (by rw [List.getD_eq_getElem?_getD, List.getElem?_eq_getElem (by rw [HLEN.out]; omega)]; exact List.getElem_mem _)
      generalize xs.getD p 0 = x1 at q1 HD hx1
      have hb1 := IntsC.built1 wr x1 (fun x hx => by simp at hx; subst hx; exact hx1)
      have hown1 := hown.frame ((Fr.refl (fun _ => False) wr).alloc (.cells #[.int .i64 x1] 3)) (fun k x => x.elim)
      have hsz := hf.size
      have e1 : wrap64 ((p : Int) - 1) = (p : Int) - 1 := by unfold wrap64; omega
      have hp0 : p < t := by omega
      have HL2 := Lib.hid (show (xs.drop (p + 1)).reverse.length + 1 ≤ 1000000 from by rw [List.length_reverse, List.length_drop, HLEN.out]; omega)
      have HSZ2 := Lib.hid (show w0.heap.size ≤ (wr.alloc (.cells #[.int .i64 x1] 3)).heap.size from by simp; omega)
      clear hv8 hown hf hir hcs hx1 hj0
      go_wp2_with (first
        | (at_builtin; refine append_ints _ rfl (.tmp 46) (.tmp 51) rfl w0.heap.size _ (xs.drop (p + 1)).reverse rfl hown1 ⟨wr.heap.size, 0, none⟩ 1 1 [x1] rfl hb1 HL2.out HSZ2.out ?_; intro v2 w2 ho2 hf2))
      go_roundw
      case rel => exact ⟨p, by omega, by go_num, by rw [HD.out]; exact ho2, (HF.out.alloc _).trans hf2⟩
      case measure => first | (simp [intOf]; done) | (simp [intOf]; omega)

set_option maxRecDepth 100000 in
set_option maxHeartbeats 2000000 in
set_option linter.unusedVariables false in
theorem order_none (k : Int) (xs : List Int) (w : World) (hI : IntsC w none 0 0 xs) (k1 : k ≠ 1) (k3 : k ≠ 3) :
    Calls Try.prog 3 #[.int .i64 k, .slice none 0 0, .int .i64 0] w fun e w' => e = .returned (.bool true) ∧ Fr (fun _ => False) w w' := by
  have d1 : decide ((1000 : Int) < 0) = false := by decide
  have d1' : decide (1000 < 0) = false := by decide
  have d2 : decide ((0 : Int) < 0) = false := by simp
  have d3 : decide ((0 : Int) < 0) = false := by simp
  have d3' : decide (0 < 0) = false := by simp
  have d4 : (k == 1) = false := by simpa using k1
  have d5 : (k == 3) = false := by simpa using k3
  have HC0 := Lib.hid hI
  have HLEN := Lib.hid hI.row.len
  have H6 := Lib.hid hI.i64
  have H6r := Lib.hid (show ∀ x ∈ xs.reverse, I64 x from fun x hx => hI.i64 x (by simpa using hx))
  have H6o := Lib.hid (show ∀ x ∈ xs.drop 0 ++ xs.take 0, I64 x from fun x hx => by
    rcases List.mem_append.1 hx with h | h
    · exact hI.i64 x (List.mem_of_mem_drop h)
    · exact hI.i64 x (List.mem_of_mem_take h))
  have e0 : wrap64 ((0 : Int) - 1) = -1 := by unfold wrap64; omega
  have HCr := Lib.hid (fun (A : Option Addr) (c : Nat) (ww : World) (h : IntsC ww A 0 c xs.reverse) => show Calls Try.prog 10 #[.int .i64 k, .slice A 0 c] ww fun e w' => e = .returned (.tuple #[.int .i64 (evalV k xs), .int .i64 (evalE k xs)]) ∧ Fr (fun _ => False) ww w' from by
    have := evalC k A 0 c xs.reverse ww h
    rw [evalV_reverse k1 k3 hI.i64, evalE_len (show xs.reverse.length = xs.length by simp)] at this
    exact this)
  have HCo := Lib.hid (fun (A : Option Addr) (c : Nat) (ww : World) (h : IntsC ww A 0 c (xs.drop 0 ++ xs.take 0)) => show Calls Try.prog 10 #[.int .i64 k, .slice A 0 c] ww fun e w' => e = .returned (.tuple #[.int .i64 (evalV k xs), .int .i64 (evalE k xs)]) ∧ Fr (fun _ => False) ww w' from by
    have := evalC k A 0 c _ ww h
    rw [evalV_rotate k1 k3 hI.i64, evalE_len (show (xs.drop 0 ++ xs.take 0).length = xs.length by simp)] at this
    exact this)
  have HCAP := Lib.hid hI.cap
  have b1 : (0 : Int) ≤ (0 : Int) := by omega
  have b2 : (0 : Int) ≤ (0 : Int) := by omega
  have b3 : (0 : Int) ≤ (0 : Int) := by have := hI.cap; omega
  have b4 : 0 ≤ 0 := by have := hI.cap; omega
  have HDR := Lib.hid ((fun (ww : World) (h : IntsC ww none 0 0 xs) => show IntsC ww none 0 0 (xs.drop 0) from by rw [List.drop_of_length_le (by rw [h.row.len]; exact Nat.le_refl _)]; exact IntsC.void _ _ _))
  clear hI k1 k3
  go_enter Try.func3, Try.ntmps3
  go_wp2_with (first
    | (go_at_call 9; refine (firstC w).mono ?_; rintro e w0 ⟨rfl, hf0⟩; have hi0 := HC0.out.frame hf0 (fun k x => x.elim)))
  have HI0 := Lib.hid hi0
  have HF0 := Lib.hid hf0
  clear hi0 hf0
  go_loopw [7, 8] (fun v7 v8 wr => ∃ j : Nat, j ≤ 0 ∧ v8 = .int .i64 ((j : Int) - 1) ∧ Own w0.heap.size wr v7 (xs.drop j).reverse ∧ Fr (fun k => w0.heap.size ≤ k) w0 wr) (fun _ v8 _ => (intOf v8 + 1).toNat)
  case atStart => exact ⟨0, Nat.le_refl _, rfl, by rw [List.drop_of_length_le (by rw [HLEN.out]; exact Nat.le_refl _)]; exact Own.nil _ _, Fr.refl _ _⟩
  case round =>
    obtain ⟨j, hj, hv8, hown, hf⟩ := hrel
    have HOWN := Lib.hid hown
    have HF := Lib.hid hf
    by_cases hj0 : j = 0
    · subst hj0
      obtain rfl : u8 = .int .i64 (-1) := by rw [hv8]; rfl
      have hown' : Own w0.heap.size wr u7 xs.reverse := hown
      obtain ⟨A7, c7, rfl, hi7, hb7⟩ := hown'.shape H6r.out
      rw [show xs.reverse.length = 0 by rw [List.length_reverse]; exact HLEN.out] at hi7
      have hlr : xs.reverse.length = 0 := by rw [List.length_reverse]; exact HLEN.out
      rw [hlr]
      have hir := HI0.out.frame hf (fun k hk => hk)
      have hsz := hf.size
      clear hv8 hown hown' hf hlr hb7
      go_wp2_with (first
        | (go_at_call 10; (with_reducible refine (evalC k _ _ _ xs _ hir).mono ?_); rintro e w5 ⟨rfl, hf5⟩; have hi5 := hi7.frame hf5 (fun k x => x.elim))
        | (go_at_call 10; (with_reducible refine (HCr.out _ _ _ hi5).mono ?_); rintro e w6 ⟨rfl, hf6⟩))
      have hir6 := (hir.frame hf5 (fun k x => x.elim)).frame hf6 (fun k x => x.elim)
      have HIR := Lib.hid hir6
      have hsz6 : w0.heap.size ≤ w6.heap.size := by have a := hf5.size; have b := hf6.size; omega
      have HF6 := Lib.hid (show Fr (fun _ => False) w w6 from ((HF0.out.trans' HF.out (fun i hi hl => by have a := HF0.out.size; omega)).trans hf5).trans hf6)
      clear hir hir6 hf5 hf6 hi7 hi5
      have hoE : Own w6.heap.size (w6.drew.alloc (.cells #[] 3)) (.slice (some ⟨w6.heap.size, 0, none⟩) 0 0) [] := Own.empty (w := w6.drew) (Nat.le_refl _)
      have hfE : Fr (fun k => w6.heap.size ≤ k) w6 (w6.drew.alloc (.cells #[] 3)) := ((Fr.refl _ w6).drew).alloc _
      have hvoid : ∀ (ww : World) (A : Option Addr) (c : Nat), IntsC ww A 0 c (xs.drop 0 ++ xs.take 0) := fun ww A c => by
        obtain rfl : xs = [] := List.length_eq_zero_iff.1 HLEN.out
        exact IntsC.void _ _ _
      have hDr := HDR.out _ (HIR.out.frame hfE (fun k hk => hk))
      go_region_held3 (fun w' => True) (exact trivial)
        ((first
          | (go_at_call 10; (with_reducible refine (HCo.out _ _ _ (hvoid _ _ _)).mono ?_); rintro e w9 ⟨rfl, hf9⟩)))
      have HF8 := Lib.hid (show Fr (fun _ => False) w w9 from (HF6.out.trans' hfE (fun i hi hl => by have a := HF6.out.size; omega)).trans hf9)
      clear hoE hfE hDr hf9
      go_wp2_with (first
        | (go_at_call 9; refine (firstC _).mono ?_; rintro e w10 ⟨rfl, hf10⟩))
      go_ret
      exact ⟨rfl, HF8.out.trans hf10⟩
    · exact absurd hj (by omega)

/-- A slice that came in; nil has no room. -/
def IntsX (w : World) (A : Option Addr) (n cap : Nat) (xs : List Int) : Prop := IntsC w A n cap xs ∧ (A = none → cap = 0)
theorem IntsX.of {W : World} {A : Option Addr} {n cap : Nat} {xs : List Int} (h : rdSlice rdInt 1 W xs [.slice A n cap]) : IntsX W A n cap xs := by
  refine ⟨IntsC.of h, fun hA => ?_⟩
  rcases h with ⟨h1, rfl⟩ | ⟨a, len, cap', h1, _⟩
  · simp at h1; exact h1.2.2
  · simp at h1; rw [hA] at h1; simp at h1

theorem order_walk (k : Int) (A : Option Addr) (n cap : Nat) (xs : List Int) (a : Int) (w : World) (_ : (Lit.int .i64 k).wf = true) (hX : IntsX w A n cap xs) (_ : (Lit.int .i64 a).wf = true) :
    Calls Try.prog 3 #[.int .i64 k, .slice A n cap, .int .i64 a] w fun e w' => e = .returned (.bool true) ∧ Fr (fun _ => False) w w' := by
  obtain ⟨hI, hA⟩ := hX
  by_cases hbad : n > 1000 ∨ a < 0 ∨ a > n ∨ k = 1 ∨ k = 3
  · exact order_bad k A n cap a w hbad
  · obtain ⟨t, rfl⟩ := Int.eq_ofNat_of_zero_le (show 0 ≤ a by omega)
    have hcap := hI.cap
    cases A with
    | none =>
      obtain rfl : cap = 0 := hA rfl
      obtain rfl : n = 0 := by omega
      obtain rfl : t = 0 := by omega
      exact order_none k xs w hI (by omega) (by omega)
    | some ad =>
      by_cases hct : cap = t
      · obtain rfl : n = t := by omega
        subst hct
        exact order_eq k ad _ xs w hI (by omega) (by omega) (by omega)
      · exact order_some k ad n cap t hct xs w hI (by omega) (by omega) (by omega) (by omega)
end Go.Proofs.Ytolmpdkkbdhnhaa
