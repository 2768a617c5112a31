/- ltklaw15.NapAgain answers true. -/
import Derived.Test.YtlanchijcefncaaNF
import Derived.Deep.RegionHeld3
import Derived.Deep.DeepCutAuto
namespace Go.Proofs.Ytlanchijcefncaa
open Go.RowKit Go.Shelf Go.Maps

theorem opens_accA : Opens Try.prog 27 (rdNums 2) := by
  refine opens_nums Try.underlying27 (by kernel_rfl) (fun i hi => ?_)
  have : i = 0 ∨ i = 1 := by omega
  rcases this with rfl | rfl <;> exact ⟨_, rfl, rfl, Try.underlying3, by kernel_rfl⟩
theorem opens_accsA : Opens Try.prog 38 (rdSlice (rdNums 2) 2) := opens_slice Try.underlying38 (by kernel_rfl) opens_accA
def accOf (x : List Int) : Acc := if h : (Lit.int .i64 (x.getD 0 0)).wf = true ∧ (Lit.int .i64 (x.getD 1 0)).wf = true then ⟨(x.getD 0 0, x.getD 1 0), h⟩ else acc0
def accsOf (xs : List (List Int)) : List Acc := xs.map accOf
theorem accs_in {w : World} {A : Option Addr} {n : Nat} {xs : List (List Int)} (h : NumsIn 2 w A n xs) : (accsOf xs).length = n ∧ Flat w (fun _ => True) A (n * 2) (accInts (accsOf xs)) := by
  have hl : (accsOf xs).length = n := by simp [accsOf, h.len]
  refine ⟨hl, by rw [accInts_len, hl], fun h0 => ?_⟩
  obtain ⟨ad, ha, hc⟩ := h.at_ (by omega)
  refine ⟨ad, ha, trivial, fun i hi => ?_⟩
  have hj : i / 2 < n := by omega
  have hjl : i / 2 < xs.length := by rw [h.len]; exact hj
  obtain ⟨h2, hcl⟩ := hc (i / 2) hj
  have e : ((accsOf xs).getD (i / 2) acc0).1 = ((xs.getD (i / 2) []).getD 0 0, (xs.getD (i / 2) []).getD 1 0) := by
    have hm : xs.getD (i / 2) [] ∈ xs := by rw [List.getD_eq_getElem?_getD, List.getElem?_eq_getElem hjl]; exact List.getElem_mem _
    have e1 : (accsOf xs).getD (i / 2) acc0 = accOf (xs.getD (i / 2) []) := by
      rw [accsOf, List.getD_eq_getElem?_getD, List.getElem?_map, List.getD_eq_getElem?_getD, List.getElem?_eq_getElem hjl]; rfl
    rw [e1]
    generalize xs.getD (i / 2) [] = x at hm h2
    match x, h2 with
    | [a, b], _ =>
      unfold accOf
      rw [dif_pos ⟨h.wf _ hm a (by simp), h.wf _ hm b (by simp)⟩]
  have hg := accInts_get (accsOf xs) (i / 2) (by rw [hl]; exact hj)
  rw [e] at hg
  have : i = i / 2 * 2 ∨ i = i / 2 * 2 + 1 := by omega
  rcases this with e2 | e2
  · have h3 := hcl 0 (by omega)
    rw [Nat.add_zero, ← e2] at h3
    rw [← e2] at hg
    rw [h3, hg.1]
  · have h3 := hcl 1 (by omega)
    rw [← e2] at h3
    rw [← e2] at hg
    rw [h3, hg.2]
theorem firsts_pos {xs out : List Acc} (h : IsFirsts xs out) (h0 : 0 < xs.length) : 0 < out.length := by
  cases xs with
  | nil => simp at h0
  | cons x xs =>
    obtain ⟨v, hv⟩ := Option.isSome_iff_exists.1 (valOf_isSome.2 ⟨x, List.mem_cons_self .., rfl⟩)
    obtain ⟨p, hp, _⟩ := (h.2 _ _).2 hv
    exact List.length_pos_of_mem hp

set_option maxRecDepth 100000 in
set_option maxHeartbeats 4000000 in
theorem again_walk0 (A : Option Addr) (n cap : Nat) (xs : List (List Int)) (B : Option Addr) (m capB : Nat) (ys : List (List Int)) (w : World) (hA : NumsIn 2 w A n xs) (hB : NumsIn 2 w B m ys) (h1 : 1 ≤ n) (h2 : n ≤ 100) (h3 : m ≤ 100) :
    Calls Try.prog 6 #[.slice A n cap, .slice B m capB] w fun e w' => e = .returned (.bool true) ∧ Fr (fun _ => False) w w' := by
  obtain ⟨hXl, hX⟩ := accs_in hA
  obtain ⟨hYl, hY⟩ := accs_in hB
  generalize accsOf xs = X at hXl hX
  generalize accsOf ys = Y at hYl hY
  have T1 := Lib.hid trivial
  have T2 := Lib.hid trivial
  have T3 := Lib.hid trivial
  have T4 := Lib.hid trivial
  have T5 := Lib.hid trivial
  have T6 := Lib.hid trivial
  have T7 := Lib.hid trivial
  clear hA hB
  go_enter Try.func6, Try.ntmps6
  go_wp2_with (first
    | (go_at_call 7; have _t := T1; (with_reducible refine (first15_calls _).mono ?_); rintro e w1 ⟨rfl, hf1⟩; clear T1)
    | (go_at_call 8; (with_reducible refine (newN_in w w1 hf1).mono ?_); rintro e w2 ⟨nb, rfl, hN2⟩; have hS2 := sleep_to (cap := cap) hN2 (by omega) (a := 4) rfl rfl hXl (hX.frame hN2.fr (fun _ _ x => x.elim)) (by omega) (R := [(4, X)]) rfl)
    | (go_at_call 9; have _t := T2; (with_reducible refine hS2.mono ?_); rintro e w3 ⟨rfl, hN3⟩; clear T2; have hW3 := watch_in hN3 (a := 4) (xs := X) (by simp) (by omega))
    | (go_at_call 19; have _t := T3; (with_reducible refine hW3.mono ?_); rintro e w4 ⟨A4, o4, c4, rfl, ho4, hl4, hN4, hf4⟩; clear T3; have hS4 := sleepNo_in hN4 (a := 4) rfl rfl (.slice B m capB))
    | (go_at_call 9; have _t := T4; (with_reducible refine hS4.mono ?_); rintro e w5 ⟨rfl, e5⟩; rw [e5]; clear T4 e5 w5; have hW5 := watch_in hN4 (a := 4) (xs := X) (by simp) (by omega))
    | (go_at_call 19; have _t := T5; (with_reducible refine hW5.mono ?_); rintro e w6 ⟨A6, o6, c6, rfl, ho6, hl6, hN6, hf6⟩; clear T5; have hoo := firsts_unique ho6 ho4; subst hoo; have hle := firstsLen ho4; have hEQ := access_calls A6 o6.length c6 A4 o6.length c4 (accInts o6) (accInts o6) _ _ w6 hl6 (by omega) (hl4.frame hf6 (fun _ _ x => x.elim)); rw [decide_eq_true rfl] at hEQ)
    | (go_at_call 18; (with_reducible refine hEQ.mono ?_); rintro e w7 ⟨rfl, hf7⟩; have hpos := firsts_pos ho4 (by omega)))
  have hN7 := hN6.frame hf7
  obtain ⟨ad, rfl, _, hcc⟩ := hl4.at_ (by omega)
  have q0 := (hf6.trans hf7).cell (hcc (0 * 2) (by omega)) (fun x => x)
  have q1 := (hf6.trans hf7).cell (hcc (0 * 2 + 1) (by omega)) (fun x => x)
  rw [(accInts_get o6 0 hpos).1] at q0
  rw [(accInts_get o6 0 hpos).2, add_past _ _ _ (by omega)] at q1
  have hm0 := getD_mem hpos
  generalize o6.getD 0 acc0 = p at q0 q1 hm0
  have hvp := (ho4.2 p.1.1 p.1.2).1 ⟨p, hm0, rfl⟩
  have ea : ad.add (0 * 2) = ad := by unfold Addr.add; simp
  rw [ea] at q0 q1
  have hb := bounds_i64 p.2.2
  have hz : ∃ z, z = IntKind.i64.wrap (p.1.2 + 1) := ⟨_, rfl⟩
  have hwk : wokeM p.1.1 (IntKind.i64.wrap (p.1.2 + 1)) (4, X) = true := by
    unfold wokeM
    rw [hvp]
    show (p.1.2 != IntKind.i64.wrap (p.1.2 + 1)) = true
    rw [IntKind.wrap_i64]
    simp; omega
  have HC := Lib.hid (fun u (hu : Fr (fun _ => False) w7 u) => changed_to (hN7.frame hu) (IntKind.i64.wrap (p.1.2 + 1)) p.2.1 (by simp) (W := [4]) (n := 1) (R := []) (by simp [hwk]) rfl (by simp [hwk]))
  have HQ := Lib.hid (And.intro q0 q1)
  clear hm0 hvp hwk hcc hb hz
  have gW := Fr.refl (fun _ => False) w7
  go_region_held3 (fun w' => w'.cell? ad = some (.int .i64 p.1.1) ∧ w'.cell? ⟨ad.block, ad.off + 1, none⟩ = some (.int .i64 p.1.2))
    (first | exact ⟨q0, q1⟩ | exact ⟨r0, r1⟩ | go_keep)
    (first
      | (go_at_call 11; (with_reducible refine (HC.out _ (Fr.drew (Fr.refl _ _))).mono ?_); rintro e w8 ⟨A8, c8, rfl, hl8, hN8, hk8⟩; have r0 := hk8 _ _ HQ.out.1; have r1 := hk8 _ _ HQ.out.2))
  have hfa := (Fr.refl (fun _ => False) w8).alloc (.cells #[.int .i64 4] 3)
  have hN9 := hN8.frame hfa
  have hI := ints_calls A8 1 c8 (some ⟨w8.heap.size, 0, none⟩) 1 1 [4] [4] _ _ _ (hl8.frame hfa (fun _ _ x => x.elim)) (by omega) (flat_ints1 w8 [4] (arr := #[.int .i64 4]) rfl rfl rfl)
  rw [decide_eq_true rfl] at hI
  have T8 := Lib.hid trivial
  have T9 := Lib.hid trivial
  clear HC HQ gW hEQ hW5 hW3 hS2 hS4
  go_wp2_with (first
    | (go_at_call 14; have _t := T6; (with_reducible refine hI.mono ?_); rintro e wa ⟨rfl, hfa1⟩; have hNa := hN9.frame hfa1; clear T6; have hAs := asleep_to hNa (a := 4) rfl (r := false) rfl; have hWn := watchNone_in hNa (a := 4) rfl rfl)
    | (go_at_call 16; have _t := T7; (with_reducible refine hAs.mono ?_); rintro e wb ⟨rfl, e9⟩; rw [e9]; clear T7 e9 wb)
    | (go_at_call 19; have _t := T8; (with_reducible refine hWn.mono ?_); rintro e wc ⟨rfl, hNc, _⟩; clear T8)
    | (go_at_call 7; (with_reducible refine (first15_calls _).mono ?_); rintro e wd ⟨rfl, hfd⟩; have hNd := hNc.frame hfd; have hSd := sleep_to (cap := capB) hNd (by omega) (a := 4) rfl rfl hYl (hY.frame hNd.fr (fun _ _ x => x.elim)) (by omega) (R := [(4, Y)]) rfl)
    | (go_at_call 9; (with_reducible refine hSd.mono ?_); rintro e we ⟨rfl, hNe⟩; have hAe := asleep_to hNe (a := 4) rfl (r := true) rfl; have hAl := all_in hNe)
    | (go_at_call 16; (with_reducible refine hAe.mono ?_); rintro e wb ⟨rfl, e9⟩; rw [e9]; clear e9 wb)
    | (go_at_call 10; (with_reducible refine hAl.mono ?_); rintro e wf ⟨Af, cf, rfl, hlf, hNf, _⟩; have hfb := (Fr.refl (fun _ => False) wf).alloc (.cells #[.int .i64 4] 3); have hNg := hNf.frame hfb; have hIf := ints_calls Af 1 cf (some ⟨wf.heap.size, 0, none⟩) 1 1 [4] [4] _ _ _ (hlf.frame hfb (fun _ _ x => x.elim)) (by omega) (flat_ints1 wf [4] (arr := #[.int .i64 4]) rfl rfl rfl); rw [decide_eq_true rfl] at hIf)
    | (go_at_call 14; (with_reducible refine hIf.mono ?_); rintro e wg ⟨rfl, hfg⟩; have hNh := hNg.frame hfg; have hWg := watch_in hNh (a := 4) (xs := Y) (by simp) (by omega))
    | (go_at_call 19; (with_reducible refine hWg.mono ?_); rintro e wh ⟨Ah, oh, ch, rfl, hoh, hlh, hNi, _⟩; have hleh := firstsLen hoh; have hlem : (oh.length : Int) ≤ m := by omega))
  go_ret
  exact ⟨by first | rfl | simp; omega, hNi.fr⟩
set_option maxRecDepth 100000 in
theorem again_far (A : Option Addr) (n cap : Nat) (B : Option Addr) (m capB : Nat) (w : World) (hn : (n < 1 ∨ 100 < n) ∨ 100 < m) :
    Calls Try.prog 6 #[.slice A n cap, .slice B m capB] w fun e w' => e = .returned (.bool true) ∧ Fr (fun _ => False) w w' := by
  have T1 : True := trivial
  have hg : ((n : Int) < 1 ∨ 100 < (n : Int)) ∨ 100 < (m : Int) := by omega
  clear hn
  go_enter Try.func6, Try.ntmps6
  go_wp2_with (first
    | (go_at_call 7; have _t := T1; refine (first15_calls w).mono ?_; rintro e w1 ⟨rfl, hf1⟩; clear T1)
    | (go_at_call 8; (with_reducible refine (newN_in w w1 hf1).mono ?_); rintro e w2 ⟨nb, rfl, hN2⟩)
    | (go_at_call 7; refine (first15_calls w2).mono ?_; rintro e w3 ⟨rfl, hf3⟩))
  all_goals go_ret
  all_goals exact ⟨rfl, hN2.fr.trans hf3⟩
theorem again_walk (A : Option Addr) (n cap : Nat) (xs : List (List Int)) (B : Option Addr) (m capB : Nat) (ys : List (List Int)) (w : World) (hA : NumsIn 2 w A n xs) (hB : NumsIn 2 w B m ys) :
    Calls Try.prog 6 #[.slice A n cap, .slice B m capB] w fun e w' => e = .returned (.bool true) ∧ Fr (fun _ => False) w w' := by
  by_cases hin : (1 ≤ n ∧ n ≤ 100) ∧ m ≤ 100
  · exact again_walk0 A n cap xs B m capB ys w hA hB hin.1.1 hin.1.2 hin.2
  · exact again_far A n cap B m capB w (by omega)
end Go.Proofs.Ytlanchijcefncaa
