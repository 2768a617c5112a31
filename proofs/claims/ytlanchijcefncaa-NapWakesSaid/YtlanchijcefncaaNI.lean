/- ltklaw15.NapWakes answers true. -/
import Derived.Test.YtlanchijcefncaaNG
namespace Go.Proofs.Ytlanchijcefncaa
open Go.RowKit Go.Shelf Go.Maps

def numOfN : Value → Int
  | .int _ q => q
  | _ => 0
def seenA (X : List Acc) (j k : Nat) : Bool := (List.range j).any (fun q => (X.getD q acc0).1.1 == (X.getD k acc0).1.1)
def wakesA (X : List Acc) (c : Acc) (k : Nat) : Bool := (List.range k).any (fun q => !seenA X q q && ((X.getD q acc0).1.1 == c.1.1 && (X.getD q acc0).1.2 != c.1.2))
theorem seenA_succ (X : List Acc) (j k : Nat) : seenA X (j + 1) k = (seenA X j k || (X.getD j acc0).1.1 == (X.getD k acc0).1.1) := by simp [seenA, List.range_succ]
theorem wakesA_succ (X : List Acc) (c : Acc) (k : Nat) : wakesA X c (k + 1) = (wakesA X c k || (!seenA X k k && ((X.getD k acc0).1.1 == c.1.1 && (X.getD k acc0).1.2 != c.1.2))) := by simp [wakesA, List.range_succ]
theorem firstIdxN {xs : List Acc} {a v : Int} (h : valOf xs a = some v) : ∃ j, j < xs.length ∧ (xs.getD j acc0).1 = (a, v) ∧ ∀ i, i < j → (xs.getD i acc0).1.1 ≠ a := by
  induction xs with
  | nil => cases h
  | cons x xs ih =>
    rw [valOf_cons] at h
    split at h
    · rename_i e
      cases h
      exact ⟨0, by simp, by rw [← e]; rfl, fun i hi => absurd hi (by omega)⟩
    · rename_i e
      obtain ⟨j, h1, h2, h3⟩ := ih h
      refine ⟨j + 1, by simpa using h1, h2, fun i hi => ?_⟩
      cases i with
      | zero => exact e
      | succ i => exact h3 i (by omega)
theorem wakesA_all (X : List Acc) (c : Acc) : wakesA X c X.length = wokeM c.1.1 c.1.2 (7, X) := by
  unfold wokeM
  show _ = (valOf X c.1.1).elim false _
  rw [Bool.eq_iff_iff]
  unfold wakesA
  rw [List.any_eq_true]
  cases hv : valOf X c.1.1 with
  | none =>
    constructor
    · rintro ⟨q, hq, he⟩
      rw [List.mem_range] at hq
      simp only [Bool.and_eq_true, beq_iff_eq] at he
      have : (valOf X c.1.1).isSome = true := valOf_isSome.2 ⟨_, getD_mem hq, he.2.1⟩
      rw [hv] at this; cases this
    · intro h; cases h
  | some u =>
    obtain ⟨j, hj, hj1, hj2⟩ := firstIdxN hv
    have ha : (X.getD j acc0).1.1 = c.1.1 := by rw [hj1]
    have hb : (X.getD j acc0).1.2 = u := by rw [hj1]
    show _ ↔ (u != c.1.2) = true
    constructor
    · rintro ⟨q, hq, he⟩
      rw [List.mem_range] at hq
      simp only [Bool.and_eq_true, beq_iff_eq, Bool.not_eq_true', bne_iff_ne] at he
      obtain ⟨he1, he2, he3⟩ := he
      have hqj : ¬ q < j := fun h => hj2 q h he2
      have hjq : ¬ j < q := fun h => by
        unfold seenA at he1
        rw [List.any_eq_false] at he1
        exact he1 j (List.mem_range.2 h) (by rw [ha, he2]; simp)
      obtain rfl : q = j := by omega
      rw [← hb]; simpa using he3
    · intro h
      refine ⟨j, List.mem_range.2 hj, ?_⟩
      have hs : seenA X j j = false := by
        unfold seenA
        rw [List.any_eq_false]
        intro q hq e
        rw [List.mem_range] at hq
        exact hj2 q hq (by rw [← ha]; simpa using e)
      rw [hs, ha, hb]
      simpa using h
theorem firsts_nilN {out : List Acc} (h : IsFirsts [] out) : out = [] := firsts_unique h firsts0
theorem acc_cells {w : World} {A : Option Addr} {n : Nat} {X : List Acc} {F : Nat → Prop} (hX : Flat w F A (n * 2) (accInts X)) (hl : X.length = n) (h0 : 0 < n) : ∃ ad, A = some ad ∧ ∀ i, i < n → w.cell? (ad.add (i * 2)) = some (.int .i64 (X.getD i acc0).1.1) ∧ w.cell? ⟨(ad.add (i * 2)).block, (ad.add (i * 2)).off + 1, none⟩ = some (.int .i64 (X.getD i acc0).1.2) := by
  obtain ⟨ad, rfl, _, hc⟩ := hX.at_ (by omega)
  refine ⟨ad, rfl, fun i hi => ?_⟩
  have hg := accInts_get X i (by omega)
  rw [← add_past _ _ _ (by omega), hc (i * 2) (by omega), hc (i * 2 + 1) (by omega), hg.1, hg.2]
  exact ⟨rfl, rfl⟩
/-- Who sleeps. -/
def wakeM (up : Bool) (X : List Acc) : List NapM := if up then [(0, [])] else [(0, []), (7, X)]


theorem changed_wake {w0 w : World} {nb : Nat} {X : List Acc} {up wk : Bool} (h : NapIn w0 w nb 2 (wakeM up X)) (c : Acc) (hwk : wk = (!up && wokeM c.1.1 c.1.2 (7, X))) :
    Calls Try.prog 11 #[.pointer (some ⟨nb, 0, none⟩), .int .i64 c.1.1, .int .i64 c.1.2] w fun e w' =>
      ∃ A cc, e = .returned (.slice A (if wk then 1 else 0) cc) ∧ Flat w' (fun k => w.heap.size ≤ k) A (if wk then 1 else 0) (if wk then [7] else []) ∧ NapIn w0 w' nb 2 (wakeM (up || wk) X) ∧ KC w w' := by
  have h0 : wokeM c.1.1 c.1.2 (0, []) = false := rfl
  refine changed_to h c.1.2 c.2.1 (by unfold wakeM; split <;> simp) ?_ ?_ ?_
  · subst hwk
    cases up
    · cases hw : wokeM c.1.1 c.1.2 (7, X) <;> simp [wakeM, h0, hw]
    · simp [wakeM, h0]
  · cases wk <;> rfl
  · subst hwk
    cases up
    · cases hw : wokeM c.1.1 c.1.2 (7, X) <;> simp [wakeM, h0, hw]
    · simp [wakeM, h0]

set_option maxRecDepth 100000 in
set_option maxHeartbeats 8000000 in
theorem wakes_walk0 (A : Option Addr) (n cap : Nat) (xs : List (List Int)) (B : Option Addr) (m capB : Nat) (ys : List (List Int)) (w : World) (hA : NumsIn 2 w A n xs) (hB : NumsIn 2 w B m ys) (h2 : n ≤ 100) (h3 : m ≤ 100) :
    Calls Try.prog 5 #[.slice A n cap, .slice B m capB] w fun e w' => e = .returned (.bool true) ∧ Fr (fun _ => False) w w' := by
  obtain ⟨hXl, hX⟩ := accs_in hA
  obtain ⟨hYl, hY⟩ := accs_in hB
  generalize accsOf xs = X at hXl hX
  generalize accsOf ys = Y at hYl hY
  have T1 := Lib.hid trivial
  have T2 := Lib.hid trivial
  have T3 := Lib.hid trivial
  clear hA hB
  go_enter Try.func5, Try.ntmps5
  go_wp2_with (first
    | (go_at_call 7; have _t := T1; (with_reducible refine (first15_calls _).mono ?_); rintro e w1 ⟨rfl, hf1⟩; clear T1)
    | (go_at_call 8; (with_reducible refine (newN_in w w1 hf1).mono ?_); rintro e w2 ⟨nb, rfl, hN2⟩; have hS2 := sleep_to (cap := 0) (A := none) hN2 (by omega) (a := 0) rfl rfl (xs := []) (n := 0) rfl (Flat.nil w2 (fun _ => True) none) (by omega) (R := [(0, [])]) rfl)
    | (go_at_call 9; have _t := T2; (with_reducible refine hS2.mono ?_); rintro e w3 ⟨rfl, hN3⟩; clear T2; have hS3 := sleep_to (cap := cap) hN3 (by omega) (a := 7) rfl rfl hXl (hX.frame hN3.fr (fun _ _ x => x.elim)) (by omega) (R := [(0, []), (7, X)]) rfl)
    | (go_at_call 9; have _t := T3; (with_reducible refine hS3.mono ?_); rintro e w4 ⟨rfl, hN4⟩; clear T3; have hS4 := sleepNo_in hN4 (a := 7) rfl rfl (.slice none 0 0))
    | (go_at_call 9; (with_reducible refine hS4.mono ?_); rintro e w5 ⟨rfl, e5⟩; rw [e5]; clear e5 w5))
  clear hS2 hS3 hS4
  go_loopw [6, 7, 8, 9, 10, 11, 12] (fun v6 v7 _ _ _ _ _ wr => ∃ (i : Nat) (up : Bool), v7 = .int .i64 i ∧ i ≤ m ∧ v6 = .bool up ∧ NapIn w wr nb 2 (wakeM up X)) (fun _ v7 _ _ _ _ _ _ => m - (numOfN v7).toNat)
  case atStart => exact ⟨0, false, rfl, by omega, rfl, hN4⟩
  case round =>
    clear hN4
    obtain ⟨i, up, rfl, hi, rfl, hN⟩ := hrel
    by_cases hlt : i < m
    · obtain ⟨bd, rfl, hbc⟩ := acc_cells hY hYl (by omega)
      have hq := hbc i hlt
      generalize Y.getD i acc0 = c at hq
      have HC := Lib.hid hq
      clear hbc hq
      obtain ⟨wr0, hwr0⟩ : ∃ u, u = wr := ⟨_, rfl⟩
      have hN0 := hN
      rw [← hwr0] at hN0
      clear hN
      go_wp2
      go_loopw [8, 9, 10, 11] (fun v8 v9 _ _ wr2 => ∃ k : Nat, v9 = .int .i64 k ∧ k ≤ n ∧ v8 = .bool (!up && wakesA X c k) ∧ Fr (fun _ => False) wr0 wr2) (fun _ v9 _ _ _ => n - (numOfN v9).toNat)
      case atStart => exact ⟨0, rfl, by omega, by cases up <;> rfl, by rw [hwr0]; exact Fr.refl _ _⟩
      case round =>
        obtain ⟨k, rfl, hk, rfl, hf⟩ := hrel
        clear hwr0
        cases up with
        | true =>
          simp only [Bool.not_true, Bool.false_and]
          have hwk := trivial
          by_cases hkl : k < n
          all_goals
            have HCH := Lib.hid (fun u (hu : Fr (fun _ => False) wr0 u) => changed_wake (up := true) (wk := false) (hN0.frame hu) c (by first | rfl | (rw [hwk]; rfl) | simp [hwk]))
            have q0 := (hN0.fr.trans hf).cell HC.out.1 (fun x => x)
            have q1 := (hN0.fr.trans hf).cell HC.out.2 (fun x => x)
            go_wp2
            have HF0 := Lib.hid hf
            go_region_held3 (fun w' => w'.cell? (bd.add (i * 2)) = some (.int .i64 c.1.1) ∧ w'.cell? ⟨(bd.add (i * 2)).block, (bd.add (i * 2)).off + 1, none⟩ = some (.int .i64 c.1.2))
              (first | exact ⟨q0, q1⟩ | exact ⟨r0, r1⟩ | go_keep)
              (first
                | (go_at_call 11; (with_reducible refine (HCH.out _ (HF0.out.trans (Fr.drew (Fr.refl _ _)))).mono ?_); rintro e w8 ⟨A8, c8, rfl, hl8, hN8, _⟩; have r0 := hN8.fr.cell HC.out.1 (fun x => x); have r1 := hN8.fr.cell HC.out.2 (fun x => x)))
            simp only [Bool.or_false, if_false, Bool.false_eq_true] at hl8 hN8
            have hAs7 := asleep_to hN8 (a := 7) rfl (r := false) rfl
            have hAs0 := asleep_to hN8 (a := 0) rfl (r := true) rfl
            have hW0 := watch_in hN8 (a := 0) (xs := []) (by simp [wakeM]) (by decide)
            have T7 := Lib.hid trivial
            clear HCH
            go_wp2_with (first
              | (go_at_call 16; have _t := T7; (with_reducible refine hAs7.mono ?_); rintro e w9 ⟨rfl, e9⟩; rw [e9]; clear T7 e9 w9)
              | (go_at_call 16; (with_reducible refine hAs0.mono ?_); rintro e w9 ⟨rfl, e9⟩; rw [e9]; clear e9 w9)
              | (go_at_call 19; (with_reducible refine hW0.mono ?_); rintro e wz ⟨Az, oz, cz, rfl, hoz, _, hNz, _⟩; obtain rfl := firsts_nilN hoz))
            go_roundw
            case rel => exact ⟨i + 1, true, by go_num, by omega, rfl, hNz⟩
            case measure => simp [numOfN]; omega
        | false =>
          simp only [Bool.not_false, Bool.true_and]
          by_cases hkl : k < n
          · obtain ⟨ad, rfl, hac⟩ := acc_cells hX hXl (by omega)
            have HX := Lib.hid hac
            have hxq := hac k hkl
            generalize hxg : X.getD k acc0 = x at hxq
            have HXG := Lib.hid hxg
            have HXQ := Lib.hid hxq
            have HF := Lib.hid hf
            clear hac hxq hxg hf
            go_wp2
            go_loopw [10, 11] (fun v10 v11 wr3 => ∃ j : Nat, v11 = .int .i64 j ∧ j ≤ k ∧ v10 = .bool (seenA X j k) ∧ Fr (fun _ => False) wr0 wr3) (fun _ v11 _ => k - (numOfN v11).toNat)
            case atStart => exact ⟨0, rfl, by omega, rfl, by first | exact HF.out | exact HF.out.drew | exact HF.out.drewN _⟩
            case round =>
              obtain ⟨j, rfl, hj, rfl, hf⟩ := hrel
              have x0 := (hN0.fr.trans hf).cell HXQ.out.1 (fun x => x)
              have x1 := (hN0.fr.trans hf).cell HXQ.out.2 (fun x => x)
              by_cases hjl : j < k
              · have hyq := (HX.out j (by omega)).1
                generalize hyg : X.getD j acc0 = y at hyq
                have y0 := (hN0.fr.trans hf).cell hyq (fun x => x)
                have hss := seenA_succ X j k
                rw [hyg, HXG.out] at hss
                clear hyq hyg
                cases hs : seenA X j k with
                | true =>
                  rw [hs] at hss
                  have HS := Lib.hid hss
                  clear hss hs
                  go_wp2
                  go_quiet (fail)
                  go_wp2
                  go_roundw
                  case rel => exact ⟨j + 1, by go_num, by omega, by rw [HS.out]; rfl, by first | exact hf | exact hf.drew | exact hf.drewN _⟩
                  case measure => simp [numOfN]; omega
                | false =>
                  rw [hs] at hss
                  by_cases he : y.1.1 = x.1.1
                  · have hb : (y.1.1 == x.1.1) = true := by simpa using he
                    rw [hb] at hss
                    have HS := Lib.hid hss
                    clear hss hs he
                    go_wp2
                    go_quiet (fail)
                    go_wp2
                    go_roundw
                    case rel => exact ⟨j + 1, by go_num, by omega, by rw [HS.out]; rfl, by first | exact hf | exact hf.drew | exact hf.drewN _⟩
                    case measure => simp [numOfN]; omega
                  · have hb : (y.1.1 == x.1.1) = false := by simpa using he
                    rw [hb] at hss
                    have HS := Lib.hid hss
                    clear hss hs he
                    go_wp2
                    go_quiet (fail)
                    go_wp2
                    go_roundw
                    case rel => exact ⟨j + 1, by go_num, by omega, by rw [HS.out]; rfl, by first | exact hf | exact hf.drew | exact hf.drewN _⟩
                    case measure => simp [numOfN]; omega
              · obtain rfl : j = k := by omega
                have c0 := (hN0.fr.trans hf).cell HC.out.1 (fun x => x)
                have c1 := (hN0.fr.trans hf).cell HC.out.2 (fun x => x)
                have hws := wakesA_succ X c j
                rw [HXG.out] at hws
                have hcase : wakesA X c j = true ∨ (wakesA X c j = false ∧ seenA X j j = true) ∨ (wakesA X c j = false ∧ seenA X j j = false ∧ (x.1.1 == c.1.1) = false) ∨ (wakesA X c j = false ∧ seenA X j j = false ∧ (x.1.1 == c.1.1) = true ∧ (x.1.2 != c.1.2) = false) ∨ (wakesA X c j = false ∧ seenA X j j = false ∧ (x.1.1 == c.1.1) = true ∧ (x.1.2 != c.1.2) = true) := by
                  cases wakesA X c j <;> cases seenA X j j <;> cases (x.1.1 == c.1.1) <;> cases (x.1.2 != c.1.2) <;> simp
                rcases hcase with g1 | ⟨g1, g2⟩ | ⟨g1, g2, g3⟩ | ⟨g1, g2, g3, g4⟩ | ⟨g1, g2, g3, g4⟩
                · simp [g1] at hws
                  have HS := Lib.hid hws
                  clear hws
                  rw [g1]
                  skip
                  cases hs2 : seenA X j j
                  all_goals
                    clear g1
                    go_wp2
                    go_quiet (fail)
                    go_wp2
                    go_roundw
                    case rel => exact ⟨j + 1, by go_num, by omega, by rw [HS.out], by first | exact hf | exact hf.drew | exact hf.drewN _⟩
                    case measure => simp [numOfN]; omega
                · simp [g1, g2] at hws
                  have HS := Lib.hid hws
                  clear hws
                  rw [g1]
                  try rw [g2]
                  skip
                  all_goals
                    clear g1 g2
                    go_wp2
                    go_quiet (fail)
                    go_wp2
                    go_roundw
                    case rel => exact ⟨j + 1, by go_num, by omega, by rw [HS.out], by first | exact hf | exact hf.drew | exact hf.drewN _⟩
                    case measure => simp [numOfN]; omega
                · simp [g1, g2, g3] at hws
                  have HS := Lib.hid hws
                  clear hws
                  rw [g1]
                  try rw [g2]
                  skip
                  all_goals
                    clear g1 g2
                    go_wp2
                    go_quiet (fail)
                    go_wp2
                    go_roundw
                    case rel => exact ⟨j + 1, by go_num, by omega, by rw [HS.out], by first | exact hf | exact hf.drew | exact hf.drewN _⟩
                    case measure => simp [numOfN]; omega
                · simp [g1, g2, g3, g4] at hws
                  have HS := Lib.hid hws
                  clear hws
                  rw [g1]
                  try rw [g2]
                  skip
                  all_goals
                    clear g1 g2
                    go_wp2
                    go_quiet (fail)
                    go_wp2
                    go_roundw
                    case rel => exact ⟨j + 1, by go_num, by omega, by rw [HS.out], by first | exact hf | exact hf.drew | exact hf.drewN _⟩
                    case measure => simp [numOfN]; omega
                · simp [g1, g2, g3, g4] at hws
                  have HS := Lib.hid hws
                  clear hws
                  rw [g1]
                  try rw [g2]
                  skip
                  all_goals
                    clear g1 g2
                    go_wp2
                    go_quiet (fail)
                    go_wp2
                    go_roundw
                    case rel => exact ⟨j + 1, by go_num, by omega, by rw [HS.out], by first | exact hf | exact hf.drew | exact hf.drewN _⟩
                    case measure => simp [numOfN]; omega
          · obtain rfl : k = n := by omega
            have hwa := wakesA_all X c
            rw [hXl] at hwa
            cases hwk0 : wakesA X c k with
            | true =>
              have hwk : wokeM c.1.1 c.1.2 (7, X) = true := by rw [← hwa, hwk0]
              clear hwk0 hwa
              have HCH := Lib.hid (fun u (hu : Fr (fun _ => False) wr0 u) => changed_wake (up := false) (wk := true) (hN0.frame hu) c (by first | rfl | (rw [hwk]; rfl) | simp [hwk]))
              have q0 := (hN0.fr.trans hf).cell HC.out.1 (fun x => x)
              have q1 := (hN0.fr.trans hf).cell HC.out.2 (fun x => x)
              go_wp2
              have HF0 := Lib.hid hf
              go_region_held3 (fun w' => w'.cell? (bd.add (i * 2)) = some (.int .i64 c.1.1) ∧ w'.cell? ⟨(bd.add (i * 2)).block, (bd.add (i * 2)).off + 1, none⟩ = some (.int .i64 c.1.2))
                (first | exact ⟨q0, q1⟩ | exact ⟨r0, r1⟩ | go_keep)
                (first
                  | (go_at_call 11; (with_reducible refine (HCH.out _ (HF0.out.trans (Fr.drew (Fr.refl _ _)))).mono ?_); rintro e w8 ⟨A8, c8, rfl, hl8, hN8, _⟩; have r0 := hN8.fr.cell HC.out.1 (fun x => x); have r1 := hN8.fr.cell HC.out.2 (fun x => x)))
              simp only [Bool.or_true, if_true] at hl8 hN8
              obtain ⟨ad8, rfl, _, h8⟩ := hl8.at_ (by omega)
              have g0 := h8 0 (by omega)
              rw [show ad8.add 0 = ad8 from by unfold Addr.add; simp] at g0
              simp only [List.getD_cons_zero] at g0
              have hAs7 := asleep_to hN8 (a := 7) rfl (r := false) rfl
              have hAs0 := asleep_to hN8 (a := 0) rfl (r := true) rfl
              have hW0 := watch_in hN8 (a := 0) (xs := []) (by simp [wakeM]) (by decide)
              have T7 := Lib.hid trivial
              clear HCH
              go_wp2_with (first
                | (go_at_call 16; have _t := T7; (with_reducible refine hAs7.mono ?_); rintro e w9 ⟨rfl, e9⟩; rw [e9]; clear T7 e9 w9)
                | (go_at_call 16; (with_reducible refine hAs0.mono ?_); rintro e w9 ⟨rfl, e9⟩; rw [e9]; clear e9 w9)
                | (go_at_call 19; (with_reducible refine hW0.mono ?_); rintro e wz ⟨Az, oz, cz, rfl, hoz, _, hNz, _⟩; obtain rfl := firsts_nilN hoz))
              go_roundw
              case rel => exact ⟨i + 1, true, by go_num, by omega, rfl, hNz⟩
              case measure => simp [numOfN]; omega
            | false =>
              have hwk : wokeM c.1.1 c.1.2 (7, X) = false := by rw [← hwa, hwk0]
              clear hwk0 hwa
              have HCH := Lib.hid (fun u (hu : Fr (fun _ => False) wr0 u) => changed_wake (up := false) (wk := false) (hN0.frame hu) c (by first | rfl | (rw [hwk]; rfl) | simp [hwk]))
              have q0 := (hN0.fr.trans hf).cell HC.out.1 (fun x => x)
              have q1 := (hN0.fr.trans hf).cell HC.out.2 (fun x => x)
              go_wp2
              have HF0 := Lib.hid hf
              go_region_held3 (fun w' => w'.cell? (bd.add (i * 2)) = some (.int .i64 c.1.1) ∧ w'.cell? ⟨(bd.add (i * 2)).block, (bd.add (i * 2)).off + 1, none⟩ = some (.int .i64 c.1.2))
                (first | exact ⟨q0, q1⟩ | exact ⟨r0, r1⟩ | go_keep)
                (first
                  | (go_at_call 11; (with_reducible refine (HCH.out _ (HF0.out.trans (Fr.drew (Fr.refl _ _)))).mono ?_); rintro e w8 ⟨A8, c8, rfl, hl8, hN8, _⟩; have r0 := hN8.fr.cell HC.out.1 (fun x => x); have r1 := hN8.fr.cell HC.out.2 (fun x => x)))
              simp only [Bool.or_false, if_false, Bool.false_eq_true] at hl8 hN8
              have hAs7 := asleep_to hN8 (a := 7) rfl (r := true) rfl
              have hAs0 := asleep_to hN8 (a := 0) rfl (r := true) rfl
              have hW0 := watch_in hN8 (a := 0) (xs := []) (by simp [wakeM]) (by decide)
              have T7 := Lib.hid trivial
              clear HCH
              go_wp2_with (first
                | (go_at_call 16; have _t := T7; (with_reducible refine hAs7.mono ?_); rintro e w9 ⟨rfl, e9⟩; rw [e9]; clear T7 e9 w9)
                | (go_at_call 16; (with_reducible refine hAs0.mono ?_); rintro e w9 ⟨rfl, e9⟩; rw [e9]; clear e9 w9)
                | (go_at_call 19; (with_reducible refine hW0.mono ?_); rintro e wz ⟨Az, oz, cz, rfl, hoz, _, hNz, _⟩; obtain rfl := firsts_nilN hoz))
              go_roundw
              case rel => exact ⟨i + 1, false, by go_num, by omega, rfl, hNz⟩
              case measure => simp [numOfN]; omega
    · obtain rfl : i = m := by omega
      go_wp2_with (go_at_call 7; refine (first15_calls _).mono ?_; rintro e w5 ⟨rfl, hf5⟩)
      go_ret
      exact ⟨rfl, hN.fr.trans hf5⟩
set_option maxRecDepth 100000 in
theorem wakes_far (A : Option Addr) (n cap : Nat) (B : Option Addr) (m capB : Nat) (w : World) (hn : 100 < n ∨ 100 < m) :
    Calls Try.prog 5 #[.slice A n cap, .slice B m capB] w fun e w' => e = .returned (.bool true) ∧ Fr (fun _ => False) w w' := by
  have T1 : True := trivial
  have hg : 100 < (n : Int) ∨ 100 < (m : Int) := by omega
  clear hn
  go_enter Try.func5, Try.ntmps5
  go_wp2_with (first
    | (go_at_call 7; have _t := T1; refine (first15_calls w).mono ?_; rintro e w1 ⟨rfl, hf1⟩; clear T1)
    | (go_at_call 8; (with_reducible refine (newN_in w w1 hf1).mono ?_); rintro e w2 ⟨nb, rfl, hN2⟩)
    | (go_at_call 7; refine (first15_calls w2).mono ?_; rintro e w3 ⟨rfl, hf3⟩))
  all_goals go_ret
  all_goals exact ⟨rfl, hN2.fr.trans hf3⟩
theorem wakes_walk (A : Option Addr) (n cap : Nat) (xs : List (List Int)) (B : Option Addr) (m capB : Nat) (ys : List (List Int)) (w : World) (hA : NumsIn 2 w A n xs) (hB : NumsIn 2 w B m ys) :
    Calls Try.prog 5 #[.slice A n cap, .slice B m capB] w fun e w' => e = .returned (.bool true) ∧ Fr (fun _ => False) w w' := by
  by_cases hin : n ≤ 100 ∧ m ≤ 100
  · exact wakes_walk0 A n cap xs B m capB ys w hA hB hin.1 hin.2
  · exact wakes_far A n cap B m capB w (by omega)
end Go.Proofs.Ytlanchijcefncaa
