/- ltklaw14.UndoBack answers true. -/
import Derived.Test.YtoickikfojpgaaaUI
namespace Go.Proofs.Ytoickikfojpgaaa
open Go.RowKit

/-- The log and the words behind so many writes. -/
def BackAt (w wr : World) (lb g n : Nat) (hs : List Int) (Y : List Acc) : Prop := ∃ v, LogIn w wr lb v (wrN hs Y).2 100 ∧ NewL wr w.heap.size 3 (some ⟨g, 0, none⟩) n (wrN hs Y).1

theorem eql_acc (x0 x1 y0 y1 : Int) (w : World) : Sem.run Try.prog (binOp .eql 34 (.agg #[.int .i64 x0, .int .i64 x1]) (.agg #[.int .i64 y0, .int .i64 y1])) w = .ok (.bool (x0 == y0 && x1 == y1)) w := by
  have u3 := Try.underlying3
  have a3 := Try.isAgg3
  have z3 := Try.sizeOf3
  have hS : Try.prog.underlying 34 = some (.struct (Try.prog.fieldsOf 34)) := by kernel_rfl
  have hp : Try.prog.stoodInHeld 34 = false := by kernel_rfl
  rw [run_eql_struct, show (10000 : Nat) = 9999 + 1 from rfl, run_equalIn_agg w 9999 34 _ _ hS hp]
  simp only [Program.fieldsOf, Try.underlying34]
  go_simp
  by_cases h1 : x0 = y0 <;> by_cases h2 : x1 = y1 <;> simp [h1, h2]
theorem guard_acce (x y : Operand) (xs ys : Array Value) (w : World) : (eqGuard .eql 34 x y (.agg xs) (.agg ys)).run Try.prog w = .ok () w := run_eqGuard_agg w .eql _ x y xs ys (by kernel_rfl)

set_option maxRecDepth 100000 in
set_option maxHeartbeats 8000000 in
theorem back_walk0 (H : Option Addr) (n hcap : Nat) (hs : List Int) (A : Option Addr) (m cap : Nat) (xs : List (List Int)) (w : World) (hH : IntsW w H n hs) (h : NumsIn 3 w A m xs) (hn : 1 ≤ n ∧ n ≤ 100) (hm : m ≤ 100) :
    Calls Try.prog 4 #[.slice H n hcap, .slice A m cap] w fun e w' => e = .returned (.bool true) ∧ Fr (fun _ => False) w w' := by
  have T1 : True := trivial
  obtain ⟨hn1, hn2⟩ := hn
  obtain ⟨had, rfl, _, hhc⟩ := hH.flat.at_ (by omega)
  have hhl := hH.flat.len
  have hhw := hH.wf
  obtain ⟨X, hX⟩ : ∃ X, X = opAccs xs := ⟨_, rfl⟩
  have hXl : X.length = m := by rw [hX, opAccs_len, h.len]
  have HHC := Lib.hid hhc
  obtain ⟨i0, hi, hz0, hz1, hz2⟩ := info_parts infoInt
  have HCI := Lib.hid (fun (w' : World) (hf : Fr (fun _ => False) w w') => show ∀ j u, (hs.map (Value.int .i64))[j]? = some u → w'.cell? (had.add j) = some u from cells_ints hhl (fun i hi => hf.cell (hhc i hi) (fun x => x)))
  clear hhc hH
  go_enter Try.func4, Try.ntmps4
  go_wp2_with (first
    | (go_at_call 7; have _t := T1; refine (first1_calls w).mono ?_; rintro e w1 ⟨rfl, hf1⟩; clear T1)
    | (go_at_call 8; refine (new_in 100 (by omega) (by omega) w w1 hf1).mono ?_; rintro e w2 ⟨lb, rfl, h2, _⟩)
    | (at_builtin; refine wpList_append_own _ rfl _ _ 37 rfl w2.heap.size 3 i0 (.int .i64 0) 1 8 Try.underlying37 hi hz0 hz1 hz2 rfl (by decide) _ _ _ rfl (World.ownsRow_made w2 #[] 0 (Nat.le_refl _) (Nat.zero_le _) (by simp)) had n hcap (hs.map (Value.int .i64)) rfl ?qc1 ?qc2 ?qc3 ?qc4 ?qc5 ?qc6 ?_))
  case qc1 => rw [List.length_map, hhl, Nat.mul_one]
  case qc2 => exact HCI.out _ (h2.fr.alloc _)
  case qc3 => exact one_ints hs
  case qc4 => unfold maxLen; omega
  case qc5 => omega
  case qc6 => simp
  intro v' w3 hown hgrow hnil
  have ho : w3.ownsRow w2.heap.size 3 1 v' n (hs.map (Value.int .i64)) := by simpa using hown
  have hf3 : Fr (fun _ => False) w2 w3 := ((Fr.refl _ w2).alloc _).grown hgrow (fun k hk => .inr (by simp [Value.ownBlock] at hk; omega))
  obtain ⟨g, hc, rfl, hnl⟩ := newL_own ho (by omega)
  have hnl2 := hnl.base h2.fr.size
  have h3 := h2.frame hf3
  clear hown hgrow hnil ho hnl
  go_wp2
  go_loopw [8, 9] (fun v8 _ wr => ∃ i, v8 = .int .i64 (i : Nat) ∧ i ≤ m ∧ InR hs (X.take i) ∧ BackAt w wr lb g n hs (X.take i)) (fun v8 _ _ => m - (intOf v8).toNat)
  case atStart => exact ⟨0, rfl, by omega, fun x hx => (by cases hx), _, h3, hnl2⟩
  case round =>
    clear h3 hnl2
    obtain ⟨i, rfl, hi2, hir, v, h3, hnl⟩ := hrel
    by_cases hlt : i < m
    · obtain ⟨ad, rfl, hops⟩ := ops_at h (by omega)
      rw [← hX] at hops
      have hq := hops i hlt
      have htk := take_snoc (xs := X) (i := i) (by omega)
      generalize hxi : X.getD i acc0 = x at hq htk
      have HHQ := Lib.hid hq
      have q1 := h3.fr.cell hq.1 (fun x => x)
      have hlen : (X.take i).length = i := by rw [List.length_take]; omega
      have hp := wrN_parts hs hhw (X.take i)
      by_cases hin : 0 ≤ x.1.1 ∧ x.1.1 < (n : Int)
      · obtain ⟨k, hk⟩ : ∃ k : Nat, x.1.1 = k := ⟨x.1.1.toNat, by omega⟩
        have hkn : k < n := by omega
        have hcl := hnl.cell hkn
        generalize hu : (wrN hs (X.take i)).1.getD k 0 = u at hcl
        have hmk : (mkD x.1.1 u).1 = (x.1.1, u) := mkD_of x.2.1 (by rw [← hu]; exact hp.1.at_ k)
        have hP := push_in h3 (by rw [hp.2.2, hlen]; omega) (mkD x.1.1 u)
        rw [hmk, hk] at hP
        rw [hk] at q1
        have hs1 : (wrN hs (X.take (i + 1))).1 = (wrN hs (X.take i)).1.set k x.1.2 := by rw [htk, wrN_snoc]; show List.set _ x.1.1.toNat _ = _; rw [hk]; rfl
        have hs2 : (wrN hs (X.take (i + 1))).2 = (wrN hs (X.take i)).2 ++ [mkD k u] := by rw [htk, wrN_snoc]; show _ ++ [mkD x.1.1 ((wrN hs (X.take i)).1.getD x.1.1.toNat 0)] = _; rw [hk]; show _ ++ [mkD k ((wrN hs (X.take i)).1.getD k 0)] = _; rw [hu]
        have hir1 : InR hs (X.take (i + 1)) := by rw [htk]; intro y hy; rcases List.mem_append.1 hy with hy | hy; exact hir y hy; rw [List.mem_singleton.1 hy, hhl]; exact hin
        have HX := Lib.hid (And.intro hs1 (And.intro hs2 hir1))
        have HU := Lib.hid hu
        have HN := Lib.hid hnl
        have H3 := Lib.hid h3
        generalize hV : x.1.2 = V at HX
        have HHV := Lib.hid (show w.cell? ⟨(ad.add (i * 3)).block, (ad.add (i * 3)).off + 2, none⟩ = some (.int .i64 V) from by rw [← hV]; exact hq.2)
        clear hops hX hxi hq htk hp hs1 hs2 hir hir1 hin hk hmk hu hV hlen hnl h3
        go_wp2_with (first
          | (go_at_call 9; (with_reducible refine hP.mono ?_); rintro e w4 ⟨rfl, v4, h4, hf4⟩; have hn4 := NewL.past H3.out.at_ HN.out hf4; have q2 := h4.fr.cell HHV.out (fun x => x); have hc4 := hn4.cell hkn; rw [HU.out] at hc4; have hz4 := hn4.frz hn1 k))
        go_roundw
        case rel => exact ⟨i + 1, by go_num, by omega, HX.out.2.2, v4, by rw [HX.out.2.1]; exact h4.setH hn4 (by omega) (Nat.le_refl _) _ _, by rw [HX.out.1]; exact hn4.set hkn V⟩
        case measure => simp [intOf]; omega
      · have hor : x.1.1 < 0 ∨ (n : Int) ≤ x.1.1 := by omega
        clear hops hX hxi hq htk hp hin
        go_wp2_with (go_at_call 7; refine (first1_calls _).mono ?_; rintro e w4 ⟨rfl, hf4⟩)
        all_goals go_ret
        all_goals exact ⟨rfl, h3.fr.trans hf4⟩
    · obtain rfl : i = m := by omega
      have hXn : X.take i = X := by rw [← hXl, List.take_length]
      rw [hXn] at hir h3 hnl
      obtain ⟨L, hL⟩ : ∃ L, L = (wrN hs X).2 := ⟨_, rfl⟩
      have hLl : L.length = i := by rw [hL, (wrN_parts hs hhw X).2.2, hXl]
      have HFI := Lib.hid (wrN_first hs hhw X hir).1
      rw [← hL] at h3 HFI
      go_wp2_with (go_at_call 10; (with_reducible refine (first_in h3).mono ?_); rintro e w5 ⟨F, out, cf, rfl, ho, hfl, h5, hf5⟩)
      have hn5 := NewL.past h3.at_ hnl (hf5.mono (fun _ x => x.elim))
      have hol := firsts_len ho
      have HO := Lib.hid ho
      have HFL := Lib.hid hfl
      have HN5 := Lib.hid hn5
      have H5 := Lib.hid h5
      have HIR := Lib.hid hir
      clear ho hfl hn5 h5 hf5 hnl h3 hir
      go_loopw [11] (fun v11 wr2 => ∃ k : Nat, v11 = .int .i64 k ∧ k ≤ out.length ∧ Fr (fun _ => False) w5 wr2) (fun v11 _ => out.length - (intOf v11).toNat)
      case atStart => exact ⟨0, rfl, by omega, Fr.refl _ _⟩
      case round =>
        obtain ⟨k, rfl, hk, hf⟩ := hrel
        by_cases hkl : k < out.length
        · obtain ⟨fa, rfl, _, hfc⟩ := HFL.out.at_ (by omega)
          have f1 := hf.cell (hfc (k * 2) (by omega)) (fun x => x)
          have f2 := hf.cell (hfc (k * 2 + 1) (by omega)) (fun x => x)
          have f0 := fun (h0 : 0 < k) => hf.cell (hfc ((k - 1) * 2) (by omega)) (fun x => x)
          rw [(accInts_get out k hkl).1] at f1
          rw [(accInts_get out k hkl).2, add_past _ _ _ (by omega)] at f2
          have e0 := fun (h0 : 0 < k) => (accInts_get out (k - 1) (by omega)).1
          have hmem : out.getD k acc0 ∈ out := by rw [List.getD_eq_getElem?_getD, List.getElem?_eq_getElem hkl]; exact List.getElem_mem _
          have hrise := fun (h0 : 0 < k) => show (out.getD (k - 1) acc0).1.1 < (out.getD k acc0).1.1 from by
            rw [List.getD_eq_getElem?_getD, List.getD_eq_getElem?_getD, List.getElem?_eq_getElem hkl, List.getElem?_eq_getElem (show k - 1 < out.length by omega)]
            exact List.pairwise_iff_getElem.1 HO.out.1 (k - 1) k (by omega) hkl (by omega)
          generalize out.getD k acc0 = p at f1 f2 hmem hrise
          obtain ⟨ha0, ha1, hv⟩ := HFI.out p.1.1 p.1.2 ((HO.out.2 _ _).1 ⟨p, hmem, rfl⟩)
          obtain ⟨a, ha⟩ : ∃ a : Nat, p.1.1 = a := ⟨p.1.1.toNat, by omega⟩
          have hh := (H5.out.fr.trans hf).cell (HHC.out a (by omega)) (fun x => x)
          rw [ha] at f1 hv hrise
          rw [hv] at f2
          simp only [Int.toNat_natCast] at f2
          generalize hs.getD a 0 = u at f2 hh
          have g3 : decide ((a : Int) < 0) = false := by simp
          have g4 : decide (n ≤ a) = false := by simp; omega
          have g5 : (u != u) = false := by simp
          have han : a < n := by omega
          clear hfc hmem ha0 ha1 hv ha
          by_cases h0 : 0 < k
          · replace f0 := f0 h0
            rw [e0 h0] at f0
            have hr := hrise h0
            generalize (out.getD (k - 1) acc0).1.1 = b at f0 hr
            have s1 : IntKind.i64.wrap ((k : Int) - 1) = ((k - 1 : Nat) : Int) := by rw [IntKind.wrap_i64]; omega
            have g1 : decide ((a : Int) ≤ b) = false := by simp; omega
            have g2 : decide (0 < k) = true := by simp; omega
            clear e0 hrise hr
            go_wp2
            go_quiet (fail)
            go_wp2
            go_roundw
            case rel => exact ⟨k + 1, by go_num, by omega, by first | exact hf | exact hf.drew | exact hf.drewN _⟩
            case measure => simp [intOf]; omega
          · have g2 : decide (0 < k) = false := by simp; omega
            clear e0 hrise f0
            go_wp2
            go_quiet (fail)
            go_wp2
            go_roundw
            case rel => exact ⟨k + 1, by go_num, by omega, by first | exact hf | exact hf.drew | exact hf.drewN _⟩
            case measure => simp [intOf]; omega
        · have hb0 : BackAt w w5 lb g n hs (X.take (i - 0)) := by rw [Nat.sub_zero, hXn]; exact ⟨_, by rw [← hL]; exact H5.out, HN5.out⟩
          have HB0 := Lib.hid (fun wr2 (hf : Fr (fun _ => False) w5 wr2) => show BackAt w wr2 lb g n hs (X.take (i - 0)) from let ⟨v, h1, h2⟩ := hb0; ⟨v, h1.frame hf, h2.frameF hf⟩)
          have HF := Lib.hid hf
          clear hb0 hf
          go_wp2
          go_loopw [12, 13, 14] (fun v12 _ _ wr => ∃ j, v12 = .int .i64 (j : Nat) ∧ j ≤ i ∧ BackAt w wr lb g n hs (X.take (i - j))) (fun v12 _ _ _ => i - (intOf v12).toNat)
          case atStart => exact ⟨0, rfl, by omega, HB0.out _ (by first | exact HF.out | exact HF.out.drew | exact HF.out.drewN _)⟩
          case round =>
            obtain ⟨j, rfl, hj, v, h3, hnl⟩ := hrel
            by_cases hjl : j < i
            · obtain ⟨ad, rfl, hops⟩ := ops_at h (by omega)
              rw [← hX] at hops
              obtain ⟨q, hq⟩ : ∃ q, q = i - 1 - j := ⟨_, rfl⟩
              have hqi : (i : Int) - 1 - (j : Int) = (q : Int) := by omega
              have htk : X.take (i - j) = X.take q ++ [X.getD q acc0] := by rw [show i - j = q + 1 by omega, take_snoc (by omega)]
              have hmem : X.getD q acc0 ∈ X := by rw [List.getD_eq_getElem?_getD, List.getElem?_eq_getElem (by omega)]; exact List.getElem_mem _
              have hc := (hops q (by omega)).1
              generalize X.getD q acc0 = x at htk hmem hc
              have hin := HIR.out x hmem
              obtain ⟨a, ha⟩ : ∃ a : Nat, x.1.1 = a := ⟨x.1.1.toNat, by omega⟩
              have han : a < n := by rw [hhl] at hin; omega
              obtain ⟨o, ho1, ho2, ho3⟩ := wrN_back hs hhw (X.take q) x hin
              rw [htk] at h3 hnl
              rw [ho1] at h3
              rw [ha] at hc ho2 ho3
              simp only [Int.toNat_natCast] at ho3
              have hP := pop_in h3
              rw [ho2] at hP
              have q1 := h3.fr.cell hc (fun x => x)
              have HC := Lib.hid hc
              have HO3 := Lib.hid ho3
              have HN := Lib.hid hnl
              have H3 := Lib.hid h3
              have HQ := Lib.hid hq
              generalize o.1.2 = u at hP HO3
              clear hops htk hmem hc ho1 ho2 ho3 hin ha hnl h3 hq
              go_wp2_with (first
                | (go_at_call 12; (with_reducible refine hP.mono ?_); rintro e w6 ⟨rfl, v6, h6, hf6⟩; have hn6 := NewL.past H3.out.at_ HN.out hf6; have hq6 := h6.fr.cell HC.out (fun x => x); have hcc := hn6.cell han; have hz6 := hn6.frz hn1 a))
              have hfa := (Fr.refl (fun _ => False) w6).alloc (.cells #[.int .i64 (a : Int), .int .i64 u] 34)
              have hq7 := hfa.cell hq6 (fun x => x)
              have hn7 := hn6.frameF hfa
              have h7 := h6.frame hfa
              have hcc7 := hn7.cell han
              have hz7 := hn7.frz hn1 a
              have hne : ((a : Int) != a) = false := by simp
              generalize (wrN hs (X.take q ++ [x])).1.getD a 0 = y at hcc7
              have HN7 := Lib.hid hn7
              have H7 := Lib.hid h7
              clear hfa hq6 hn6 h6 hn7 h7 hcc hz6 hP
              go_quiet (fail)
              go_wp2
              go_roundw
              case rel => exact ⟨j + 1, by go_num, by omega, by
                  rw [show i - (j + 1) = q by have := HQ.out; omega]
                  exact ⟨v6, (H7.out.frame ((Fr.refl _ _).drewN _)).setH (HN7.out.frameF ((Fr.refl _ _).drewN _)) (by omega) (Nat.le_refl _) _ _, by rw [← HO3.out]; exact (HN7.out.frameF ((Fr.refl _ _).drewN _)).set han u⟩⟩
              case measure => simp [intOf]; omega
            · obtain rfl : j = i := by omega
              rw [Nat.sub_self, List.take_zero] at h3 hnl
              have HN := Lib.hid (show NewL _ w.heap.size 3 (some ⟨g, 0, none⟩) n hs from hnl)
              have HL3 := Lib.hid (show LogIn w _ lb v [] 100 from h3)
              clear h3 hnl
              go_wp2
              go_loopw [15] (fun v15 wr4 => ∃ k : Nat, v15 = .int .i64 k ∧ k ≤ n ∧ Fr (fun _ => False) wr wr4) (fun v15 _ => n - (intOf v15).toNat)
              case atStart => exact ⟨0, rfl, by omega, Fr.refl _ _⟩
              case round =>
                obtain ⟨k, rfl, hk, hf⟩ := hrel
                by_cases hkn : k < n
                · have c1 := (HN.out.frameF hf).cell hkn
                  have c2 := (HL3.out.fr.trans hf).cell (HHC.out k hkn) (fun x => x)
                  generalize hs.getD k 0 = y at c1 c2
                  have hne : (y != y) = false := by simp
                  go_wp2
                  go_quiet (fail)
                  go_wp2
                  go_roundw
                  case rel => exact ⟨k + 1, by go_num, by omega, by first | exact hf | exact hf.drew | exact hf.drewN _⟩
                  case measure => simp [intOf]; omega
                · obtain rfl : k = n := by omega
                  have hP := none_in (HL3.out.frame hf)
                  have NQ := eql_acc 0 0 0 0
                  simp only [beq_self_eq_true, Bool.and_self] at NQ
                  have EG := guard_acce
                  go_wp2_with (first
                    | (go_at_call 12; (with_reducible refine hP.mono ?_); rintro e w6 ⟨rfl, h6, _⟩; replace h6 := h6.frame ((Fr.refl _ _).alloc (.cells #[.int .i64 0, .int .i64 0] 34)))
                    | (go_at_call 7; refine (first1_calls _).mono ?_; rintro e w7 ⟨rfl, hf7⟩; have h7 := h6.frame hf7; have hb7 := hf7.heap (heap_alloc_new w6 _) (fun x => x); have x0 := blk_cell hb7 0; have x1 := blk_cell hb7 1; simp only [List.getElem?_toArray, List.getElem?_cons_zero, List.getElem?_cons_succ] at x0 x1)
                    | (go_at_call 11; refine (len_in h7).mono ?_; rintro e w8 ⟨rfl, rfl⟩))
                  go_ret
                  exact ⟨rfl, h7.fr⟩
set_option maxRecDepth 100000 in
theorem back_far (H : Option Addr) (n hcap : Nat) (A : Option Addr) (m cap : Nat) (w : World) (hn : (n < 1 ∨ 100 < n) ∨ 100 < m) :
    Calls Try.prog 4 #[.slice H n hcap, .slice A m cap] w fun e w' => e = .returned (.bool true) ∧ Fr (fun _ => False) w w' := by
  have T1 : True := trivial
  have hg : ((n : Int) < 1 ∨ 100 < (n : Int)) ∨ 100 < (m : Int) := by omega
  clear hn
  go_enter Try.func4, Try.ntmps4
  go_wp2_with (first
    | (go_at_call 7; have _t := T1; refine (first1_calls w).mono ?_; rintro e w1 ⟨rfl, hf1⟩; clear T1)
    | (go_at_call 7; refine (first1_calls w1).mono ?_; rintro e w2 ⟨rfl, hf2⟩))
  all_goals go_ret
  all_goals exact ⟨rfl, hf1.trans hf2⟩
theorem back_walk (H : Option Addr) (n hcap : Nat) (hs : List Int) (A : Option Addr) (m cap : Nat) (xs : List (List Int)) (w : World) (hH : IntsW w H n hs) (h : NumsIn 3 w A m xs) :
    Calls Try.prog 4 #[.slice H n hcap, .slice A m cap] w fun e w' => e = .returned (.bool true) ∧ Fr (fun _ => False) w w' := by
  by_cases hin : (1 ≤ n ∧ n ≤ 100) ∧ m ≤ 100
  · exact back_walk0 H n hcap hs A m cap xs w hH h hin.1 hin.2
  · exact back_far H n hcap A m cap w (by omega)
end Go.Proofs.Ytoickikfojpgaaa
