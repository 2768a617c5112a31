/- ltklaw14.UndoFirsts answers true. -/
import Derived.Test.YtoickikfojpgaaaUG
import Derived.Deep.RegionHeld3
import Derived.Deep.DeepCutAuto
namespace Go.Proofs.Ytoickikfojpgaaa
open Go.RowKit

theorem opens_op14 : Opens Try.prog 30 (rdNums 3) := by
  refine opens_nums Try.underlying30 (by kernel_rfl) (fun i hi => ?_)
  have : i = 0 ∨ i = 1 ∨ i = 2 := by omega
  rcases this with rfl | rfl | rfl <;> exact ⟨_, rfl, rfl, Try.underlying3, by kernel_rfl⟩
theorem opens_ops14 : Opens Try.prog 22 (rdSlice (rdNums 3) 3) := opens_slice Try.underlying22 (by kernel_rfl) opens_op14
/-- The entry that an operation pushes. -/
def opAcc (x : List Int) : Acc := if h : (Lit.int .i64 (x.getD 1 0)).wf = true ∧ (Lit.int .i64 (x.getD 2 0)).wf = true then ⟨(x.getD 1 0, x.getD 2 0), h⟩ else acc0
def opAccs (xs : List (List Int)) : List Acc := xs.map opAcc
theorem opAccs_len (xs : List (List Int)) : (opAccs xs).length = xs.length := by simp [opAccs]
theorem ops_get {w : World} {A : Option Addr} {n : Nat} {xs : List (List Int)} (h : NumsIn 3 w A n xs) {i : Nat} (hi : i < n) : ((opAccs xs).getD i acc0).1 = ((xs.getD i []).getD 1 0, (xs.getD i []).getD 2 0) := by
  have hl : i < xs.length := by rw [h.len]; exact hi
  have e : (opAccs xs).getD i acc0 = opAcc (xs.getD i []) := by
    rw [opAccs, List.getD_eq_getElem?_getD, List.getElem?_map, List.getD_eq_getElem?_getD, List.getElem?_eq_getElem hl]; rfl
  rw [e]
  have hm : xs.getD i [] ∈ xs := by rw [List.getD_eq_getElem?_getD, List.getElem?_eq_getElem hl]; exact List.getElem_mem _
  obtain ⟨ad, _, hc⟩ := h.at_ (by omega)
  have h3 := (hc i hi).1
  generalize xs.getD i [] = x at hm h3
  match x, h3 with
  | [a, b, c], _ =>
    unfold opAcc
    rw [dif_pos ⟨h.wf _ hm b (by simp), h.wf _ hm c (by simp)⟩]
theorem ops_at {w : World} {A : Option Addr} {n : Nat} {xs : List (List Int)} (h : NumsIn 3 w A n xs) (h0 : 0 < n) : ∃ ad, A = some ad ∧ ∀ i, i < n →
    w.cell? ⟨(ad.add (i * 3)).block, (ad.add (i * 3)).off + 1, none⟩ = some (.int .i64 ((opAccs xs).getD i acc0).1.1) ∧
    w.cell? ⟨(ad.add (i * 3)).block, (ad.add (i * 3)).off + 2, none⟩ = some (.int .i64 ((opAccs xs).getD i acc0).1.2) := by
  obtain ⟨ad, ha, hc⟩ := h.at_ h0
  refine ⟨ad, ha, fun i hi => ?_⟩
  rw [ops_get h hi, ← add_past _ _ _ (by omega), ← add_past _ _ _ (by omega)]
  exact ⟨(hc i hi).2 1 (by omega), (hc i hi).2 2 (by omega)⟩

theorem firstIdx {xs : List Acc} {a v : Int} (h : valOf xs a = some v) : ∃ j, j < xs.length ∧ (xs.getD j acc0).1 = (a, v) ∧ ∀ i, i < j → (xs.getD i acc0).1.1 ≠ a := by
  induction xs with
  | nil => cases h
  | cons x xs ih =>
    rw [valOf_cons] at h
    split at h
    · rename_i e
      cases h
      exact ⟨0, by simp, by rw [← e]; rfl, fun i hi => absurd hi (by omega)⟩
    · rename_i e
      obtain ⟨j, h1, h2, h3⟩ := ih h
      refine ⟨j + 1, by simpa using h1, h2, fun i hi => ?_⟩
      cases i with
      | zero => exact e
      | succ i => exact h3 i (by omega)
theorem nodup_len : ∀ (l m : List Int), l.Nodup → (∀ a ∈ l, a ∈ m) → l.length ≤ m.length
  | [], _, _, _ => Nat.zero_le _
  | a :: l, m, hn, hs => by
    have ha : a ∈ m := hs a (List.mem_cons_self ..)
    have h1 := nodup_len l (m.erase a) (List.nodup_cons.1 hn).2 (fun b hb => (List.mem_erase_of_ne (by rintro rfl; exact (List.nodup_cons.1 hn).1 hb)).2 (hs b (List.mem_cons_of_mem _ hb)))
    rw [List.length_erase_of_mem ha] at h1
    have := List.length_pos_of_mem ha
    rw [List.length_cons]; omega
theorem firsts_len {xs out : List Acc} (h : IsFirsts xs out) : out.length ≤ xs.length := by
  have h1 := nodup_len (out.map (·.1.1)) (xs.map (·.1.1)) (List.pairwise_map.2 (h.1.imp fun {a b} hab e => by rw [e] at hab; exact absurd hab (Int.lt_irrefl _))) (fun a ha => by
    obtain ⟨p, hp, rfl⟩ := List.mem_map.1 ha
    obtain ⟨x, hx, e⟩ := valOf_some ((h.2 p.1.1 p.1.2).1 ⟨p, hp, rfl⟩)
    exact List.mem_map.2 ⟨x, hx, by rw [e]⟩)
  simpa using h1
def hits (out : List Acc) (a : Int) : Nat := out.countP fun p => p.1.1 == a
theorem hits_zero {out : List Acc} {a : Int} (h : ∀ p ∈ out, a < p.1.1) : hits out a = 0 := by
  unfold hits
  rw [List.countP_eq_zero]
  intro p hp e
  have := h p hp
  simp at e; omega
theorem hits_one {out : List Acc} {a v : Int} (h : out.Pairwise (fun p q => p.1.1 < q.1.1)) (hm : ∃ p ∈ out, p.1 = (a, v)) : hits out a = 1 := by
  induction out with
  | nil => obtain ⟨p, hp, _⟩ := hm; cases hp
  | cons x out ih =>
    obtain ⟨hx, hp⟩ := List.pairwise_cons.1 h
    unfold hits
    rw [List.countP_cons]
    by_cases e : x.1.1 = a
    · have h0 : hits out a = 0 := hits_zero fun p hp => by rw [← e]; exact hx p hp
      unfold hits at h0
      rw [h0]; simp [e]
    · obtain ⟨p, hq, e2⟩ := hm
      rcases List.mem_cons.1 hq with rfl | hq
      · exact absurd (by rw [e2]) e
      · have h1 := ih hp ⟨p, hq, e2⟩
        unfold hits at h1
        rw [h1]; simp [e]
theorem hits_succ {out : List Acc} {a : Int} {k : Nat} (hk : k < out.length) : hits (out.take (k + 1)) a = hits (out.take k) a + if (out.getD k acc0).1.1 = a then 1 else 0 := by
  unfold hits
  rw [List.take_add_one, List.getD_eq_getElem?_getD, List.getElem?_eq_getElem hk, List.countP_append]
  simp
theorem hits_le (out : List Acc) (a : Int) (k : Nat) : hits (out.take k) a ≤ k := Nat.le_trans List.countP_le_length (by rw [List.length_take]; omega)

/-- What the rounds of the law need of First's answer. -/
theorem firsts_at {xs out : List Acc} (h : IsFirsts xs out) {k : Nat} (hk : k < out.length) : ∃ j, j < xs.length ∧ (xs.getD j acc0).1 = (out.getD k acc0).1 ∧ ∀ i, i < j → (xs.getD i acc0).1.1 ≠ (out.getD k acc0).1.1 := by
  have hm : out.getD k acc0 ∈ out := by rw [List.getD_eq_getElem?_getD, List.getElem?_eq_getElem hk]; exact List.getElem_mem _
  exact firstIdx ((h.2 _ _).1 ⟨_, hm, rfl⟩)
theorem valOf_last (xs : List Acc) (x : Acc) : ∃ v, valOf (xs ++ [x]) x.1.1 = some v := Option.isSome_iff_exists.1 (valOf_isSome.2 ⟨x, by simp, rfl⟩)
theorem take_getD {xs : List Acc} {i j : Nat} (h : j < i) : (xs.take i).getD j acc0 = xs.getD j acc0 := by
  rw [List.getD_eq_getElem?_getD, List.getD_eq_getElem?_getD, List.getElem?_take, if_pos h]
theorem take_snoc {xs : List Acc} {i : Nat} (h : i < xs.length) : xs.take (i + 1) = xs.take i ++ [xs.getD i acc0] := by
  rw [List.take_add_one, List.getD_eq_getElem?_getD, List.getElem?_eq_getElem h]; rfl

set_option maxRecDepth 100000 in
theorem firsts_calls14 (A : Option Addr) (n cap : Nat) (xs : List (List Int)) (w : World) (h : NumsIn 3 w A n xs) (hn : n ≤ 100) :
    Calls Try.prog 3 #[.slice A n cap] w fun e w' => e = .returned (.bool true) ∧ Fr (fun _ => False) w w' := by
  have T1 : True := trivial
  obtain ⟨X, hX⟩ : ∃ X, X = opAccs xs := ⟨_, rfl⟩
  have hXl : X.length = n := by rw [hX, opAccs_len, h.len]
  go_enter Try.func3, Try.ntmps3
  go_wp2_with (first
    | (go_at_call 7; have _t := T1; refine (first1_calls w).mono ?_; rintro e w1 ⟨rfl, hf1⟩; clear T1)
    | (go_at_call 8; refine (new_in 100 (by omega) (by omega) w w1 hf1).mono ?_; rintro e w2 ⟨lb, rfl, h2, _⟩))
  go_loopw [5, 6, 7, 8, 9, 10] (fun v5 _ _ _ _ _ wr => ∃ i v, v5 = .int .i64 (i : Nat) ∧ i ≤ n ∧ LogIn w wr lb v (X.take i) 100) (fun v5 _ _ _ _ _ _ => n - (intOf v5).toNat)
  case atStart => exact ⟨0, _, rfl, by omega, h2⟩
  case round =>
    obtain ⟨i, v, rfl, hi, h3⟩ := hrel
    clear h2
    by_cases hlt : i < n
    · obtain ⟨ad, rfl, hops⟩ := ops_at h (by omega)
      rw [← hX] at hops
      have HOPS := Lib.hid hops
      have hlen : (X.take i).length = i := by rw [List.length_take]; omega
      have hq := hops i hlt
      have htk := take_snoc (xs := X) (i := i) (by omega)
      generalize hxi : X.getD i acc0 = x at hq htk
      have HXI := Lib.hid hxi
      have HHQ := Lib.hid hq
      have q1 := h3.fr.cell hq.1 (fun x => x)
      have q2 := h3.fr.cell hq.2 (fun x => x)
      have hP := fun u hu => push_in (w := u) (h3.frame hu) (by rw [hlen]; omega) x
      rw [← htk] at hP
      have HTK := Lib.hid htk
      clear hops hX hlen hxi hq htk
      go_upto_region 11 with fail
      go_region_held3 (fun w' => w'.cell? ⟨(ad.add (i * 3)).block, (ad.add (i * 3)).off + 1, none⟩ = some (.int .i64 x.1.1) ∧ w'.cell? ⟨(ad.add (i * 3)).block, (ad.add (i * 3)).off + 2, none⟩ = some (.int .i64 x.1.2))
        (first | exact ⟨q1, q2⟩ | exact ⟨q1', q2'⟩ | go_keep)
        (first
          | (go_at_call 9; (with_reducible refine (hP _ (Fr.drew (Fr.refl _ _))).mono ?_); rintro e w4 ⟨rfl, v4, h4, _⟩; have q1' := h4.fr.cell HHQ.out.1 (fun x => x); have q2' := h4.fr.cell HHQ.out.2 (fun x => x)))
      go_wp2_with (go_at_call 10; (with_reducible refine (first_in h4).mono ?_); rintro e w5 ⟨F, out, cf, rfl, ho, hfl, h5, _⟩)
      have hol := firsts_len ho
      have hol2 : out.length ≤ 100 := by rw [List.length_take] at hol; omega
      have h45 := h4.fr.size
      go_loopw [7, 8] (fun v7 _ wr => ∃ k : Nat, v7 = .int .i64 k ∧ k ≤ out.length ∧ Fr (fun _ => False) w5 wr) (fun v7 _ _ => out.length - (intOf v7).toNat)
      case atStart => exact ⟨0, rfl, by omega, Fr.refl _ _⟩
      case round =>
        obtain ⟨k, rfl, hk, hf⟩ := hrel
        by_cases hk2 : k < out.length
        · obtain ⟨fa, rfl, _, hfc⟩ := hfl.at_ (by omega)
          have hg := And.intro (hfc (k * 2) (by omega)) (hfc (k * 2 + 1) (by omega))
          rw [(accInts_get out k hk2).1, (accInts_get out k hk2).2, add_past _ _ _ (by omega)] at hg
          obtain ⟨j0, hj0, hj1, hj2⟩ := firsts_at ho hk2
          have hji : j0 ≤ i := by rw [List.length_take] at hj0; omega
          generalize out.getD k acc0 = p at hg hj1 hj2
          rw [take_getD (by omega)] at hj1
          replace hj2 := fun j (hj : j < j0) => by have := hj2 j hj; rw [take_getD (by omega)] at this; exact this
          have HJ1 := Lib.hid hj1
          have HJ2 := Lib.hid hj2
          have HF := Lib.hid hf
          have HG := Lib.hid hg
          clear hfc hj1 hj2 hj0 hf hg
          go_wp2
          go_loopw [8] (fun v8 wr2 => ∃ j : Nat, v8 = .int .i64 j ∧ j ≤ j0 ∧ Fr (fun _ => False) w5 wr2) (fun v8 _ => j0 - (intOf v8).toNat)
          case atStart => exact ⟨0, rfl, by omega, by first | exact HF.out | exact HF.out.drew | exact HF.out.drewN _⟩
          case round =>
            obtain ⟨j, rfl, hj, hf⟩ := hrel
            have l1 := (h5.fr.trans hf).cell (HOPS.out j (by omega)).1 (fun x => x)
            have l2 := (h5.fr.trans hf).cell (HOPS.out j (by omega)).2 (fun x => x)
            have f1 := hf.cell HG.out.1 (fun x => x)
            have f2 := hf.cell HG.out.2 (fun x => x)
            by_cases hjl : j < j0
            · have hne : ((X.getD j acc0).1.1 != p.1.1) = true := by simpa using HJ2.out j hjl
              generalize X.getD j acc0 = y at l1 l2 hne
              have hlt2 : (j : Int) < i := by omega
              go_wp2
              go_quiet (fail)
              go_wp2
              go_roundw
              case rel => exact ⟨j + 1, by go_num, by omega, by first | exact hf | exact hf.drew | exact hf.drewN _⟩
              case measure => simp [intOf]; omega
            · obtain rfl : j = j0 := by omega
              have hv := HJ1.out
              generalize X.getD j acc0 = y at l1 l2 hv
              rw [hv] at l1 l2
              go_wp2
              go_quiet (fail)
              go_wp2
              go_quiet (fail)
              go_wp2
              go_roundw
              case rel => exact ⟨k + 1, by go_num, by omega, by first | exact hf | exact hf.drew | exact hf.drewN _⟩
              case measure => simp [intOf]; omega
        · obtain rfl : k = out.length := by omega
          have HF := Lib.hid hf
          clear hf
          go_wp2
          go_loopw [9, 10] (fun v9 v10 wr2 => ∃ k : Nat, v10 = .int .i64 k ∧ k ≤ out.length ∧ v9 = .int .i64 (hits (out.take k) x.1.1 : Nat) ∧ Fr (fun _ => False) w5 wr2) (fun _ v10 _ => out.length - (intOf v10).toNat)
          case atStart => exact ⟨0, rfl, by omega, rfl, by first | exact HF.out | exact HF.out.drew | exact HF.out.drewN _⟩
          case round =>
            obtain ⟨k, rfl, hk, rfl, hf⟩ := hrel
            have hz := hits_le out x.1.1 k
            by_cases hk2 : k < out.length
            · obtain ⟨fa, rfl, _, hfc⟩ := hfl.at_ (by omega)
              have f1 := hf.cell (hfc (k * 2) (by omega)) (fun x => x)
              rw [(accInts_get out k hk2).1] at f1
              have q3 := (h5.fr.trans hf).cell HHQ.out.1 (fun x => x)
              have hs := hits_succ (a := x.1.1) hk2
              generalize out.getD k acc0 = p at f1 hs
              clear hfc
              by_cases he : p.1.1 = x.1.1
              · rw [if_pos he] at hs
                rw [he] at f1
                have HS := Lib.hid hs
                clear hs he
                go_wp2
                go_quiet (fail)
                go_wp2
                go_roundw
                case rel => exact ⟨k + 1, by go_num, by omega, by rw [HS.out]; go_num, by first | exact hf | exact hf.drew | exact hf.drewN _⟩
                case measure => simp [intOf]; omega
              · rw [if_neg he] at hs
                have hne : (p.1.1 == x.1.1) = false := by simpa using he
                have HS := Lib.hid hs
                clear hs he
                go_wp2
                go_quiet (fail)
                go_wp2
                go_roundw
                case rel => exact ⟨k + 1, by go_num, by omega, by rw [HS.out]; rfl, by first | exact hf | exact hf.drew | exact hf.drewN _⟩
                case measure => simp [intOf]; omega
            · obtain rfl : k = out.length := by omega
              have h1 : hits (out.take out.length) x.1.1 = 1 := by
                rw [List.take_length]
                obtain ⟨vx, hvx⟩ := valOf_last (X.take i) x
                rw [← HTK.out] at hvx
                exact hits_one ho.1 ((ho.2 _ _).2 hvx)
              rw [h1]
              go_wp2
              go_roundw
              case rel => exact ⟨i + 1, _, by go_num, by omega, h5.frame hf⟩
              case measure => simp [intOf]; omega
    · obtain rfl : i = n := by omega
      have hXn : X.take i = X := by rw [← hXl, List.take_length]
      rw [hXn] at h3
      have hlen : (X.length : Int) = i := by rw [hXl]
      go_wp2_with (first
        | (go_at_call 7; refine (first1_calls _).mono ?_; rintro e w7 ⟨rfl, hf7⟩; have h7 := h3.frame hf7)
        | (go_at_call 11; refine (len_in h7).mono ?_; rintro e w8 ⟨rfl, rfl⟩; rw [hlen]))
      go_ret
      exact ⟨rfl, h7.fr⟩
set_option maxRecDepth 100000 in
theorem firsts_far14 (A : Option Addr) (n cap : Nat) (w : World) (hn : ¬ n ≤ 100) :
    Calls Try.prog 3 #[.slice A n cap] w fun e w' => e = .returned (.bool true) ∧ Fr (fun _ => False) w w' := by
  have T1 : True := trivial
  have hg : (100 : Int) < n := by omega
  clear hn
  go_enter Try.func3, Try.ntmps3
  go_wp2_with (first
    | (go_at_call 7; have _t := T1; refine (first1_calls w).mono ?_; rintro e w1 ⟨rfl, hf1⟩; clear T1)
    | (go_at_call 7; refine (first1_calls w1).mono ?_; rintro e w2 ⟨rfl, hf2⟩))
  go_ret
  exact ⟨rfl, hf1.trans hf2⟩
theorem firsts_walk14 (A : Option Addr) (n cap : Nat) (xs : List (List Int)) (w : World) (h : NumsIn 3 w A n xs) :
    Calls Try.prog 3 #[.slice A n cap] w fun e w' => e = .returned (.bool true) ∧ Fr (fun _ => False) w w' := by
  by_cases hn : n ≤ 100
  · exact firsts_calls14 A n cap xs w h hn
  · exact firsts_far14 A n cap w hn
end Go.Proofs.Ytoickikfojpgaaa
