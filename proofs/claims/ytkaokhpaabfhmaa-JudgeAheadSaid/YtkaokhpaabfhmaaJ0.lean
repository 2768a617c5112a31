/- judge.Commits, judge.Ahead. -/
import Derived.Test.YtkaokhpaabfhmaaEvB
namespace Go.Proofs.Ytkaokhpaabfhmaa
open Go.RowKit

set_option maxRecDepth 100000 in
theorem commits_calls (u : Value) (es : List Ev) (G : Nat → Prop) (w : World) (hu : EvsAt w G u es) (hs : Smalls es) :
    Calls Try.prog 16 #[u] w fun e w' => ∃ v', e = .returned v' ∧ EvsOwn 50 w.heap.size w' (fun k => w.heap.size ≤ k) v' (es.filter (·.keeps 2 [])) ∧ Fr (fun _ => False) w w' := by
  have HU := Lib.hid (fun w' (hf : Fr (fun _ => False) w w') => hu.frame hf (fun _ _ x => x.elim))
  have HS := Lib.hid hs
  obtain ⟨A, c, cs, rfl, _⟩ := id hu.ex
  clear hu hs
  go_enter Try.func16, Try.ntmps16
  go_wp2_with (first
    | (go_at_call 29
       (with_reducible refine (storyNew_calls w).mono ?_)
       rintro ex w1 ⟨rfl, hs1, hf1, hz1⟩
       have HA := Lib.hid (storyAdd_calls w.heap.size _ _ [] es _ G w1 hs1 (HU.out _ hf1) (by simp) HS.out)
       have HF1 := Lib.hid hf1
       clear hs1 hf1)
    | (go_at_call 30
       (with_reducible refine HA.out.mono ?_)
       rintro ex w2 ⟨rfl, ⟨v2, hs2⟩, hf2⟩
       rw [List.nil_append] at hs2
       have HO := Lib.hid (storyOf_calls w.heap.size v2 es _ (fun _ => True) 2 none 0 0 [] w2 hs2 HS.out (Flat.nil _ _ _) (by omega))
       have HF2 := Lib.hid hf2
       clear hs2 hf2)
    | (go_at_call 31
       (with_reducible refine HO.out.mono ?_)
       rintro ex w3 ⟨v3, rfl, ho3, hf3⟩
       have HF3 := Lib.hid (And.intro ho3 hf3)
       clear ho3 hf3))
  go_ret
  have f2 : Fr (fun _ => False) w w2 := HF1.out.trans' HF2.out (fun i x y => by omega)
  have hsz2 := f2.size
  exact ⟨_, rfl, (HF3.out.1.base hsz2).mono (fun k _ x => Nat.le_trans hsz2 x), f2.trans HF3.out.2⟩

/-! Ahead, in plain Lean. -/
def skipB (es : List Ev) (th : Int) (n : Nat) : Bool := (es.getD n default).th != th || (es.getD n default).k == 5
/-- The last event ahead of n that is the thread's own and no wake; -1 if there is none. -/
def backK (es : List Ev) (th : Int) : Nat → Int
  | 0 => -1
  | n + 1 => if skipB es th n then backK es th n else n
theorem backK_lt (es : List Ev) (th : Int) : ∀ n, -1 ≤ backK es th n ∧ backK es th n < n
  | 0 => by unfold backK; omega
  | n + 1 => by
    have := backK_lt es th n
    unfold backK
    split <;> omega
def begins (a e : Ev) : Bool := a.k == 1 && a.pr == e.pr && a.tr == e.tr
def okAt (es : List Ev) (i : Nat) : Bool :=
  (es.getD i default).k != 2 || (!decide (backK es (es.getD i default).th i < 0) && begins (es.getD (backK es (es.getD i default).th i).toNat default) (es.getD i default))
def aheadB (es : List Ev) : Bool := (List.range es.length).all (okAt es)
theorem aheadB_true {es : List Ev} (h : ∀ i, i < es.length → okAt es i = true) : aheadB es = true := by
  unfold aheadB
  rw [List.all_eq_true]
  intro i hi
  exact h i (List.mem_range.1 hi)
theorem aheadB_false {es : List Ev} {i : Nat} (hi : i < es.length) (h : okAt es i = false) : aheadB es = false := by
  unfold aheadB
  rw [List.all_eq_false]
  exact ⟨i, List.mem_range.2 hi, by rw [h]; decide⟩

set_option maxRecDepth 100000 in
set_option maxHeartbeats 8000000 in
theorem ahead_calls (u : Value) (es : List Ev) (G : Nat → Prop) (w : World) (hu : EvsAt w G u es) (hs : es.length ≤ 20000) :
    Calls Try.prog 13 #[u] w fun e w' => e = .returned (.bool (aheadB es)) ∧ Fr (fun _ => False) w w' := by
  obtain ⟨r, hr⟩ : ∃ r, r = aheadB es := ⟨_, rfl⟩
  rw [← hr]
  have HR := Lib.hid hr
  clear hr
  obtain ⟨A, c, cs, rfl, hc, _, _, hcs, hrow⟩ := id hu.ex
  have HCS := Lib.hid hcs
  have HROW := Lib.hid hrow
  clear hcs hrow hu
  generalize hn : es.length = n at *
  have HN := Lib.hid hn
  clear hn
  go_enter Try.func13, Try.ntmps13
  go_wp2
  go_loopw [3, 4, 5, 8] (fun _ _ _ v8 wr => ∃ i : Nat, i ≤ n ∧ v8 = .int .i64 i ∧ (∀ j, j < i → okAt es j = true) ∧ Fr (fun _ => False) w wr) (fun _ _ _ v8 _ => n - (intOf v8).toNat)
  case atStart => exact ⟨0, Nat.zero_le _, rfl, fun j hj => absurd hj (Nat.not_lt_zero _), Fr.refl _ _⟩
  case round =>
    obtain ⟨i, hi, rfl, hok, hf⟩ := hrel
    have HOK := Lib.hid hok
    have HF := Lib.hid hf
    clear hok hf
    by_cases hlt : i < n
    · obtain ⟨ad, rfl, _, h1⟩ := HCS.out (by omega)
      obtain ⟨A1, n1, c1, A2, n2, c2, A3, n3, c3, hra, _⟩ := HROW.out i hlt
      have HCE := Lib.hid (fun w' (hf : Fr (fun _ => False) w w') t u (ht : cs[t]? = some u) => hf.cell (h1 t u ht) (fun x => x))
      obtain ⟨p0, p1, p2, p3, p4, p5, p6, p7, p8, p9⟩ := row_cells (HCE.out _ HF.out) hra
      have HOI := Lib.hid (show okAt es i = _ from rfl)
      have HX := Lib.hid (show es.getD i default = es.getD i default from rfl)
      obtain ⟨x, hx⟩ : ∃ x, es.getD i default = x := ⟨_, rfl⟩
      have HXX := Lib.hid hx
      rw [hx] at p0 p1 p2 p3 p4 p5 p6
      have hFa := HF.out.alloc (.cells #[.int .i64 x.k, .int .i64 x.th, .int .i64 x.pr, .int .i64 x.tr, .int .i64 x.ti, .int .i64 x.st, .int .i64 x.ca, .slice A1 n1 c1, .slice A2 n2 c2, .slice A3 n3 c3] 50)
      have HFA := Lib.hid hFa
      have HB := Lib.hid (fun w' (hf : Fr (fun _ => False) (wr.alloc (.cells #[.int .i64 x.k, .int .i64 x.th, .int .i64 x.pr, .int .i64 x.tr, .int .i64 x.ti, .int .i64 x.st, .int .i64 x.ca, .slice A1 n1 c1, .slice A2 n2 c2, .slice A3 n3 c3] 50)) w') => box10 (e := x) (x := .slice A1 n1 c1) (y := .slice A2 n2 c2) (z := .slice A3 n3 c3) (hf.heap (heap_alloc_new wr _) (fun x => x)))
      clear hFa hx hra h1 HX
      have hm : ¬ n ≤ i := by omega
      by_cases hk2 : x.k = 2
      · have hkd : (x.k != 2) = false := by simp [hk2]
        have HK2 := Lib.hid hk2
        clear hk2
        go_wp2
        generalize hib : wr.heap.size = ib at *
        generalize hw1 : wr.alloc (.cells #[.int .i64 x.k, .int .i64 x.th, .int .i64 x.pr, .int .i64 x.tr, .int .i64 x.ti, .int .i64 x.st, .int .i64 x.ca, .slice A1 n1 c1, .slice A2 n2 c2, .slice A3 n3 c3] 50) = w1 at *
        clear hib hw1 p0 p1 p2 p3 p4 p5 p6 p7 p8 p9
        have hw : IntKind.i64.wrap ((i : Int) - 1) = (i : Int) - 1 := by rw [IntKind.wrap_i64]; omega
        have HFAX := Lib.hid (show Fr (fun _ => False) w w1 from HFA.out)
        go_loopw [5] (fun v5 wq => ∃ (m : Nat) (k : Int), m ≤ i ∧ k = m - 1 ∧ v5 = .int .i64 k ∧ backK es x.th m = backK es x.th i ∧ Fr (fun _ => False) w1 wq) (fun v5 _ => (intOf v5 + 1).toNat)
        case atStart => exact ⟨i, (i : Int) - 1, Nat.le_refl _, rfl, by first | rfl | (simp [hw]; done) | go_num, rfl, Fr.refl _ _⟩
        case round =>
          obtain ⟨m, k, hmi, hk, rfl, hbk, hf2⟩ := hrel
          have HF2 := Lib.hid hf2
          have HBK := Lib.hid hbk
          obtain ⟨b0, b1, b2, b3, b4, b5, b6, b7, b8, b9⟩ := HB.out _ hf2
          clear hbk hf2
          rcases Nat.eq_zero_or_pos m with rfl | hm0
          · obtain rfl : k = -1 := by omega
            clear hk
            have HB0 := Lib.hid (show backK es x.th i = -1 from HBK.out.symm)
            go_wp2
            go_quiet (fail)
            go_wp2
            go_quiet (fail)
            go_wp2
            go_ret
            exact ⟨by first | (rw [HR.out, aheadB_false (i := i) (by rw [HN.out]; exact hlt) (by unfold okAt; rw [HXX.out, hkd, HB0.out]; rfl)]; done) | (rw [HR.out, aheadB_false (i := i) (by rw [HN.out]; exact hlt) (by unfold okAt; rw [HXX.out, hkd, HB0.out]; rfl)]; rfl), HFA.out.trans ((HF2.out.drewN _).drewN _)⟩
          · obtain ⟨t, rfl⟩ : ∃ t, m = t + 1 := ⟨m - 1, by omega⟩
            obtain rfl : k = (t : Int) := by omega
            clear hk
            have hti : t < n := by omega
            have htn : ¬ n ≤ t := by omega
            have e0 : decide ((t : Int) < 0) = false := by simp
            have e00 : decide ((0 : Int) ≤ (t : Int)) = true := by simp
            obtain ⟨D1, m1, d1, D2, m2, d2, D3, m3, d3, hrb, _⟩ := HROW.out t hti
            obtain ⟨y0, y1, y2, y3, y4, y5, y6, y7, y8, y9⟩ := row_cells (HCE.out _ (HFA.out.trans HF2.out)) hrb
            have HSK := Lib.hid (show backK es x.th (t + 1) = if skipB es x.th t then backK es x.th t else t from rfl)
            have HSB := Lib.hid (show skipB es x.th t = ((es.getD t default).th != x.th || (es.getD t default).k == 5) from rfl)
            obtain ⟨y, hy⟩ : ∃ y, es.getD t default = y := ⟨_, rfl⟩
            have HYY := Lib.hid hy
            rw [hy] at y0 y1 y2 y3 y4 y5 y6 HSB
            clear hy hrb
            have hw2 : IntKind.i64.wrap ((t : Int) - 1) = (t : Int) - 1 := by rw [IntKind.wrap_i64]; omega
            have hcase : (y.th != x.th) = true ∨ ((y.th != x.th) = false ∧ (y.k == 5) = true) ∨ ((y.th != x.th) = false ∧ (y.k == 5) = false) := by cases (y.th != x.th) <;> cases (y.k == 5) <;> simp
            rcases hcase with e1 | ⟨e1, e2⟩ | ⟨e1, e2⟩
            · have HS1 := Lib.hid (show backK es x.th t = backK es x.th i from by
                rw [← HBK.out, HSK.out, HSB.out]; rw [e1]; rfl)
              go_wp2
              go_quiet (fail)
              go_wp2
              go_roundw
              case rel => exact ⟨t, (t : Int) - 1, by omega, rfl, by first | rfl | (simp [hw2]; done) | go_num, HS1.out, HF2.out.drewN _⟩
              case measure => simp [intOf]
            · have HS1 := Lib.hid (show backK es x.th t = backK es x.th i from by
                rw [← HBK.out, HSK.out, HSB.out]; rw [e1, e2]; rfl)
              go_wp2
              go_quiet (fail)
              go_wp2
              go_roundw
              case rel => exact ⟨t, (t : Int) - 1, by omega, rfl, by first | rfl | (simp [hw2]; done) | go_num, HS1.out, HF2.out.drewN _⟩
              case measure => simp [intOf]
            · have HS1 := Lib.hid (show backK es x.th i = (t : Int) from by
                rw [← HBK.out, HSK.out, HSB.out]; rw [e1, e2]; rfl)
              have HTD := Lib.hid (show okAt es i = begins y x from by
                unfold okAt
                rw [HXX.out, hkd, HS1.out, show decide ((t : Int) < 0) = false by simp, Int.toNat_natCast, HYY.out]; rfl)
              have hc2 : (y.k != 1) = true ∨ ((y.k != 1) = false ∧ (y.pr != x.pr) = true) ∨ ((y.k != 1) = false ∧ (y.pr != x.pr) = false ∧ (y.tr != x.tr) = true) ∨ ((y.k != 1) = false ∧ (y.pr != x.pr) = false ∧ (y.tr != x.tr) = false) := by cases (y.k != 1) <;> cases (y.pr != x.pr) <;> cases (y.tr != x.tr) <;> simp
              rcases hc2 with g1 | ⟨g1, g2⟩ | ⟨g1, g2, g3⟩ | ⟨g1, g2, g3⟩
              · have g1b : (y.k == 1) = false := by simpa using g1
                go_wp2
                go_quiet (fail)
                go_wp2
                go_quiet (fail)
                go_wp2
                go_ret
                exact ⟨by first | (rw [HR.out, aheadB_false (i := i) (by rw [HN.out]; exact hlt) (by rw [HTD.out]; unfold begins; simp at g1; simp [g1])]; done) | (rw [HR.out, aheadB_false (i := i) (by rw [HN.out]; exact hlt) (by rw [HTD.out]; unfold begins; simp at g1; simp [g1])]; rfl), HFA.out.trans ((HF2.out.drewN _).drewN _)⟩
              · have g2b : (y.pr == x.pr) = false := by simpa using g2
                go_wp2
                go_quiet (fail)
                go_wp2
                go_quiet (fail)
                go_wp2
                go_ret
                exact ⟨by first | (rw [HR.out, aheadB_false (i := i) (by rw [HN.out]; exact hlt) (by rw [HTD.out]; unfold begins; simp at g2; simp [g2])]; done) | (rw [HR.out, aheadB_false (i := i) (by rw [HN.out]; exact hlt) (by rw [HTD.out]; unfold begins; simp at g2; simp [g2])]; rfl), HFA.out.trans ((HF2.out.drewN _).drewN _)⟩
              · go_wp2
                go_quiet (fail)
                go_wp2
                go_quiet (fail)
                go_wp2
                go_ret
                exact ⟨by first | (rw [HR.out, aheadB_false (i := i) (by rw [HN.out]; exact hlt) (by rw [HTD.out]; unfold begins; simp at g3; simp [g3])]; done) | (rw [HR.out, aheadB_false (i := i) (by rw [HN.out]; exact hlt) (by rw [HTD.out]; unfold begins; simp at g3; simp [g3])]; rfl), HFA.out.trans ((HF2.out.drewN _).drewN _)⟩
              · have HTT := Lib.hid (show okAt es i = true from by rw [HTD.out]; unfold begins; simp at g1 g2 g3; simp [g1, g2, g3])
                go_wp2
                go_quiet (fail)
                go_wp2
                go_quiet (fail)
                go_wp2
                go_roundw
                case rel => exact ⟨i + 1, by omega, by go_num, fun j hj => by
                  rcases Nat.lt_succ_iff_lt_or_eq.1 hj with h | rfl
                  · exact HOK.out j h
                  · exact HTT.out, HFA.out.trans (HF2.out.drewN _)⟩
                case measure => simp [intOf]; omega
      · have hkd : (x.k != 2) = true := by simpa using hk2
        have HKK := Lib.hid (show okAt es i = true by unfold okAt; rw [HXX.out, hkd]; rfl)
        clear hk2
        go_wp2
        go_roundw
        case rel => exact ⟨i + 1, by omega, by go_num, fun j hj => by
          rcases Nat.lt_succ_iff_lt_or_eq.1 hj with h | rfl
          · exact HOK.out j h
          · exact HKK.out, HFA.out⟩
        case measure => simp [intOf]; omega
    · obtain rfl : i = n := by omega
      go_wp2
      go_ret
      exact ⟨by first | (rw [HR.out, aheadB_true (fun j hj => HOK.out j (by rw [HN.out] at hj; exact hj))]; done) | (rw [HR.out, aheadB_true (fun j hj => HOK.out j (by rw [HN.out] at hj; exact hj))]; rfl), HF.out⟩
end Go.Proofs.Ytkaokhpaabfhmaa
