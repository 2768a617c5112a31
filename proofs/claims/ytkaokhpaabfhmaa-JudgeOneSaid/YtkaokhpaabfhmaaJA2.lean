/- judge.Commits, judge.Ahead, judge.Serial where nothing commits; events without lists; the plain law of begins. -/
import Derived.Test.YtkaokhpaabfhmaaEvB
import Derived.Test.YtkaokhpaabfhmaaP9
import Derived.Deep.RegionLaw
namespace Go.Proofs.Ytkaokhpaabfhmaa
open Go.RowKit


set_option maxRecDepth 100000 in
theorem commits_calls (u : Value) (es : List Ev) (G : Nat → Prop) (w : World) (hu : EvsAt w G u es) (hs : Smalls es) :
    Calls Try.prog 16 #[u] w fun e w' => ∃ v', e = .returned v' ∧ EvsOwn 50 w.heap.size w' (fun k => w.heap.size ≤ k) v' (es.filter (·.keeps 2 [])) ∧ Fr (fun _ => False) w w' := by
  have HU := Lib.hid (fun w' (hf : Fr (fun _ => False) w w') => hu.frame hf (fun _ _ x => x.elim))
  have HS := Lib.hid hs
  obtain ⟨A, c, cs, rfl, _⟩ := id hu.ex
  clear hu hs
  go_enter Try.func16, Try.ntmps16
  go_wp2_with (first
    | (go_at_call 29
       (with_reducible refine (storyNew_calls w).mono ?_)
       rintro ex w1 ⟨rfl, hs1, hf1, hz1⟩
       have HA := Lib.hid (storyAdd_calls w.heap.size _ _ [] es _ G w1 hs1 (HU.out _ hf1) (by simp) HS.out)
       have HF1 := Lib.hid hf1
       clear hs1 hf1)
    | (go_at_call 30
       (with_reducible refine HA.out.mono ?_)
       rintro ex w2 ⟨rfl, ⟨v2, hs2⟩, hf2⟩
       rw [List.nil_append] at hs2
       have HO := Lib.hid (storyOf_calls w.heap.size v2 es _ (fun _ => True) 2 none 0 0 [] w2 hs2 HS.out (Flat.nil _ _ _) (by omega))
       have HF2 := Lib.hid hf2
       clear hs2 hf2)
    | (go_at_call 31
       (with_reducible refine HO.out.mono ?_)
       rintro ex w3 ⟨v3, rfl, ho3, hf3⟩
       have HF3 := Lib.hid (And.intro ho3 hf3)
       clear ho3 hf3))
  go_ret
  have f2 : Fr (fun _ => False) w w2 := HF1.out.trans' HF2.out (fun i x y => by omega)
  have hsz2 := f2.size
  exact ⟨_, rfl, (HF3.out.1.base hsz2).mono (fun k _ x => Nat.le_trans hsz2 x), f2.trans HF3.out.2⟩

/-! Ahead, in plain Lean. -/
def skipB (es : List Ev) (th : Int) (n : Nat) : Bool := (es.getD n default).th != th || (es.getD n default).k == 5
/-- The last event ahead of n that is the thread's own and no wake; -1 if there is none. -/
def backK (es : List Ev) (th : Int) : Nat → Int
  | 0 => -1
  | n + 1 => if skipB es th n then backK es th n else n
theorem backK_lt (es : List Ev) (th : Int) : ∀ n, -1 ≤ backK es th n ∧ backK es th n < n
  | 0 => by unfold backK; omega
  | n + 1 => by
    have := backK_lt es th n
    unfold backK
    split <;> omega
def begins (a e : Ev) : Bool := a.k == 1 && a.pr == e.pr && a.tr == e.tr
def okAt (es : List Ev) (i : Nat) : Bool :=
  (es.getD i default).k != 2 || (!decide (backK es (es.getD i default).th i < 0) && begins (es.getD (backK es (es.getD i default).th i).toNat default) (es.getD i default))
def aheadB (es : List Ev) : Bool := (List.range es.length).all (okAt es)
theorem aheadB_true {es : List Ev} (h : ∀ i, i < es.length → okAt es i = true) : aheadB es = true := by
  unfold aheadB
  rw [List.all_eq_true]
  intro i hi
  exact h i (List.mem_range.1 hi)
theorem aheadB_false {es : List Ev} {i : Nat} (hi : i < es.length) (h : okAt es i = false) : aheadB es = false := by
  unfold aheadB
  rw [List.all_eq_false]
  exact ⟨i, List.mem_range.2 hi, by rw [h]; decide⟩

set_option maxRecDepth 100000 in
set_option maxHeartbeats 8000000 in
theorem ahead_calls (u : Value) (es : List Ev) (G : Nat → Prop) (w : World) (hu : EvsAt w G u es) (hs : es.length ≤ 20000) :
    Calls Try.prog 13 #[u] w fun e w' => e = .returned (.bool (aheadB es)) ∧ Fr (fun _ => False) w w' := by
  obtain ⟨r, hr⟩ : ∃ r, r = aheadB es := ⟨_, rfl⟩
  rw [← hr]
  have HR := Lib.hid hr
  clear hr
  obtain ⟨A, c, cs, rfl, hc, _, _, hcs, hrow⟩ := id hu.ex
  have HCS := Lib.hid hcs
  have HROW := Lib.hid hrow
  clear hcs hrow hu
  generalize hn : es.length = n at *
  have HN := Lib.hid hn
  clear hn
  go_enter Try.func13, Try.ntmps13
  go_wp2
  go_loopw [3, 4, 5, 8] (fun _ _ _ v8 wr => ∃ i : Nat, i ≤ n ∧ v8 = .int .i64 i ∧ (∀ j, j < i → okAt es j = true) ∧ Fr (fun _ => False) w wr) (fun _ _ _ v8 _ => n - (intOf v8).toNat)
  case atStart => exact ⟨0, Nat.zero_le _, rfl, fun j hj => absurd hj (Nat.not_lt_zero _), Fr.refl _ _⟩
  case round =>
    obtain ⟨i, hi, rfl, hok, hf⟩ := hrel
    have HOK := Lib.hid hok
    have HF := Lib.hid hf
    clear hok hf
    by_cases hlt : i < n
    · obtain ⟨ad, rfl, _, h1⟩ := HCS.out (by omega)
      obtain ⟨A1, n1, c1, A2, n2, c2, A3, n3, c3, hra, _⟩ := HROW.out i hlt
      have HCE := Lib.hid (fun w' (hf : Fr (fun _ => False) w w') t u (ht : cs[t]? = some u) => hf.cell (h1 t u ht) (fun x => x))
      obtain ⟨p0, p1, p2, p3, p4, p5, p6, p7, p8, p9⟩ := row_cells (HCE.out _ HF.out) hra
      have HOI := Lib.hid (show okAt es i = _ from rfl)
      have HX := Lib.hid (show es.getD i default = es.getD i default from rfl)
      obtain ⟨x, hx⟩ : ∃ x, es.getD i default = x := ⟨_, rfl⟩
      have HXX := Lib.hid hx
      rw [hx] at p0 p1 p2 p3 p4 p5 p6
      have hFa := HF.out.alloc (.cells #[.int .i64 x.k, .int .i64 x.th, .int .i64 x.pr, .int .i64 x.tr, .int .i64 x.ti, .int .i64 x.st, .int .i64 x.ca, .slice A1 n1 c1, .slice A2 n2 c2, .slice A3 n3 c3] 50)
      have HFA := Lib.hid hFa
      have HB := Lib.hid (fun w' (hf : Fr (fun _ => False) (wr.alloc (.cells #[.int .i64 x.k, .int .i64 x.th, .int .i64 x.pr, .int .i64 x.tr, .int .i64 x.ti, .int .i64 x.st, .int .i64 x.ca, .slice A1 n1 c1, .slice A2 n2 c2, .slice A3 n3 c3] 50)) w') => box10 (e := x) (x := .slice A1 n1 c1) (y := .slice A2 n2 c2) (z := .slice A3 n3 c3) (hf.heap (heap_alloc_new wr _) (fun x => x)))
      clear hFa hx hra h1 HX
      have hm : ¬ n ≤ i := by omega
      by_cases hk2 : x.k = 2
      · have hkd : (x.k != 2) = false := by simp [hk2]
        have HK2 := Lib.hid hk2
        clear hk2
        go_wp2
        generalize hib : wr.heap.size = ib at *
        generalize hw1 : wr.alloc (.cells #[.int .i64 x.k, .int .i64 x.th, .int .i64 x.pr, .int .i64 x.tr, .int .i64 x.ti, .int .i64 x.st, .int .i64 x.ca, .slice A1 n1 c1, .slice A2 n2 c2, .slice A3 n3 c3] 50) = w1 at *
        clear hib hw1 p0 p1 p2 p3 p4 p5 p6 p7 p8 p9
        have hw : IntKind.i64.wrap ((i : Int) - 1) = (i : Int) - 1 := by rw [IntKind.wrap_i64]; omega
        have HFAX := Lib.hid (show Fr (fun _ => False) w w1 from HFA.out)
        go_loopw [5] (fun v5 wq => ∃ (m : Nat) (k : Int), m ≤ i ∧ k = m - 1 ∧ v5 = .int .i64 k ∧ backK es x.th m = backK es x.th i ∧ Fr (fun _ => False) w1 wq) (fun v5 _ => (intOf v5 + 1).toNat)
        case atStart => exact ⟨i, (i : Int) - 1, Nat.le_refl _, rfl, by first | rfl | (simp [hw]; done) | go_num, rfl, Fr.refl _ _⟩
        case round =>
          obtain ⟨m, k, hmi, hk, rfl, hbk, hf2⟩ := hrel
          have HF2 := Lib.hid hf2
          have HBK := Lib.hid hbk
          obtain ⟨b0, b1, b2, b3, b4, b5, b6, b7, b8, b9⟩ := HB.out _ hf2
          clear hbk hf2
          rcases Nat.eq_zero_or_pos m with rfl | hm0
          · obtain rfl : k = -1 := by omega
            clear hk
            have HB0 := Lib.hid (show backK es x.th i = -1 from HBK.out.symm)
            go_wp2
            go_quiet (fail)
            go_wp2
            go_quiet (fail)
            go_wp2
            go_ret
            exact ⟨by first | (rw [HR.out, aheadB_false (i := i) (by rw [HN.out]; exact hlt) (by unfold okAt; rw [HXX.out, hkd, HB0.out]; rfl)]; done) | (rw [HR.out, aheadB_false (i := i) (by rw [HN.out]; exact hlt) (by unfold okAt; rw [HXX.out, hkd, HB0.out]; rfl)]; rfl), HFA.out.trans ((HF2.out.drewN _).drewN _)⟩
          · obtain ⟨t, rfl⟩ : ∃ t, m = t + 1 := ⟨m - 1, by omega⟩
            obtain rfl : k = (t : Int) := by omega
            clear hk
            have hti : t < n := by omega
            have htn : ¬ n ≤ t := by omega
            have e0 : decide ((t : Int) < 0) = false := by simp
            have e00 : decide ((0 : Int) ≤ (t : Int)) = true := by simp
            obtain ⟨D1, m1, d1, D2, m2, d2, D3, m3, d3, hrb, _⟩ := HROW.out t hti
            obtain ⟨y0, y1, y2, y3, y4, y5, y6, y7, y8, y9⟩ := row_cells (HCE.out _ (HFA.out.trans HF2.out)) hrb
            have HSK := Lib.hid (show backK es x.th (t + 1) = if skipB es x.th t then backK es x.th t else t from rfl)
            have HSB := Lib.hid (show skipB es x.th t = ((es.getD t default).th != x.th || (es.getD t default).k == 5) from rfl)
            obtain ⟨y, hy⟩ : ∃ y, es.getD t default = y := ⟨_, rfl⟩
            have HYY := Lib.hid hy
            rw [hy] at y0 y1 y2 y3 y4 y5 y6 HSB
            clear hy hrb
            have hw2 : IntKind.i64.wrap ((t : Int) - 1) = (t : Int) - 1 := by rw [IntKind.wrap_i64]; omega
            have hcase : (y.th != x.th) = true ∨ ((y.th != x.th) = false ∧ (y.k == 5) = true) ∨ ((y.th != x.th) = false ∧ (y.k == 5) = false) := by cases (y.th != x.th) <;> cases (y.k == 5) <;> simp
            rcases hcase with e1 | ⟨e1, e2⟩ | ⟨e1, e2⟩
            · have HS1 := Lib.hid (show backK es x.th t = backK es x.th i from by
                rw [← HBK.out, HSK.out, HSB.out]; rw [e1]; rfl)
              go_wp2
              go_quiet (fail)
              go_wp2
              go_roundw
              case rel => exact ⟨t, (t : Int) - 1, by omega, rfl, by first | rfl | (simp [hw2]; done) | go_num, HS1.out, HF2.out.drewN _⟩
              case measure => simp [intOf]
            · have HS1 := Lib.hid (show backK es x.th t = backK es x.th i from by
                rw [← HBK.out, HSK.out, HSB.out]; rw [e1, e2]; rfl)
              go_wp2
              go_quiet (fail)
              go_wp2
              go_roundw
              case rel => exact ⟨t, (t : Int) - 1, by omega, rfl, by first | rfl | (simp [hw2]; done) | go_num, HS1.out, HF2.out.drewN _⟩
              case measure => simp [intOf]
            · have HS1 := Lib.hid (show backK es x.th i = (t : Int) from by
                rw [← HBK.out, HSK.out, HSB.out]; rw [e1, e2]; rfl)
              have HTD := Lib.hid (show okAt es i = begins y x from by
                unfold okAt
                rw [HXX.out, hkd, HS1.out, show decide ((t : Int) < 0) = false by simp, Int.toNat_natCast, HYY.out]; rfl)
              have hc2 : (y.k != 1) = true ∨ ((y.k != 1) = false ∧ (y.pr != x.pr) = true) ∨ ((y.k != 1) = false ∧ (y.pr != x.pr) = false ∧ (y.tr != x.tr) = true) ∨ ((y.k != 1) = false ∧ (y.pr != x.pr) = false ∧ (y.tr != x.tr) = false) := by cases (y.k != 1) <;> cases (y.pr != x.pr) <;> cases (y.tr != x.tr) <;> simp
              rcases hc2 with g1 | ⟨g1, g2⟩ | ⟨g1, g2, g3⟩ | ⟨g1, g2, g3⟩
              · have g1b : (y.k == 1) = false := by simpa using g1
                go_wp2
                go_quiet (fail)
                go_wp2
                go_quiet (fail)
                go_wp2
                go_ret
                exact ⟨by first | (rw [HR.out, aheadB_false (i := i) (by rw [HN.out]; exact hlt) (by rw [HTD.out]; unfold begins; simp at g1; simp [g1])]; done) | (rw [HR.out, aheadB_false (i := i) (by rw [HN.out]; exact hlt) (by rw [HTD.out]; unfold begins; simp at g1; simp [g1])]; rfl), HFA.out.trans ((HF2.out.drewN _).drewN _)⟩
              · have g2b : (y.pr == x.pr) = false := by simpa using g2
                go_wp2
                go_quiet (fail)
                go_wp2
                go_quiet (fail)
                go_wp2
                go_ret
                exact ⟨by first | (rw [HR.out, aheadB_false (i := i) (by rw [HN.out]; exact hlt) (by rw [HTD.out]; unfold begins; simp at g2; simp [g2])]; done) | (rw [HR.out, aheadB_false (i := i) (by rw [HN.out]; exact hlt) (by rw [HTD.out]; unfold begins; simp at g2; simp [g2])]; rfl), HFA.out.trans ((HF2.out.drewN _).drewN _)⟩
              · go_wp2
                go_quiet (fail)
                go_wp2
                go_quiet (fail)
                go_wp2
                go_ret
                exact ⟨by first | (rw [HR.out, aheadB_false (i := i) (by rw [HN.out]; exact hlt) (by rw [HTD.out]; unfold begins; simp at g3; simp [g3])]; done) | (rw [HR.out, aheadB_false (i := i) (by rw [HN.out]; exact hlt) (by rw [HTD.out]; unfold begins; simp at g3; simp [g3])]; rfl), HFA.out.trans ((HF2.out.drewN _).drewN _)⟩
              · have HTT := Lib.hid (show okAt es i = true from by rw [HTD.out]; unfold begins; simp at g1 g2 g3; simp [g1, g2, g3])
                go_wp2
                go_quiet (fail)
                go_wp2
                go_quiet (fail)
                go_wp2
                go_roundw
                case rel => exact ⟨i + 1, by omega, by go_num, fun j hj => by
                  rcases Nat.lt_succ_iff_lt_or_eq.1 hj with h | rfl
                  · exact HOK.out j h
                  · exact HTT.out, HFA.out.trans (HF2.out.drewN _)⟩
                case measure => simp [intOf]; omega
      · have hkd : (x.k != 2) = true := by simpa using hk2
        have HKK := Lib.hid (show okAt es i = true by unfold okAt; rw [HXX.out, hkd]; rfl)
        clear hk2
        go_wp2
        go_roundw
        case rel => exact ⟨i + 1, by omega, by go_num, fun j hj => by
          rcases Nat.lt_succ_iff_lt_or_eq.1 hj with h | rfl
          · exact HOK.out j h
          · exact HKK.out, HFA.out⟩
        case measure => simp [intOf]; omega
    · obtain rfl : i = n := by omega
      go_wp2
      go_ret
      exact ⟨by first | (rw [HR.out, aheadB_true (fun j hj => HOK.out j (by rw [HN.out] at hj; exact hj))]; done) | (rw [HR.out, aheadB_true (fun j hj => HOK.out j (by rw [HN.out] at hj; exact hj))]; rfl), HF.out⟩



set_option maxRecDepth 100000 in
set_option maxHeartbeats 2000000 in
theorem serialRange_calls (c : Conf) (H : Option Addr) (hn hcap : Nat) (T : Option Addr) (tn tc : Nat) (U : Option Addr) (un uc : Nat) (w : World) (hw : (hn : Int) ≠ c.words) :
    Calls Try.prog 10 #[c.val, .slice H hn hcap, .slice T tn tc, .slice U un uc] w fun e w' => e = .returned (.tuple #[.slice none 0 0, .int .i64 1]) ∧ Fr (fun _ => False) w w' := by
  have HW := Lib.hid (words_calls c)
  have hd : ((hn : Int) != c.words) = true := by simpa using hw
  clear hw
  unfold Conf.val at *
  have hk := (Fr.refl (fun _ => False) w).alloc (.cells #[.int .i64 c.r, .int .i64 c.o, .int .i64 c.s, .int .i64 c.wd, .int .i64 c.th, .int .i64 c.sl, .int .i64 c.rg, .int .i64 c.lk, .int .i64 c.un, .int .i64 c.es, .int .i64 c.tk, .int .i64 c.po] 23)
  go_enter Try.func10, Try.ntmps10
  go_wp2_with (go_at_call 23; (with_reducible refine (HW.out _).mono ?_); rintro ex w4 ⟨rfl, hf4⟩; replace hk := hk.trans hf4; clear hf4)
  refine bodyPost_ret (by simp [results, Try.results10, go_sem]; try rfl) rfl ⟨rfl, hk⟩

set_option maxRecDepth 100000 in
set_option maxHeartbeats 2000000 in
theorem serial0_calls (c : Conf) (H : Option Addr) (hn hcap : Nat) (heap : List Int) (T : Option Addr) (tn tc : Nat) (u : Value) (es : List Ev) (F G : Nat → Prop) (w : World) (hh : Flat w F H hn heap) (h2 : hn ≤ 20000) (hw : (hn : Int) = c.words) (hu : EvsAt w G u es) (hs : Smalls es) (he : es.filter (·.keeps 2 []) = []) :
    Calls Try.prog 10 #[c.val, .slice H hn hcap, .slice T tn tc, u] w fun e w' => ∃ A' c', e = .returned (.tuple #[.slice A' hn c', .int .i64 0]) ∧ Flat w' (fun k => w.heap.size ≤ k) A' hn heap ∧ Fr (fun _ => False) w w' := by
  have HW := Lib.hid (words_calls c)
  have hd : ((hn : Int) != c.words) = false := by simpa using hw
  have HC := Lib.hid (fun w' (hf : Fr (fun _ => False) w w') => cloneInts_calls H hn hcap heap F w' (hh.frame hf (fun _ _ x => x.elim)) h2)
  have HK := Lib.hid (fun w' (hf : Fr (fun _ => False) w w') => commits_calls u es G w' (hu.frame hf (fun _ _ x => x.elim)) hs)
  rw [he] at HK
  obtain ⟨U, uc, ucs, rfl, _⟩ := id hu.ex
  clear hw hh hu hs he
  unfold Conf.val at *
  have hk := (Fr.refl (fun _ => False) w).alloc (.cells #[.int .i64 c.r, .int .i64 c.o, .int .i64 c.s, .int .i64 c.wd, .int .i64 c.th, .int .i64 c.sl, .int .i64 c.rg, .int .i64 c.lk, .int .i64 c.un, .int .i64 c.es, .int .i64 c.tk, .int .i64 c.po] 23)
  go_enter Try.func10, Try.ntmps10
  go_wp2_with (first
    | (go_at_call 23
       (with_reducible refine (HW.out _).mono ?_)
       rintro ex w4 ⟨rfl, hf4⟩
       replace hk := hk.trans hf4
       clear hf4)
    | (go_at_call 24
       (with_reducible refine (HC.out _ hk).mono ?_)
       rintro ex w5 ⟨A5, c5, rfl, hfl, hf5⟩
       have HFL := Lib.hid (hfl.mono (G := fun k => w.heap.size ≤ k) (fun k _ x => Nat.le_trans hk.size x))
       replace hk := hk.trans hf5
       clear hfl hf5)
    | (go_at_call 16
       (with_reducible refine (HK.out _ hk).mono ?_)
       rintro ex w6 ⟨v6, rfl, ho6, hf6⟩
       obtain ⟨A6, c6, rfl⟩ := ho6.shape
       simp only [List.length_nil]
       have HF6 := Lib.hid hf6
       have HK6 := Lib.hid (hk.trans hf6)
       clear ho6 hf6 hk))
  go_loopw [10, 12, 13, 14, 15, 26] (fun v10 _ _ _ _ v26 wr => v10 = .slice A5 hn c5 ∧ v26 = .int .i64 0 ∧ wr = w6) (fun _ _ _ _ _ _ _ => 0)
  case atStart => exact ⟨rfl, rfl, rfl⟩
  case round =>
    obtain ⟨rfl, rfl, rfl⟩ := hrel
    go_wp2
    refine bodyPost_ret (by simp [results, Try.results10, go_sem]; try rfl) rfl ⟨A5, c5, rfl, HFL.out.frame HF6.out (fun _ _ x => x.elim), HK6.out⟩

def c20 : Conf := ⟨1, 1, 1, 1, 2, 0, 1, 9, 1, 0, 9, 0⟩
theorem w20 : c20.words = 1 := by decide +kernel
theorem flatNew (w : World) (xs : List Int) {arr : Array Value} (T : TypeId) (h : arr = ints xs) {n : Nat} (hn : xs.length = n) {b : Nat} (hb : w.heap.size = b := by simp) : Flat (w.alloc (.cells arr T (0, 0))) (fun k => k = b) (some ⟨b, 0, none⟩) n xs := by
  subst h; subst hn; subst hb
  exact ⟨rfl, fun _ => ⟨_, rfl, rfl, fun i hi => by
    have h1 : (Addr.mk w.heap.size 0 none).add i = ⟨w.heap.size, i, none⟩ := by unfold Addr.add; split <;> simp_all
    rw [h1, blk_cell (heap_alloc_new w _), ints_get _ _ hi]⟩⟩
set_option maxRecDepth 100000 in
set_option maxHeartbeats 2000000 in
theorem first20_calls (w : World) : Calls Try.prog 7 #[] w fun e w' => e = .returned (.bool true) ∧ Fr (fun _ => False) w w' := by
  have hk := ((Fr.refl (fun _ => False) w).alloc (.cells #[.int .i64 1, .int .i64 1, .int .i64 1, .int .i64 1, .int .i64 2, .int .i64 0, .int .i64 1, .int .i64 9, .int .i64 1, .int .i64 0, .int .i64 9, .int .i64 0] 23)).alloc (.cells #[.int .i64 7] 3)
  have HS := Lib.hid (serial0_calls c20 _ 1 1 [7] none 0 0 (.slice none 0 0) [] _ (fun _ => True) _ (flatNew (w.alloc (.cells #[.int .i64 1, .int .i64 1, .int .i64 1, .int .i64 1, .int .i64 2, .int .i64 0, .int .i64 1, .int .i64 9, .int .i64 1, .int .i64 0, .int .i64 9, .int .i64 0] 23)) [7] (arr := #[.int .i64 7]) 3 rfl (n := 1) rfl (b := w.heap.size + 1)) (by decide) (by rw [w20]; rfl) (EvsAt.nil _ _) ⟨by simp, fun e he => by cases he⟩ rfl)
  unfold Conf.val at HS
  dsimp only [c20] at HS
  have HA := Lib.hid (fun w' => ahead_calls (.slice none 0 0) [] (fun _ => True) w' (EvsAt.nil _ _) (by simp))
  have HC := Lib.hid (fun w' => commits_calls (.slice none 0 0) [] (fun _ => True) w' (EvsAt.nil _ _) ⟨by simp, fun e he => by cases he⟩)
  rw [show aheadB [] = true from rfl] at HA
  go_enter Try.func7, Try.ntmps7
  go_wp2_with (first
    | (go_at_call 10
       (with_reducible refine HS.out.mono ?_)
       rintro ex w1 ⟨A1, c1, rfl, hfl, hf1⟩
       replace hk := hk.trans hf1
       have HFL := Lib.hid hfl
       clear hfl hf1)
    | (go_at_call 12
       (with_reducible refine (ints_calls _ _ _ _ _ _ [7] [7] _ _ _ (HFL.out.frame ((Fr.refl (fun _ => False) _).alloc (.cells #[.int .i64 7] 3)) (fun _ _ x => x.elim)) (by decide) (flatNew _ [7] (arr := #[.int .i64 7]) 3 rfl (n := 1) rfl (b := _) rfl)).mono ?_)
       rintro ex w2 ⟨rfl, hf2⟩
       replace hk := (hk.alloc (.cells #[.int .i64 7] 3)).trans hf2
       clear hf2)
    | (go_at_call 13
       (with_reducible refine (HA.out _).mono ?_)
       rintro ex w3 ⟨rfl, hf3⟩
       replace hk := hk.trans hf3
       clear hf3)
    | (go_at_call 16
       (with_reducible refine (HC.out _).mono ?_)
       rintro ex w4 ⟨v4, rfl, ho4, hf4⟩
       obtain ⟨A4, c4, rfl⟩ := ho4.shape
       simp only [List.filter_nil, List.length_nil] at ho4 ⊢
       replace hk := hk.trans hf4
       clear ho4 hf4))
  go_ret
  exact ⟨rfl, hk⟩



abbrev T3 := Int × Int × Int
def mkE (t : T3) : Ev := ⟨t.1, t.2.1, 0, t.2.2, 0, 0, 0, [], [], []⟩
def cE (t : T3) : List Value := [.int .i64 t.1, .int .i64 t.2.1, .int .i64 0, .int .i64 t.2.2, .int .i64 0, .int .i64 0, .int .i64 0, .slice none 0 0, .slice none 0 0, .slice none 0 0]
def cN : List T3 → List Value
  | [] => []
  | t :: ts => cE t ++ cN ts
theorem cN_len : ∀ ts : List T3, (cN ts).length = ts.length * 10
  | [] => rfl
  | t :: ts => by unfold cN; rw [List.length_append, cN_len ts, List.length_cons]; show 10 + _ = _; omega
theorem cN_append : ∀ a b : List T3, cN (a ++ b) = cN a ++ cN b
  | [], b => rfl
  | t :: ts, b => by show cE t ++ cN (ts ++ b) = (cE t ++ cN ts) ++ cN b; rw [cN_append ts b, List.append_assoc]
theorem cN_get : ∀ (ts : List T3) (i j : Nat), i < ts.length → j < 10 → (cN ts)[i * 10 + j]? = (cE (ts.getD i default))[j]?
  | t :: ts, 0, j, _, hj => by
    unfold cN
    rw [List.getElem?_append_left (show 0 * 10 + j < (cE t).length from by show 0 * 10 + j < 10; omega), show 0 * 10 + j = j by omega]; rfl
  | t :: ts, i + 1, j, hi, hj => by
    unfold cN
    rw [List.getElem?_append_right (show (cE t).length ≤ (i + 1) * 10 + j from by show 10 ≤ (i + 1) * 10 + j; omega), show (i + 1) * 10 + j - (cE t).length = i * 10 + j from by show (i + 1) * 10 + j - 10 = _; omega, cN_get ts i j (by simp at hi; omega) hj]
    rfl
theorem cN_one : ∀ (ts : List T3), ∀ u ∈ cN ts, u.oneCell' = true
  | [], u, h => by cases h
  | t :: ts, u, h => by
    unfold cN at h
    rcases List.mem_append.1 h with h | h
    · unfold cE at h
      simp only [List.mem_cons, List.not_mem_nil, or_false] at h
      rcases h with rfl | rfl | rfl | rfl | rfl | rfl | rfl | rfl | rfl | rfl <;> rfl
    · exact cN_one ts u h
def EvN (B : Nat) (w : World) (v : Value) (ts : List T3) : Prop := w.ownsRow B 50 10 v ts.length (cN ts)
theorem EvN.frame {B : Nat} {w w' : World} {v : Value} {ts : List T3} {S : Nat → Prop} (h : EvN B w v ts) (hf : Fr S w w') (hs : ∀ g, v.ownBlock = some g → ¬ S g) : EvN B w' v ts := ownsRow_frame h hf hs
theorem EvN.frameF {B : Nat} {w w' : World} {v : Value} {ts : List T3} (h : EvN B w v ts) (hf : Fr (fun _ => False) w w') : EvN B w' v ts := ownsRow_frame h hf (fun _ _ x => x)
theorem EvN.base {B C : Nat} {w : World} {v : Value} {ts : List T3} (h : EvN B w v ts) (hc : C ≤ B) : EvN C w v ts := ownsRow_base h hc
theorem EvN.nil (B : Nat) (w : World) : EvN B w (.slice none 0 0) [] := World.ownsRow_nil _ _ _ _
theorem EvN.shape {B : Nat} {w : World} {v : Value} {ts : List T3} (h : EvN B w v ts) : ∃ A c, v = .slice A ts.length c ∧ ts.length ≤ c ∧ (A = none → c = 0) ∧ (0 < ts.length → ∃ ad, A = some ad ∧ B ≤ ad.block ∧ ∀ j u, (cN ts)[j]? = some u → w.cell? (ad.add j) = some u) := by
  rcases id h.2 with ⟨rfl, h0⟩ | ⟨g, cap, cur, rfl, hb, hg, hn, hm, hs, ht⟩
  · exact ⟨none, 0, by rw [h0], by omega, fun _ => rfl, fun h => by omega⟩
  · refine ⟨_, cap, rfl, hn, ?_, fun _ => ?_⟩
    · intro e; cases e
    · exact ⟨_, rfl, hb, World.ownsRow.cells h (g := g) rfl⟩
theorem EvN.at_ {B : Nat} {w : World} {v : Value} {ts : List T3} (h : EvN B w v ts) : EvsAt w (fun _ => True) v (ts.map mkE) := by
  obtain ⟨A, c, rfl, hc, hA, hx⟩ := h.shape
  have hl : (ts.map mkE).length = ts.length := List.length_map ..
  refine ⟨A, c, cN ts, by rw [hl], by rw [hl]; exact hc, hA, by rw [hl, cN_len], fun h0 => ?_, fun i hi => ?_⟩
  · obtain ⟨ad, h1, _, h3⟩ := hx (by omega)
    exact ⟨ad, h1, trivial, h3⟩
  · rw [hl] at hi
    have he : (ts.map mkE).getD i default = mkE (ts.getD i default) := by
      rw [List.getD_eq_getElem?_getD, List.getElem?_map, List.getD_eq_getElem?_getD, List.getElem?_eq_getElem hi]; rfl
    rw [he]
    exact ⟨none, 0, 0, none, 0, 0, none, 0, 0, fun j hj => cN_get ts i j hi hj, ⟨Flat.nil _ _ _, Flat.nil _ _ _, Flat.nil _ _ _⟩⟩
theorem EvN.blk {B b : Nat} {w : World} {arr : Array Value} {ts : List T3} (h : w.heap[b]? = some (.cells arr 50 (0, 0))) (ha : arr.toList = cN ts) (hB : B ≤ b) (hl : ts.length ≤ 1000) : EvN B w (.slice (some ⟨b, 0, none⟩) ts.length ts.length) ts := by
  have hs : arr.size = ts.length * 10 := by rw [← Array.length_toList, ha, cN_len]
  refine ⟨by rw [cN_len], .inr ⟨b, ts.length, arr, rfl, hB, h, Nat.le_refl _, by unfold maxLen; omega, hs, ?_⟩⟩
  rw [ha, List.take_of_length_le (by rw [cN_len]; exact Nat.le_refl _)]
theorem evN_run (w : World) (ty : TypeId) (B : Nat) (v : Value) (ts : List T3) (h : EvN B w v ts) (A : Option Addr) (m c : Nat) (news : List T3) (Bs : Nat) (hs : EvN Bs w (.slice A m c) news) (hm : news.length = m) (hlen : ts.length + m ≤ 1000000) (hB : B ≤ w.heap.size) :
    ∃ v' w', (Builtin.append_ #[26, 26] ty #[v, .slice A m c]).run Try.prog w = .ok v' w' ∧ EvN B w' v' (ts ++ news) ∧ Fr (fun k => v.ownBlock = some k) w w' := by
  obtain ⟨A', c', e, hc, hA, hx⟩ := hs.shape
  cases e
  obtain ⟨v', w', hr, h2, h3⟩ := run_append_evs w ty B v ts.length (cN ts) h A news.length c (cN news) (cN_len news) hA hc (fun h0 => by obtain ⟨ad, g1, _, g3⟩ := hx h0; exact ⟨ad, g1, g3⟩) (cN_one news) hlen hB
  refine ⟨v', w', hr, ?_, h3⟩
  unfold EvN
  rw [List.length_append, cN_append]
  exact h2
theorem append_evN {ops : Array Oper} {rest : List Oper} {o : Oper} {a : Act} {Q : Exit → Act → World → Prop} (w : World) (hgd : o.guard = none) (s x : Operand)
    (ho : o.op = .call { callee := .builtin .append, args := #[s, x], argTypes := #[26, 26] }) (B : Nat)
    (v : Value) (ts : List T3) (hs : a.eval s = v) (hown : EvN B w v ts) (A : Option Addr) (m c : Nat) (news : List T3) (Bs : Nat) (hx : a.eval x = .slice A m c) (hsrc : EvN Bs w (.slice A m c) news) (hm : news.length = m) (hlen : ts.length + m ≤ 1000000) (hB : B ≤ w.heap.size)
    (h : ∀ v' w', EvN B w' v' (ts ++ news) → Fr (fun k => v.ownBlock = some k) w w' → wpList Try.prog ops Q rest (a.put o.dst v') w') : wpList Try.prog ops Q (o :: rest) a w :=
  wpList_plain hgd fun _ hK => by
    obtain ⟨v', w', hr, h2, h3⟩ := evN_run w o.type B v ts hown A m c news Bs hsrc hm hlen hB
    unfold Oper.wp execOp
    simp only [ho, resolve, invoke, builtin, Sem.run_bind, Sem.run_pure, Result.andThen_ok, List.map_toArray, List.map_cons, List.map_nil, hs, hx, hr]
    exact hK _ _ (h v' w' h2 h3)
theorem step_evN {ops : Array Oper} {o : Oper} {a : Act} {K : Act → World → Prop} {Q : Exit → Act → World → Prop} {E : Prop} (w : World) (hgd : o.guard = none) (s x : Operand)
    (ho : o.op = .call { callee := .builtin .append, args := #[s, x], argTypes := #[26, 26] }) (B : Nat)
    (v : Value) (ts : List T3) (hs : a.eval s = v) (hown : EvN B w v ts) (A : Option Addr) (m c : Nat) (news : List T3) (Bs : Nat) (hx : a.eval x = .slice A m c) (hsrc : EvN Bs w (.slice A m c) news) (hm : news.length = m) (hlen : ts.length + m ≤ 1000000) (hB : B ≤ w.heap.size)
    (h : ∀ v' w', EvN B w' v' (ts ++ news) → Fr (fun k => v.ownBlock = some k) w w' → K (a.put o.dst v') w') :
    if Region.wanted o (yielded ops a.tmps) = true then Oper.wp Try.prog o a w K Q else E := by
  have hw : Region.wanted o (yielded ops a.tmps) = true := by simp [Region.wanted, hgd]
  rw [if_pos hw]
  obtain ⟨v', w', hr, h2, h3⟩ := evN_run w o.type B v ts hown A m c news Bs hsrc hm hlen hB
  unfold Oper.wp execOp
  simp only [ho, resolve, invoke, builtin, Sem.run_bind, Sem.run_pure, Result.andThen_ok, List.map_toArray, List.map_cons, List.map_nil, hs, hx, hr]
  exact h v' w' h2 h3
theorem EvN.lt {B : Nat} {w : World} {v : Value} {ts : List T3} (h : EvN B w v ts) {g : Nat} (hg : v.ownBlock = some g) : B ≤ g ∧ g < w.heap.size := World.ownsRow.lt h g hg

/-! The law, in plain Lean. -/
theorem mkE_th (t : T3) : (mkE t).th = t.2.1 := rfl
def quietT (th : Int) (t : T3) : Prop := t.1 ≠ 2 ∧ (t.2.1 ≠ th ∨ t.1 = 5)
theorem back_const {es : List Ev} {th : Int} {m : Nat} (h0 : skipB es th m = false) : ∀ n, (∀ j, m < j → j < m + 1 + n → skipB es th j = true) → backK es th (m + 1 + n) = m
  | 0, _ => by
    show backK es th (m + 1) = m
    unfold backK
    rw [h0]; rfl
  | n + 1, h => by
    show backK es th (m + 1 + n + 1) = m
    unfold backK
    rw [h (m + 1 + n) (by omega) (by omega), if_pos rfl]
    exact back_const h0 n (fun j h1 h2 => h j h1 (by omega))
theorem getD_cons_l {b : T3} {M : List T3} {E : List T3} {j : Nat} (h : j < M.length) : ((b :: M ++ E).map mkE).getD (j + 1) default = mkE (M.getD j default) := by
  rw [List.getD_eq_getElem?_getD, List.getElem?_map, List.cons_append, List.getElem?_cons_succ, List.getElem?_append_left h, List.getD_eq_getElem?_getD, List.getElem?_eq_getElem h]; rfl
theorem getD_cons_r {b : T3} {M : List T3} {E : List T3} {j : Nat} (h : j < E.length) : ((b :: M ++ E).map mkE).getD (M.length + 1 + j) default = mkE (E.getD j default) := by
  rw [List.getD_eq_getElem?_getD, List.getElem?_map, List.cons_append, show M.length + 1 + j = M.length + j + 1 by omega, List.getElem?_cons_succ, List.getElem?_append_right (by omega), show M.length + j - M.length = j by omega, List.getD_eq_getElem?_getD, List.getElem?_eq_getElem h]; rfl
theorem quiet_skip {th : Int} {b : T3} {M E : List T3} (hM : ∀ t ∈ M, quietT th t) {j : Nat} (h : j < M.length) : skipB ((b :: M ++ E).map mkE) th (j + 1) = true := by
  have hq := hM (M.getD j default) (by rw [List.getD_eq_getElem?_getD, List.getElem?_eq_getElem h]; exact List.getElem_mem _)
  unfold skipB
  rw [getD_cons_l h]
  rcases hq.2 with h1 | h1
  · have : ((mkE (M.getD j default)).th != th) = true := by rw [mkE_th]; simpa using h1
    rw [this]; rfl
  · have : ((mkE (M.getD j default)).k == 5) = true := by show ((M.getD j default).1 == 5) = true; simpa using h1
    rw [this]; simp
/-- A begin, what is not its own, and the commit. -/
theorem ahead_mine {th tr : Int} {M : List T3} (hM : ∀ t ∈ M, quietT th t) : aheadB (((1, th, tr) :: M ++ [(2, th, tr)]).map mkE) = true := by
  refine aheadB_true fun i hi => ?_
  rw [List.length_map, List.length_append, List.length_cons] at hi
  have hi' : i < M.length + 2 := hi
  by_cases h0 : i = 0
  · subst h0; rfl
  · obtain ⟨j, rfl⟩ : ∃ j, i = j + 1 := ⟨i - 1, by omega⟩
    by_cases hj : j < M.length
    · unfold okAt
      rw [getD_cons_l hj]
      have hq := (hM (M.getD j default) (by rw [List.getD_eq_getElem?_getD, List.getElem?_eq_getElem hj]; exact List.getElem_mem _)).1
      have : ((mkE (M.getD j default)).k != 2) = true := by show ((M.getD j default).1 != 2) = true; simpa using hq
      rw [this]; rfl
    · obtain rfl : j = M.length := by omega
      unfold okAt
      rw [show M.length + 1 = M.length + 1 + 0 from rfl, getD_cons_r (E := [(2, th, tr)]) (by simp)]
      have hb : backK (((1, th, tr) :: M ++ [(2, th, tr)]).map mkE) th (0 + 1 + M.length) = (0 : Nat) := back_const (m := 0) (by unfold skipB; simp [mkE]) M.length (fun j h1 h2 => by
        obtain ⟨q, rfl⟩ : ∃ q, j = q + 1 := ⟨j - 1, by omega⟩
        exact quiet_skip hM (by omega))
      rw [show 0 + 1 + M.length = M.length + 1 + 0 by omega] at hb
      show (_ || (!decide (backK _ th (M.length + 1 + 0) < 0) && begins (List.getD _ (backK _ th (M.length + 1 + 0)).toNat default) _)) = true
      rw [hb]
      simp [begins, mkE]
/-- Another try. -/
theorem ahead_other {th tr tr2 : Int} {M : List T3} (hM : ∀ t ∈ M, t.2.1 ≠ th ∨ t.1 = 5) (hn : tr2 ≠ tr) : aheadB (((1, th, tr) :: M ++ [(2, th, tr2)]).map mkE) = false := by
  refine aheadB_false (i := M.length + 1 + 0) (by simp) ?_
  unfold okAt
  rw [getD_cons_r (E := [(2, th, tr2)]) (by simp)]
  have hb : backK (((1, th, tr) :: M ++ [(2, th, tr2)]).map mkE) th (0 + 1 + M.length) = (0 : Nat) := back_const (m := 0) (by unfold skipB; simp [mkE]) M.length (fun j h1 h2 => by
    obtain ⟨q, rfl⟩ : ∃ q, j = q + 1 := ⟨j - 1, by omega⟩
    have hq : q < M.length := by omega
    have hh := hM (M.getD q default) (by rw [List.getD_eq_getElem?_getD, List.getElem?_eq_getElem hq]; exact List.getElem_mem _)
    unfold skipB
    rw [getD_cons_l hq]
    rcases hh with h3 | h3
    · have : ((mkE (M.getD q default)).th != th) = true := by rw [mkE_th]; simpa using h3
      rw [this]; rfl
    · have : ((mkE (M.getD q default)).k == 5) = true := by show ((M.getD q default).1 == 5) = true; simpa using h3
      rw [this]; simp)
  rw [show 0 + 1 + M.length = M.length + 1 + 0 by omega] at hb
  show (_ || (!decide (backK _ th (M.length + 1 + 0) < 0) && begins (List.getD _ (backK _ th (M.length + 1 + 0)).toNat default) _)) = false
  rw [hb]
  simp [begins, mkE]
  exact fun h => hn h.symm
/-- Something of its own between. -/
theorem ahead_amidst {th tr : Int} {M : List T3} : aheadB (((1, th, tr) :: M ++ [(3, th, tr), (2, th, tr)]).map mkE) = false := by
  refine aheadB_false (i := M.length + 1 + 1) (by simp) ?_
  unfold okAt
  rw [getD_cons_r (E := [(3, th, tr), (2, th, tr)]) (by simp)]
  have hs : skipB (((1, th, tr) :: M ++ [(3, th, tr), (2, th, tr)]).map mkE) th (M.length + 1 + 0) = false := by
    unfold skipB
    rw [getD_cons_r (E := [(3, th, tr), (2, th, tr)]) (by simp)]
    simp [mkE]
  have hb : backK (((1, th, tr) :: M ++ [(3, th, tr), (2, th, tr)]).map mkE) th (M.length + 1 + 1) = ((M.length + 1 + 0 : Nat) : Int) := by
    show backK _ th (M.length + 1 + 0 + 1) = _
    unfold backK
    rw [hs]; rfl
  show (_ || (!decide (backK _ th (M.length + 1 + 1) < 0) && begins (List.getD _ (backK _ th (M.length + 1 + 1)).toNat default) _)) = false
  rw [hb, Int.toNat_natCast, getD_cons_r (E := [(3, th, tr), (2, th, tr)]) (by simp)]
  simp [begins, mkE]
end Go.Proofs.Ytkaokhpaabfhmaa
