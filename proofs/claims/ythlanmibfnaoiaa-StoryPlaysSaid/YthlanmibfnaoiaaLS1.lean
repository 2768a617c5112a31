/- ltkref11.SameEvent: whether two events are alike. -/
import Derived.Test.YthlanmibfnaoiaaEvA
import Derived.Deep.RegionHeld3
namespace Go.Proofs.Ythlanmibfnaoiaa
open Go.RowKit

set_option maxRecDepth 100000 in
set_option maxHeartbeats 40000000 in
theorem sameEvent_any (a b : Ev) (A1 A2 A3 B1 B2 B3 : Option Addr) (n1 c1 n2 c2 n3 c3 m1 d1 m2 d2 m3 d3 : Nat) (F G : Nat → Prop) (w : World) (ha : Lies w F a A1 n1 c1 A2 n2 c2 A3 n3 c3) (hb : Lies w G b B1 m1 d1 B2 m2 d2 B3 m3 d3) (hs : a.small) :
    Calls Try.prog 18 #[a.val (.slice A1 n1 c1) (.slice A2 n2 c2) (.slice A3 n3 c3), b.val (.slice B1 m1 d1) (.slice B2 m2 d2) (.slice B3 m3 d3)] w fun e w' => e = .returned (.bool (decide (a = b))) ∧ Fr (fun _ => False) w w' := by
  obtain ⟨r, hr⟩ : ∃ r, r = decide (a = b) := ⟨_, rfl⟩
  rw [← hr]
  obtain ⟨k, th, pr, tr, ti, st, ca, rs, ws, gs⟩ := a
  obtain ⟨k', th', pr', tr', ti', st', ca', rs', ws', gs'⟩ := b
  have hfa := ((Fr.refl (fun _ => False) w).alloc (.cells #[.int .i64 k, .int .i64 th, .int .i64 pr, .int .i64 tr, .int .i64 ti, .int .i64 st, .int .i64 ca, .slice A1 n1 c1, .slice A2 n2 c2, .slice A3 n3 c3] 33)).alloc (.cells #[.int .i64 k', .int .i64 th', .int .i64 pr', .int .i64 tr', .int .i64 ti', .int .i64 st', .int .i64 ca', .slice B1 m1 d1, .slice B2 m2 d2, .slice B3 m3 d3] 33)
  have l1 : rs.length = n1 * 2 := ha.r.len
  have l2 : ws.length = n2 * 2 := ha.w_.len
  have l3 : gs.length = n3 := ha.g.len
  obtain ⟨s1, s2, s3⟩ : rs.length ≤ 20000 ∧ ws.length ≤ 20000 ∧ gs.length ≤ 20000 := hs
  have HA := Lib.hid (ha.frame hfa (fun _ _ x => x.elim))
  have HB := Lib.hid (hb.frame hfa (fun _ _ x => x.elim))
  have HFA := Lib.hid hfa
  have t1 : n1 ≤ 20000 := by omega
  have t2 : n2 ≤ 20000 := by omega
  have t3 : n3 ≤ 20000 := by omega
  clear ha hb hfa l1 l2 l3 s1 s2 s3
  unfold Ev.val
  dsimp only
  simp only [Ev.mk.injEq] at hr
  by_cases e1 : k = k'
  case neg =>
    have HR := Lib.hid (show r = false by rw [hr]; simp [e1])
    have hne : (k == k') = false := by simpa using e1
    clear hr e1
    go_enter Try.func18, Try.ntmps18
    go_wp2
    go_ret
    exact ⟨by rw [HR.out]; rfl, HFA.out⟩
  subst e1
  by_cases e2 : th = th'
  case neg =>
    have HR := Lib.hid (show r = false by rw [hr]; simp [e2])
    have hne : (th == th') = false := by simpa using e2
    clear hr e2
    go_enter Try.func18, Try.ntmps18
    go_wp2
    go_ret
    exact ⟨by rw [HR.out]; rfl, HFA.out⟩
  subst e2
  by_cases e3 : pr = pr'
  case neg =>
    have HR := Lib.hid (show r = false by rw [hr]; simp [e3])
    have hne : (pr == pr') = false := by simpa using e3
    clear hr e3
    go_enter Try.func18, Try.ntmps18
    go_wp2
    go_ret
    exact ⟨by rw [HR.out]; rfl, HFA.out⟩
  subst e3
  by_cases e4 : tr = tr'
  case neg =>
    have HR := Lib.hid (show r = false by rw [hr]; simp [e4])
    have hne : (tr == tr') = false := by simpa using e4
    clear hr e4
    go_enter Try.func18, Try.ntmps18
    go_wp2
    go_ret
    exact ⟨by rw [HR.out]; rfl, HFA.out⟩
  subst e4
  by_cases e5 : ti = ti'
  case neg =>
    have HR := Lib.hid (show r = false by rw [hr]; simp [e5])
    have hne : (ti == ti') = false := by simpa using e5
    clear hr e5
    go_enter Try.func18, Try.ntmps18
    go_wp2
    go_ret
    exact ⟨by rw [HR.out]; rfl, HFA.out⟩
  subst e5
  by_cases e6 : st = st'
  case neg =>
    have HR := Lib.hid (show r = false by rw [hr]; simp [e6])
    have hne : (st == st') = false := by simpa using e6
    clear hr e6
    go_enter Try.func18, Try.ntmps18
    go_wp2
    go_ret
    exact ⟨by rw [HR.out]; rfl, HFA.out⟩
  subst e6
  by_cases e7 : ca = ca'
  case neg =>
    have HR := Lib.hid (show r = false by rw [hr]; simp [e7])
    have hne : (ca == ca') = false := by simpa using e7
    clear hr e7
    go_enter Try.func18, Try.ntmps18
    go_wp2
    go_ret
    exact ⟨by rw [HR.out]; rfl, HFA.out⟩
  subst e7
  have HBX := Lib.hid (box_two w k th pr tr ti st ca k th pr tr ti st ca (.slice A1 n1 c1) (.slice A2 n2 c2) (.slice A3 n3 c3) (.slice B1 m1 d1) (.slice B2 m2 d2) (.slice B3 m3 d3))
  have hra := HA.out.r
  have hrb := HB.out.r
  have HC1 := Lib.hid (access_calls A1 n1 c1 B1 m1 d1 rs rs' F G _ hra t1 hrb)
  clear hra hrb
  by_cases e8 : rs = rs'
  case neg =>
    have HR := Lib.hid (show r = false by rw [hr]; simp [e8])
    rw [decide_eq_false e8] at HC1
    clear hr e8 HBX
    go_enter Try.func18, Try.ntmps18
    go_wp2_with (go_at_call 28
                 (with_reducible refine HC1.out.mono ?_)
                 rintro ex w1 ⟨rfl, hf1⟩)
    go_ret
    exact ⟨by rw [HR.out]; rfl, HFA.out.trans hf1⟩
  have HC2 := Lib.hid (fun w' (hf : Fr (fun _ => False) _ w') => access_calls A2 n2 c2 B2 m2 d2 ws ws' F G w' (HA.out.w_.frame hf (fun _ _ x => x.elim)) t2 (HB.out.w_.frame hf (fun _ _ x => x.elim)))
  by_cases e9 : ws = ws'
  case neg =>
    have HR := Lib.hid (show r = false by rw [hr]; simp [e9])
    rw [decide_eq_true e8] at HC1
    rw [decide_eq_false e9] at HC2
    clear hr e8 e9
    go_enter Try.func18, Try.ntmps18
    go_wp2_with (first
      | (go_at_call 28
         (with_reducible refine HC1.out.mono ?_)
         rintro ex w1 ⟨rfl, hf1⟩
         obtain ⟨x1, x2, x3, x4⟩ := HBX.out _ hf1)
      | (go_at_call 28
         (with_reducible refine (HC2.out _ hf1).mono ?_)
         rintro ex w2 ⟨rfl, hf2⟩))
    go_ret
    exact ⟨by rw [HR.out]; rfl, HFA.out.trans (hf1.trans hf2)⟩
  have HC3 := Lib.hid (fun w' (hf : Fr (fun _ => False) _ w') => ints_calls A3 n3 c3 B3 m3 d3 gs gs' F G w' (HA.out.g.frame hf (fun _ _ x => x.elim)) t3 (HB.out.g.frame hf (fun _ _ x => x.elim)))
  have HR := Lib.hid (show r = decide (gs = gs') by rw [hr]; simp [e8, e9])
  rw [decide_eq_true e8] at HC1
  rw [decide_eq_true e9] at HC2
  clear hr e8 e9
  go_enter Try.func18, Try.ntmps18
  go_wp2_with (first
    | (go_at_call 28
       (with_reducible refine HC1.out.mono ?_)
       rintro ex w1 ⟨rfl, hf1⟩
       obtain ⟨x1, x2, x3, x4⟩ := HBX.out _ hf1)
    | (go_at_call 28
       (with_reducible refine (HC2.out _ hf1).mono ?_)
       rintro ex w2 ⟨rfl, hf2⟩
       have hf3 := hf1.trans hf2
       obtain ⟨y1, y2, y3, y4⟩ := HBX.out _ hf3)
    | (go_at_call 29
       (with_reducible refine (HC3.out _ hf3).mono ?_)
       rintro ex w3 ⟨rfl, hf4⟩))
  go_ret
  exact ⟨by rw [HR.out]; simp, HFA.out.trans (hf3.trans hf4)⟩

end Go.Proofs.Ythlanmibfnaoiaa
