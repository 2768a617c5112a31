/- plain.Run whole; ltklaw6.Few; plain.Same; ltkref.Copy; ltklaw7.first. -/
import Derived.Test.YtkaokhpaabfhmaaP8
import Derived.Test.YtkaokhpaabfhmaaEv2
namespace Go.Proofs.Ytkaokhpaabfhmaa
open Go.RowKit

def runsB (c : Conf) (heap : List Int) (p : List Ins) : Bool := progOk c p && decide ((heap.length : Int) = c.words)
def resS (c : Conf) (heap : List Int) (p : List Ins) : PS := if runsB c heap p then fullP c heap p else ⟨[], [], [], [], 0⟩
def resH (c : Conf) (heap : List Int) (p : List Ins) : List Int := if runsB c heap p then (fullP c heap p).after heap else []
def resE (c : Conf) (heap : List Int) (p : List Ins) : Int := if progOk c p then (if (heap.length : Int) = c.words then 0 else 1) else 2
/-- What Run answers. -/
structure RunIs (w : World) (B : Nat) (s : PS) (hp : List Int) (A1 : Option Addr) (n1 : Nat) (A2 : Option Addr) (n2 : Nat) (A3 : Option Addr) (n3 : Nat) (A4 : Option Addr) (n4 : Nat) : Prop where
  g : Flat w (fun k => B ≤ k) A1 n1 s.regs
  r : Flat w (fun k => B ≤ k) A2 (n2 * 2) s.rs
  w_ : Flat w (fun k => B ≤ k) A3 (n3 * 2) s.ws
  h : Flat w (fun k => B ≤ k) A4 n4 hp
theorem RunIs.frame {w w' : World} {B : Nat} {s : PS} {hp : List Int} {A1 A2 A3 A4 : Option Addr} {n1 n2 n3 n4 : Nat} {S : Nat → Prop} (h : RunIs w B s hp A1 n1 A2 n2 A3 n3 A4 n4) (hf : Fr S w w') (hs : ∀ k, B ≤ k → S k → w.heap.size ≤ k) : RunIs w' B s hp A1 n1 A2 n2 A3 n3 A4 n4 :=
  ⟨h.g.frame hf hs, h.r.frame hf hs, h.w_.frame hf hs, h.h.frame hf hs⟩
theorem runs_full {c : Conf} {heap : List Int} {p : List Ins} (h1 : progOk c p = true) (h2 : (heap.length : Int) = c.words) : resS c heap p = fullP c heap p ∧ resH c heap p = (fullP c heap p).after heap ∧ resE c heap p = 0 := by
  have hr : runsB c heap p = true := by unfold runsB; rw [h1]; simpa using h2
  refine ⟨if_pos hr, if_pos hr, ?_⟩
  unfold resE
  rw [if_pos h1, if_pos h2]
theorem runs_not {c : Conf} {heap : List Int} {p : List Ins} (h : ¬ (progOk c p = true ∧ (heap.length : Int) = c.words)) : resS c heap p = ⟨[], [], [], [], 0⟩ ∧ resH c heap p = [] ∧ resE c heap p = if progOk c p then 1 else 2 := by
  have hr : ¬ runsB c heap p = true := by unfold runsB; simpa using h
  refine ⟨if_neg hr, if_neg hr, ?_⟩
  unfold resE
  by_cases h1 : progOk c p = true
  · rw [if_pos h1, if_pos h1, if_neg (fun x => h ⟨h1, x⟩)]
  · rw [if_neg h1, if_neg h1]
theorem run_calls (c : Conf) (H : Option Addr) (hn hcap : Nat) (heap : List Int) (A : Option Addr) (n cap : Nat) (p : List Ins) (F G : Nat → Prop) (w : World) (h : ProgAt w F A n cap p) (hs : Short p) (hh : Flat w G H hn heap) (hi : ∀ y ∈ heap, I64 y) :
    Calls Try.prog 25 #[c.val, .slice H hn hcap, .slice A n cap] w fun e w' => ∃ A1 n1 c1 A2 n2 c2 A3 n3 c3 A4 n4 c4, e = .returned (.tuple #[.agg #[.int .i64 (resS c heap p).e, .slice A1 n1 c1, .slice A2 n2 c2, .slice A3 n3 c3], .slice A4 n4 c4, .int .i64 (resE c heap p)]) ∧
      RunIs w' w.heap.size (resS c heap p) (resH c heap p) A1 n1 A2 n2 A3 n3 A4 n4 ∧ Fr (fun _ => False) w w' := by
  have hl := hh.len
  by_cases hok : progOk c p = true
  · by_cases hne : (hn : Int) = c.words
    · obtain ⟨e1, e2, e3⟩ := runs_full hok (by rw [hl]; exact hne)
      rw [e1, e2, e3]
      refine (run_main c H hn hcap heap A n cap p F G w h hs hok hh hi hne).mono ?_
      rintro e w' ⟨A1, n1, c1, A2, n2, c2, A3, n3, c3, A4, n4, c4, he, ho, hf⟩
      exact ⟨A1, n1, c1, A2, n2, c2, A3, n3, c3, A4, n4, c4, he, ⟨ho.g, ho.r, ho.w_, ho.h⟩, hf⟩
    · obtain ⟨e1, e2, e3⟩ := runs_not (c := c) (heap := heap) (p := p) (fun x => hne (by rw [← hl]; exact x.2))
      rw [e1, e2, e3, if_pos hok]
      refine (run_range c H hn hcap A n cap p F w h hs hok hne).mono ?_
      rintro e w' ⟨he, hf⟩
      exact ⟨none, 0, 0, none, 0, 0, none, 0, 0, none, 0, 0, he, ⟨Flat.nil _ _ _, Flat.nil _ _ _, Flat.nil _ _ _, Flat.nil _ _ _⟩, hf⟩
  · obtain ⟨e1, e2, e3⟩ := runs_not (c := c) (heap := heap) (p := p) (fun x => hok x.1)
    rw [e1, e2, e3, if_neg hok]
    refine (run_form c H hn hcap A n cap p F w h hs (by simpa using hok)).mono ?_
    rintro e w' ⟨he, hf⟩
    exact ⟨none, 0, 0, none, 0, 0, none, 0, 0, none, 0, 0, he, ⟨Flat.nil _ _ _, Flat.nil _ _ _, Flat.nil _ _ _, Flat.nil _ _ _⟩, hf⟩

/-! Few. -/
def fewP (p : List Ins) : Bool := decide (p.length ≤ 200) && p.all (fun x => decide (x.l.length ≤ 100))
theorem fewP_iff {p : List Ins} : fewP p = true ↔ p.length ≤ 200 ∧ ∀ x ∈ p, x.l.length ≤ 100 := by
  unfold fewP
  simp [List.all_eq_true]
theorem fewP_short {p : List Ins} (h : fewP p = true) : Short p := fun x hx => by have := (fewP_iff.1 h).2 x hx; omega
theorem fewP_not {p : List Ins} {j : Nat} (h : j < p.length) (hl : ¬ (p.getD j default).l.length ≤ 100) : fewP p = false := by
  cases hf : fewP p with
  | false => rfl
  | true =>
    rw [List.getD_eq_getElem?_getD, List.getElem?_eq_getElem h] at hl
    exact absurd ((fewP_iff.1 hf).2 _ (List.getElem_mem h)) hl
theorem fewP_yes {p : List Ins} (h1 : p.length ≤ 200) (h : ∀ j, j < p.length → (p.getD j default).l.length ≤ 100) : fewP p = true := fewP_iff.2 ⟨h1, fun x hx => by
  obtain ⟨j, hj, rfl⟩ := List.mem_iff_getElem.1 hx
  have := h j hj
  rw [List.getD_eq_getElem?_getD, List.getElem?_eq_getElem hj] at this
  exact this⟩

set_option maxRecDepth 100000 in
theorem few6_calls (A : Option Addr) (n c : Nat) (p : List Ins) (F : Nat → Prop) (w : World) (h : ProgAt w F A n c p) :
    Calls Try.prog 22 #[.slice A n c] w fun e w' => e = .returned (.bool (fewP p)) ∧ Fr (fun _ => False) w w' := by
  obtain ⟨r, hr⟩ : ∃ r, r = fewP p := ⟨_, rfl⟩
  rw [← hr]
  have HR := Lib.hid hr
  have HLEN := Lib.hid h.len
  have HX := Lib.hid h.ex
  clear hr h
  go_enter Try.func22, Try.ntmps22
  go_wp2
  go_loopw [3] (fun v3 wr => ∃ j : Nat, j ≤ n ∧ j ≤ 200 ∧ v3 = .int .i64 j ∧ (∀ i, i < j → (p.getD i default).l.length ≤ 100) ∧ Fr (fun _ => False) w wr) (fun v3 _ => n - (intOf v3).toNat)
  case atStart => exact ⟨0, Nat.zero_le _, by omega, rfl, fun i hi => absurd hi (Nat.not_lt_zero _), Fr.refl _ _⟩
  case round =>
    obtain ⟨j, hj, hj2, rfl, hb, hf⟩ := hrel
    have HB := Lib.hid hb
    have HF := Lib.hid hf
    clear hb hf
    by_cases hlt : j < n
    · by_cases h2 : j < 200
      · obtain ⟨cs, hcs, hrow⟩ := HX.out
        obtain ⟨ad, rfl, _, h1⟩ := hcs (by omega)
        obtain ⟨A1, n1, k1, hrw, _, hfl⟩ := hrow j hlt
        obtain ⟨_, _, _, _, q4⟩ := ins_cells (fun t u ht => HF.out.cell (h1 t u ht) (fun x => x)) hrw
        have hln := Lib.hid hfl.len
        clear hcs hrow h1 hrw hfl
        by_cases hn1 : n1 ≤ 100
        · have hg : decide ((n1 : Int) > 100) = false := by simp; omega
          have hg' : ¬ 100 < n1 := by omega
          go_wp2
          go_roundw
          case rel => exact ⟨j + 1, by omega, by omega, by go_num, fun i hi => by
            by_cases hij : i < j
            · exact HB.out i hij
            · obtain rfl : i = j := by omega
              rw [hln.out]; exact hn1, HF.out⟩
          case measure => simp [intOf]; omega
        · have hg' : 100 < n1 := by omega
          go_wp2
          go_ret
          exact ⟨by rw [HR.out, fewP_not (j := j) (by rw [HLEN.out]; exact hlt) (by rw [hln.out]; exact hn1)]; rfl, HF.out⟩
      · have h3 : ¬ n ≤ 200 := by omega
        go_wp2
        go_ret
        exact ⟨by rw [HR.out, show fewP p = false by unfold fewP; rw [HLEN.out]; simp [h3]]; simp; omega, HF.out⟩
    · obtain rfl : j = n := by omega
      go_wp2
      go_ret
      exact ⟨by rw [HR.out, fewP_yes (by rw [HLEN.out]; exact hj2) (by rw [HLEN.out]; exact HB.out)]; simp; omega, HF.out⟩

/-! Same. -/
def sameB (a b : PS) : Bool := decide (a.e = b.e) && decide (a.regs = b.regs) && decide (a.rs = b.rs) && decide (a.ws = b.ws)
theorem out_box {w : World} {b : Nat} {arr : Array Value} (h : w.heap[b]? = some (.cells arr 46 (0, 0))) {x0 x1 x2 x3 : Value} (ha : arr = #[x0, x1, x2, x3]) :
    w.cell? ⟨b, 0, none⟩ = some x0 ∧ w.cell? ⟨b, 1, none⟩ = some x1 ∧ w.cell? ⟨b, 2, none⟩ = some x2 ∧ w.cell? ⟨b, 3, none⟩ = some x3 := by
  subst ha
  refine ⟨?_, ?_, ?_, ?_⟩ <;> (rw [blk_cell h]; rfl)
set_option maxRecDepth 100000 in
set_option maxHeartbeats 2000000 in
theorem same_calls (a b : PS) (A1 : Option Addr) (n1 c1 : Nat) (A2 : Option Addr) (n2 c2 : Nat) (A3 : Option Addr) (n3 c3 : Nat) (B1 : Option Addr) (m1 d1 : Nat) (B2 : Option Addr) (m2 d2 : Nat) (B3 : Option Addr) (m3 d3 : Nat) (F G : Nat → Prop) (w : World)
    (g1 : Flat w F A1 n1 a.regs) (g2 : Flat w F A2 (n2 * 2) a.rs) (g3 : Flat w F A3 (n3 * 2) a.ws) (k1 : Flat w G B1 m1 b.regs) (k2 : Flat w G B2 (m2 * 2) b.rs) (k3 : Flat w G B3 (m3 * 2) b.ws) (s1 : n1 ≤ 20000) (s2 : n2 ≤ 20000) (s3 : n3 ≤ 20000) :
    Calls Try.prog 26 #[.agg #[.int .i64 a.e, .slice A1 n1 c1, .slice A2 n2 c2, .slice A3 n3 c3], .agg #[.int .i64 b.e, .slice B1 m1 d1, .slice B2 m2 d2, .slice B3 m3 d3]] w fun e w' => e = .returned (.bool (sameB a b)) ∧ Fr (fun _ => False) w w' := by
  have HFR := Lib.hid (((Fr.refl (fun _ => False) w).alloc (.cells #[.int .i64 a.e, .slice A1 n1 c1, .slice A2 n2 c2, .slice A3 n3 c3] 46)).alloc (.cells #[.int .i64 b.e, .slice B1 m1 d1, .slice B2 m2 d2, .slice B3 m3 d3] 46))
  have H1 := Lib.hid (fun w' (hf : Fr (fun _ => False) w w') => equalInts_calls A1 n1 c1 B1 m1 d1 a.regs b.regs F G w' (g1.frame hf (fun _ _ x => x.elim)) s1 (k1.frame hf (fun _ _ x => x.elim)))
  have H2 := Lib.hid (fun w' (hf : Fr (fun _ => False) w w') => equalAcc_calls A2 n2 c2 B2 m2 d2 a.rs b.rs F G w' (g2.frame hf (fun _ _ x => x.elim)) s2 (k2.frame hf (fun _ _ x => x.elim)))
  have H3 := Lib.hid (fun w' (hf : Fr (fun _ => False) w w') => equalAcc_calls A3 n3 c3 B3 m3 d3 a.ws b.ws F G w' (g3.frame hf (fun _ _ x => x.elim)) s3 (k3.frame hf (fun _ _ x => x.elim)))
  have hA := heap_alloc2_old w (.cells #[.int .i64 a.e, .slice A1 n1 c1, .slice A2 n2 c2, .slice A3 n3 c3] 46) (.cells #[.int .i64 b.e, .slice B1 m1 d1, .slice B2 m2 d2, .slice B3 m3 d3] 46)
  have hB := heap_alloc2_new w (.cells #[.int .i64 a.e, .slice A1 n1 c1, .slice A2 n2 c2, .slice A3 n3 c3] 46) (.cells #[.int .i64 b.e, .slice B1 m1 d1, .slice B2 m2 d2, .slice B3 m3 d3] 46)
  have HBX := Lib.hid (fun w' (hf : Fr (fun _ => False) _ w') => And.intro (out_box (hf.heap hA (fun x => x)) rfl) (out_box (hf.heap hB (fun x => x)) rfl))
  obtain ⟨r, hr⟩ : ∃ r, r = sameB a b := ⟨_, rfl⟩
  rw [← hr]
  have HR := Lib.hid hr
  clear g1 g2 g3 k1 k2 k3 hA hB hr
  generalize hb1 : decide (a.regs = b.regs) = t1 at *
  generalize hb2 : decide (a.rs = b.rs) = t2 at *
  generalize hb3 : decide (a.ws = b.ws) = t3 at *
  have HB1 := Lib.hid hb1
  have HB2 := Lib.hid hb2
  have HB3 := Lib.hid hb3
  clear hb1 hb2 hb3
  go_enter Try.func26, Try.ntmps26
  obtain ⟨⟨p0, p1, p2, p3⟩, q0, q1, q2, q3⟩ := HBX.out _ (Fr.refl _ _)
  by_cases he : a.e = b.e
  · have hd : (a.e == b.e) = true := by simpa using he
    have HE := Lib.hid he
    clear he
    cases t1 <;> cases t2 <;> cases t3
    all_goals
      go_wp2_with (first
        | (go_at_call 43; (with_reducible refine (H1.out _ HFR.out).mono ?_); rintro ex w1 ⟨rfl, hf1⟩
           clear p0 p1 p2 p3 q0 q1 q2 q3
           obtain ⟨⟨p0, p1, p2, p3⟩, q0, q1, q2, q3⟩ := HBX.out _ hf1
           have hk := HFR.out.trans hf1)
        | (go_at_call 44; (first | (with_reducible refine (H2.out _ hk).mono ?_) | (with_reducible refine (H3.out _ hk).mono ?_)); rintro ex w2 ⟨rfl, hf2⟩
           clear p0 p1 p2 p3 q0 q1 q2 q3
           have hf3 := hf1.trans hf2
           clear hf1
           have hf1 := hf3
           clear hf3
           obtain ⟨⟨p0, p1, p2, p3⟩, q0, q1, q2, q3⟩ := HBX.out _ hf1
           clear hk
           have hk := HFR.out.trans hf1))
      go_ret
      exact ⟨by rw [HR.out]; unfold sameB; rw [HB1.out, HB2.out, HB3.out]; simp [HE.out], hk⟩
  · have hd : (a.e == b.e) = false := by simpa using he
    go_wp2
    go_ret
    exact ⟨by rw [HR.out]; unfold sameB; simp [he], HFR.out⟩
end Go.Proofs.Ytkaokhpaabfhmaa
