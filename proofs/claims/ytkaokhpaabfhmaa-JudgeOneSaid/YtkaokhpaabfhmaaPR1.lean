/- ltkref5.Args, SameOut. -/
import Derived.Test.YtkaokhpaabfhmaaPR0
namespace Go.Proofs.Ytkaokhpaabfhmaa
open Go.RowKit

def argsOf (x : Ins) (regs : List Int) : List Int := x.l.map fun r => regs.getD r.toNat 0
theorem argsOf_succ {x : Ins} {regs : List Int} {i : Nat} (h : i < x.l.length) : (argsOf x regs).take (i + 1) = (argsOf x regs).take i ++ [regs.getD (x.l.getD i 0).toNat 0] := by
  unfold argsOf
  have hl : i < (x.l.map fun r => regs.getD r.toNat 0).length := by rw [List.length_map]; exact h
  rw [List.take_add_one, List.getElem?_eq_getElem hl]
  rw [List.getElem_map, show x.l.getD i 0 = x.l[i] by rw [List.getD_eq_getElem?_getD, List.getElem?_eq_getElem h]; rfl]
  rfl
set_option maxRecDepth 100000 in
theorem ref_args_calls (x : Ins) (A' : Option Addr) (n' c' : Nat) (A : Option Addr) (n cap : Nat) (regs : List Int) (F G : Nat → Prop) (w : World) (hx : Flat w G A' n' x.l) (hr : Flat w F A n regs) (hn : n' ≤ 20000) (hi : ∀ y ∈ regs, I64 y) (hin : ∀ r ∈ x.l, 0 ≤ r ∧ r < regs.length) :
    Calls Try.prog 39 #[.agg #[.int .i64 x.k, .int .i64 x.a, .int .i64 x.b, .int .i64 x.c, .slice A' n' c'], .slice A n cap] w fun e w' => ∃ v, e = .returned v ∧ Own w.heap.size w' v (argsOf x regs) ∧ Fr (fun _ => False) w w' := by
  have hl := hx.len
  have hlr := hr.len
  have HL := Lib.hid hl
  have HX := Lib.hid (fun w' (hf : Fr (fun _ => False) w w') => hx.frame hf (fun _ _ x => x.elim))
  have HR := Lib.hid (fun w' (hf : Fr (fun _ => False) w w') => hr.frame hf (fun _ _ x => x.elim))
  have HIN := Lib.hid (show ∀ i, i < n' → ∃ t : Nat, x.l.getD i 0 = t ∧ t < n from fun i h => by
    have hm : x.l.getD i 0 ∈ x.l := by rw [List.getD_eq_getElem?_getD, List.getElem?_eq_getElem (by omega)]; exact List.getElem_mem _
    obtain ⟨h1, h2⟩ := hin _ hm
    exact ⟨(x.l.getD i 0).toNat, by omega, by omega⟩)
  have HI := Lib.hid (show ∀ t, t < n → I64 (regs.getD t 0) from fun t h => hi _ (by rw [List.getD_eq_getElem?_getD, List.getElem?_eq_getElem (by omega)]; exact List.getElem_mem _))
  have HSU := Lib.hid (fun i (h : i < x.l.length) => argsOf_succ (regs := regs) h)
  have HLE := Lib.hid (show (argsOf x regs).length = n' by unfold argsOf; rw [List.length_map]; exact hl)
  clear hx hr hi hin hl hlr
  obtain ⟨xk, xa, xb, xc, xl⟩ := x
  dsimp only at *
  generalize argsOf ⟨xk, xa, xb, xc, xl⟩ regs = zs at *
  have HB := Lib.hid (fun w' (hf : Fr (fun k => w.heap.size + 1 ≤ k) (w.alloc (.cells #[.int .i64 xk, .int .i64 xa, .int .i64 xb, .int .i64 xc, .slice A' n' c'] 67)) w') => show w'.cell? ⟨w.heap.size, 4, none⟩ = some (.slice A' n' c') from by
    rw [blk_cell (hf.heap (heap_alloc_new w _) (fun x => by omega))]; rfl)
  have HKW := Lib.hid (fun w' (hf : Fr (fun k => w.heap.size + 1 ≤ k) (w.alloc (.cells #[.int .i64 xk, .int .i64 xa, .int .i64 xb, .int .i64 xc, .slice A' n' c'] 67)) w') => show Fr (fun _ => False) w w' from ((Fr.refl _ w).alloc _).trans' hf (fun k x y => by omega))
  go_enter Try.func39, Try.ntmps39
  go_wp2
  go_loopw [5, 6] (fun v5 v6 wr => ∃ i : Nat, i ≤ n' ∧ v6 = .int .i64 i ∧ Own (w.heap.size + 1) wr v5 (zs.take i) ∧ Fr (fun k => w.heap.size + 1 ≤ k) (w.alloc (.cells #[.int .i64 xk, .int .i64 xa, .int .i64 xb, .int .i64 xc, .slice A' n' c'] 67)) wr) (fun _ v6 _ => n' - (intOf v6).toNat)
  case atStart => exact ⟨0, Nat.zero_le _, rfl, Own.nil _ _, Fr.refl _ _⟩
  case round =>
    obtain ⟨i, hle, rfl, ho, hf⟩ := hrel
    have p4 := HB.out _ hf
    have HO := Lib.hid ho
    have HF := Lib.hid hf
    have hsz : w.heap.size + 1 ≤ wr.heap.size := by have := hf.size; simpa using this
    clear ho hf
    by_cases hlt : i < n'
    · obtain ⟨t, ht, htn⟩ := HIN.out i hlt
      obtain ⟨ad', rfl, _, g1⟩ := (HX.out _ (HKW.out _ HF.out)).at_ (by omega)
      have q1 := g1 i hlt
      rw [ht] at q1
      obtain ⟨ad, rfl, _, g2⟩ := (HR.out _ (HKW.out _ HF.out)).at_ (by omega)
      have q2 := g2 t htn
      have htn' : ¬ n ≤ t := by omega
      have hlt' : ¬ n' ≤ i := by omega
      have HS := HSU.out i (by have := HL.out; omega)
      rw [ht, Int.toNat_natCast] at HS
      have HV := Lib.hid (HI.out t htn)
      generalize regs.getD t 0 = rv at *
      have HS2 := Lib.hid HS
      clear HS g1 g2 ht
      have HOA := Lib.hid (ownsRow_frame HO.out ((Fr.refl (fun _ => False) _).alloc (.cells #[.int .i64 rv] 3)) (fun _ _ x => x))
      have HIC := Lib.hid (IntsC.built1 wr rv (fun y hy => by rw [List.mem_singleton.1 hy]; exact HV.out))
      go_wp2_with (at_builtin; refine append_ints _ rfl _ _ rfl (w.heap.size + 1) _ _ rfl HOA.out _ 1 1 [rv] rfl HIC.out ?qa ?qb ?_)
      case qa => rw [List.length_take]; omega
      case qb => simp; omega
      intro v5 w5 ho5 hf5
      have HO5 := Lib.hid ho5
      have HF5 := Lib.hid hf5
      clear ho5 hf5
      go_wp2
      go_roundw
      case rel => exact ⟨i + 1, by omega, by go_num, by rw [HS2.out]; exact HO5.out, (HF.out.alloc _).trans HF5.out⟩
      case measure => simp [intOf]; omega
    · obtain rfl : i = n' := by omega
      go_wp2
      go_ret
      refine ⟨_, rfl, ?_, HKW.out _ HF.out⟩
      have h := HO.out
      rw [List.take_of_length_le (by rw [HLE.out]; exact Nat.le_refl _)] at h
      exact ownsRow_base h (by omega)
set_option maxRecDepth 100000 in
set_option maxHeartbeats 2000000 in
/-- One of the machines' answers beside the other. -/
theorem ref_sameOut_calls (a b : PS) (A1 : Option Addr) (n1 c1 : Nat) (A2 : Option Addr) (n2 c2 : Nat) (A3 : Option Addr) (n3 c3 : Nat) (B1 : Option Addr) (m1 d1 : Nat) (B2 : Option Addr) (m2 d2 : Nat) (B3 : Option Addr) (m3 d3 : Nat) (F G : Nat → Prop) (w : World)
    (g1 : Flat w F A1 n1 a.regs) (g2 : Flat w F A2 (n2 * 2) a.rs) (g3 : Flat w F A3 (n3 * 2) a.ws) (k1 : Flat w G B1 m1 b.regs) (k2 : Flat w G B2 (m2 * 2) b.rs) (k3 : Flat w G B3 (m3 * 2) b.ws) (s1 : n1 ≤ 20000) (s2 : n2 ≤ 20000) (s3 : n3 ≤ 20000) :
    Calls Try.prog 27 #[.agg #[.int .i64 a.e, .slice A1 n1 c1, .slice A2 n2 c2, .slice A3 n3 c3], .agg #[.int .i64 b.e, .slice B1 m1 d1, .slice B2 m2 d2, .slice B3 m3 d3]] w fun e w' => e = .returned (.bool (sameB a b)) ∧ Fr (fun _ => False) w w' := by
  have HFR := Lib.hid (((Fr.refl (fun _ => False) w).alloc (.cells #[.int .i64 a.e, .slice A1 n1 c1, .slice A2 n2 c2, .slice A3 n3 c3] 46)).alloc (.cells #[.int .i64 b.e, .slice B1 m1 d1, .slice B2 m2 d2, .slice B3 m3 d3] 46))
  have H1 := Lib.hid (fun w' (hf : Fr (fun _ => False) w w') => ints_calls A1 n1 c1 B1 m1 d1 a.regs b.regs F G w' (g1.frame hf (fun _ _ x => x.elim)) s1 (k1.frame hf (fun _ _ x => x.elim)))
  have H2 := Lib.hid (fun w' (hf : Fr (fun _ => False) w w') => access_calls A2 n2 c2 B2 m2 d2 a.rs b.rs F G w' (g2.frame hf (fun _ _ x => x.elim)) s2 (k2.frame hf (fun _ _ x => x.elim)))
  have H3 := Lib.hid (fun w' (hf : Fr (fun _ => False) w w') => access_calls A3 n3 c3 B3 m3 d3 a.ws b.ws F G w' (g3.frame hf (fun _ _ x => x.elim)) s3 (k3.frame hf (fun _ _ x => x.elim)))
  have hA := heap_alloc2_old w (.cells #[.int .i64 a.e, .slice A1 n1 c1, .slice A2 n2 c2, .slice A3 n3 c3] 46) (.cells #[.int .i64 b.e, .slice B1 m1 d1, .slice B2 m2 d2, .slice B3 m3 d3] 46)
  have hB := heap_alloc2_new w (.cells #[.int .i64 a.e, .slice A1 n1 c1, .slice A2 n2 c2, .slice A3 n3 c3] 46) (.cells #[.int .i64 b.e, .slice B1 m1 d1, .slice B2 m2 d2, .slice B3 m3 d3] 46)
  have HBX := Lib.hid (fun w' (hf : Fr (fun _ => False) _ w') => And.intro (out_box (hf.heap hA (fun x => x)) rfl) (out_box (hf.heap hB (fun x => x)) rfl))
  obtain ⟨r, hr⟩ : ∃ r, r = sameB a b := ⟨_, rfl⟩
  rw [← hr]
  have HR := Lib.hid hr
  clear g1 g2 g3 k1 k2 k3 hA hB hr
  generalize hb1 : decide (a.regs = b.regs) = t1 at *
  generalize hb2 : decide (a.rs = b.rs) = t2 at *
  generalize hb3 : decide (a.ws = b.ws) = t3 at *
  have HB1 := Lib.hid hb1
  have HB2 := Lib.hid hb2
  have HB3 := Lib.hid hb3
  clear hb1 hb2 hb3
  go_enter Try.func27, Try.ntmps27
  obtain ⟨⟨p0, p1, p2, p3⟩, q0, q1, q2, q3⟩ := HBX.out _ (Fr.refl _ _)
  by_cases he : a.e = b.e
  · have hd : (a.e == b.e) = true := by simpa using he
    have HE := Lib.hid he
    clear he
    cases t1 <;> cases t2 <;> cases t3
    all_goals
      go_wp2_with (first
        | (go_at_call 12; (with_reducible refine (H1.out _ HFR.out).mono ?_); rintro ex w1 ⟨rfl, hf1⟩
           clear p0 p1 p2 p3 q0 q1 q2 q3
           obtain ⟨⟨p0, p1, p2, p3⟩, q0, q1, q2, q3⟩ := HBX.out _ hf1
           have hk := HFR.out.trans hf1)
        | (go_at_call 45; (first | (with_reducible refine (H2.out _ hk).mono ?_) | (with_reducible refine (H3.out _ hk).mono ?_)); rintro ex w2 ⟨rfl, hf2⟩
           clear p0 p1 p2 p3 q0 q1 q2 q3
           have hf3 := hf1.trans hf2
           clear hf1
           have hf1 := hf3
           clear hf3
           obtain ⟨⟨p0, p1, p2, p3⟩, q0, q1, q2, q3⟩ := HBX.out _ hf1
           clear hk
           have hk := HFR.out.trans hf1))
      go_ret
      exact ⟨by rw [HR.out]; unfold sameB; rw [HB1.out, HB2.out, HB3.out]; simp [HE.out], hk⟩
  · have hd : (a.e == b.e) = false := by simpa using he
    go_wp2
    go_ret
    exact ⟨by rw [HR.out]; unfold sameB; simp [he], HFR.out⟩
end Go.Proofs.Ytkaokhpaabfhmaa
