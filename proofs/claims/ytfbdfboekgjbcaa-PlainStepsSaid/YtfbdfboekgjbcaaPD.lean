/- ltklaw7.PlainJumps answers true. -/
import Derived.Test.YtfbdfboekgjbcaaPC
namespace Go.Proofs.Ytfbdfboekgjbcaa
open Go.RowKit

def cJ : Conf := ⟨1, 1, 1, 1, 1, 0, 2, 9, 9, 0, 9, 0⟩
def pJ : List Ins := [⟨1, 0, 0, -1, []⟩, ⟨5, 0, 4, 0, []⟩, ⟨3, 1, 5, 0, []⟩, ⟨2, 1, 0, -1, []⟩]
theorem wJ : cJ.words = 1 := by decide +kernel
theorem okJ : progOk cJ pJ = true := by decide +kernel
theorem fullJ (v : Int) (h : v ≠ 0) : fullP cJ [v] pJ = ⟨[v, 0], [v], [0, v], [], 1⟩ := by
  simp [fullP, begP, pJ, runP, PS.step, PS.next, addrV, wJ, wrapV, h, show cJ.rg.toNat = 2 from rfl, List.replicate]
theorem fullJ0 : fullP cJ [0] pJ = ⟨[0, 5], [5], [0, 0], [0, 5], 1⟩ := by
  simp [fullP, begP, pJ, runP, PS.step, PS.next, addrV, wJ, wrapV, show cJ.rg.toNat = 2 from rfl, List.replicate]
theorem resJ (v : Int) : resE cJ [v] pJ = 0 ∧ resS cJ [v] pJ = fullP cJ [v] pJ ∧ resH cJ [v] pJ = (fullP cJ [v] pJ).after [v] := by
  obtain ⟨h1, h2, h3⟩ := runs_full (heap := [v]) okJ (by rw [wJ]; rfl)
  exact ⟨h3, h1, h2⟩
theorem progJ (w : World) {b : Nat} (hb : w.heap.size = b) : ProgAt (w.alloc (.cells #[.int .i64 1, .int .i64 0, .int .i64 0, .int .i64 (-1), .slice none 0 0, .int .i64 5, .int .i64 0, .int .i64 4, .int .i64 0, .slice none 0 0, .int .i64 3, .int .i64 1, .int .i64 5, .int .i64 0, .slice none 0 0, .int .i64 2, .int .i64 1, .int .i64 0, .int .i64 (-1), .slice none 0 0] 41 (0, 0))) (fun k => k = b) (some ⟨b, 0, none⟩) 4 4 pJ := by
  subst hb
  refine ⟨rfl, Nat.le_refl _, ⟨[.int .i64 1, .int .i64 0, .int .i64 0, .int .i64 (-1), .slice none 0 0, .int .i64 5, .int .i64 0, .int .i64 4, .int .i64 0, .slice none 0 0, .int .i64 3, .int .i64 1, .int .i64 5, .int .i64 0, .slice none 0 0, .int .i64 2, .int .i64 1, .int .i64 0, .int .i64 (-1), .slice none 0 0], fun _ => ⟨_, rfl, rfl, fun j u hj => ?_⟩, fun i hi => ?_⟩, fun x hx => ?_⟩
  · have h1 : (Addr.mk w.heap.size 0 none).add j = ⟨w.heap.size, j, none⟩ := by unfold Addr.add; split <;> simp_all
    rw [h1, blk_cell (heap_alloc_new w _)]
    rw [← hj]; simp
  · have : i = 0 ∨ i = 1 ∨ i = 2 ∨ i = 3 := by omega
    rcases this with rfl | rfl | rfl | rfl <;> refine ⟨none, 0, 0, fun j hj => ?_, Nat.le_refl _, Flat.nil _ _ _⟩ <;>
      (have : j = 0 ∨ j = 1 ∨ j = 2 ∨ j = 3 ∨ j = 4 := by omega
       rcases this with rfl | rfl | rfl | rfl | rfl <;> rfl)
  · simp only [pJ, List.mem_cons, List.not_mem_nil, or_false] at hx
    rcases hx with rfl | rfl | rfl | rfl <;> exact ⟨by decide, by decide⟩
/-- A run that may run. -/
theorem run_ok (c : Conf) (H : Option Addr) (hn hcap : Nat) (heap : List Int) (A : Option Addr) (n cap : Nat) (p : List Ins) (F G : Nat → Prop) (w : World) (h : ProgAt w F A n cap p) (hs : Short p) (hh : Flat w G H hn heap) (hi : ∀ y ∈ heap, I64 y) (hok : progOk c p = true) (hw : (heap.length : Int) = c.words) (s : PS) (he : fullP c heap p = s) :
    Calls Try.prog 11 #[c.val, .slice H hn hcap, .slice A n cap] w fun e w' => ∃ A1 n1 c1 A2 n2 c2 A3 n3 c3 A4 n4 c4, e = .returned (.tuple #[.agg #[.int .i64 s.e, .slice A1 n1 c1, .slice A2 n2 c2, .slice A3 n3 c3], .slice A4 n4 c4, .int .i64 0]) ∧
      RunIs w' w.heap.size s (s.after heap) A1 n1 A2 n2 A3 n3 A4 n4 ∧ Fr (fun _ => False) w w' := by
  have h1 := run_calls c H hn hcap heap A n cap p F G w h hs hh hi
  obtain ⟨e1, e2, e3⟩ := runs_full hok hw
  rw [e1, e2, e3, he] at h1
  exact h1
theorem shortJ : Short pJ := fun x hx => by
  simp only [pJ, List.mem_cons, List.not_mem_nil, or_false] at hx
  rcases hx with rfl | rfl | rfl | rfl <;> exact Nat.zero_le _

set_option maxRecDepth 100000 in
set_option maxHeartbeats 2000000 in
theorem jumps_walk (v : Int) (w : World) (hv : (Lit.int .i64 v).wf = true) :
    Calls Try.prog 5 #[.int .i64 v] w fun e w' => e = .returned (.bool true) ∧ Fr (fun _ => False) w w' := by
  have HV := Lib.hid (show ∀ y ∈ [v], I64 y from fun y hy => by rw [List.mem_singleton.1 hy]; exact I64.of hv)
  clear hv
  have T1 := Lib.hid trivial
  by_cases h0 : v = 0
  · subst h0
    have HRUN := Lib.hid (fun (H : Option Addr) (A : Option Addr) (F G : Nat → Prop) (w' : World) (h : ProgAt w' F A 4 4 pJ) (hh : Flat w' G H 1 [0]) => run_ok cJ H 1 1 [0] A 4 4 pJ F G w' h shortJ hh HV.out okJ (by rw [wJ]; rfl) _ fullJ0)
    unfold Conf.val at HRUN
    dsimp only [cJ, PS.after] at HRUN
    go_enter Try.func5, Try.ntmps5
    go_wp2_with (first
      | (go_at_call 9
         clear T1
         (with_reducible refine (first7_calls _).mono ?_)
         rintro ex w1 ⟨rfl, hf1⟩
         have hk := ((hf1.alloc (.cells #[.int .i64 1, .int .i64 1, .int .i64 1, .int .i64 1, .int .i64 1, .int .i64 0, .int .i64 2, .int .i64 9, .int .i64 9, .int .i64 0, .int .i64 9, .int .i64 0] 23)).alloc (.cells #[.int .i64 1, .int .i64 0, .int .i64 0, .int .i64 (-1), .slice none 0 0, .int .i64 5, .int .i64 0, .int .i64 4, .int .i64 0, .slice none 0 0, .int .i64 3, .int .i64 1, .int .i64 5, .int .i64 0, .slice none 0 0, .int .i64 2, .int .i64 1, .int .i64 0, .int .i64 (-1), .slice none 0 0] 41)).alloc (.cells #[.int .i64 0] 3)
         have HP := Lib.hid ((progJ (w1.alloc (.cells #[.int .i64 1, .int .i64 1, .int .i64 1, .int .i64 1, .int .i64 1, .int .i64 0, .int .i64 2, .int .i64 9, .int .i64 9, .int .i64 0, .int .i64 9, .int .i64 0] 23)) (b := w1.heap.size + 1) (by simp)).frame ((Fr.refl (fun _ => False) _).alloc (.cells #[.int .i64 0] 3)) (fun _ _ x => x.elim))
         have HH := Lib.hid (flat_new ((w1.alloc (.cells #[.int .i64 1, .int .i64 1, .int .i64 1, .int .i64 1, .int .i64 1, .int .i64 0, .int .i64 2, .int .i64 9, .int .i64 9, .int .i64 0, .int .i64 9, .int .i64 0] 23)).alloc (.cells #[.int .i64 1, .int .i64 0, .int .i64 0, .int .i64 (-1), .slice none 0 0, .int .i64 5, .int .i64 0, .int .i64 4, .int .i64 0, .slice none 0 0, .int .i64 3, .int .i64 1, .int .i64 5, .int .i64 0, .slice none 0 0, .int .i64 2, .int .i64 1, .int .i64 0, .int .i64 (-1), .slice none 0 0] 41)) [0] (arr := #[.int .i64 0]) 3 rfl (n := 1) rfl (b := w1.heap.size + 1 + 1)))
      | (go_at_call 11
         go_loud ((with_reducible refine (HRUN.out _ _ _ _ _ HP.out HH.out).mono ?_))
         rintro ex w3 ⟨A1, n1, k1, A2, n2, k2, A3, n3, k3, A4, n4, k4, rfl, ho, hf3⟩
         have en1 : 2 = n1 := ho.g.len
         have en4 : 1 = n4 := ho.h.len
         have en3 : 1 = n3 := by have h : 2 = n3 * 2 := ho.w_.len; omega
         subst en1 en4 en3
         obtain ⟨a1, rfl, _, g1⟩ := ho.g.at_ (by decide)
         obtain ⟨a4, rfl, _, g4⟩ := ho.h.at_ (by decide)
         have G1 := Lib.hid (show w3.cell? ⟨a1.block, a1.off + 1, none⟩ = some (.int .i64 5) by have h := g1 (0 + 1) (by decide); rw [add_past a1 0 1 (by decide), Addr.add_zero'] at h; exact h)
         have G4 := Lib.hid (show w3.cell? a4 = some (.int .i64 5) by have h := g4 0 (by decide); rw [Addr.add_zero'] at h; exact h)
         clear g1 g4
         replace hk := (hk.trans hf3).alloc (.cells #[.int .i64 1, .slice (some a1) 2 k1, .slice A2 n2 k2, .slice A3 1 k3] 30)
         obtain ⟨p0, p1, p2, p3⟩ := out_box (heap_alloc_new w3 (.cells #[.int .i64 1, .slice (some a1) 2 k1, .slice A2 n2 k2, .slice A3 1 k3] 30)) rfl
         have HOO := Lib.hid (fun w' (hf : Fr (fun _ => False) (w3.alloc (.cells #[.int .i64 1, .slice (some a1) 2 k1, .slice A2 n2 k2, .slice A3 1 k3] 30)) w') => And.intro (out_box (hf.heap (heap_alloc_new w3 _) (fun x => x)) rfl) (And.intro ((((Fr.refl (fun _ => False) w3).alloc (.cells #[.int .i64 1, .slice (some a1) 2 k1, .slice A2 n2 k2, .slice A3 1 k3] 30)).trans hf).cell G1.out (fun x => x)) ((((Fr.refl (fun _ => False) w3).alloc (.cells #[.int .i64 1, .slice (some a1) 2 k1, .slice A2 n2 k2, .slice A3 1 k3] 30)).trans hf).cell G4.out (fun x => x))))
         clear ho hf3)
      | (go_at_call 9
         (with_reducible refine (first7_calls _).mono ?_)
         rintro ex w6 ⟨rfl, hf6⟩
         clear p0 p1 p2 p3
         obtain ⟨⟨p0, p1, p2, p3⟩, g1, g4⟩ := HOO.out _ hf6
         replace hk := hk.trans hf6))
    go_ret
    exact ⟨rfl, hk⟩
  · have hvb : (v != 0) = true := by simpa using h0
    have HRUN := Lib.hid (fun (H : Option Addr) (A : Option Addr) (F G : Nat → Prop) (w' : World) (h : ProgAt w' F A 4 4 pJ) (hh : Flat w' G H 1 [v]) => run_ok cJ H 1 1 [v] A 4 4 pJ F G w' h shortJ hh HV.out okJ (by rw [wJ]; rfl) _ (fullJ v h0))
    unfold Conf.val at HRUN
    dsimp only [cJ, PS.after] at HRUN
    clear h0
    go_enter Try.func5, Try.ntmps5
    go_wp2_with (first
      | (go_at_call 9
         clear T1
         (with_reducible refine (first7_calls _).mono ?_)
         rintro ex w1 ⟨rfl, hf1⟩
         have hk := ((hf1.alloc (.cells #[.int .i64 1, .int .i64 1, .int .i64 1, .int .i64 1, .int .i64 1, .int .i64 0, .int .i64 2, .int .i64 9, .int .i64 9, .int .i64 0, .int .i64 9, .int .i64 0] 23)).alloc (.cells #[.int .i64 1, .int .i64 0, .int .i64 0, .int .i64 (-1), .slice none 0 0, .int .i64 5, .int .i64 0, .int .i64 4, .int .i64 0, .slice none 0 0, .int .i64 3, .int .i64 1, .int .i64 5, .int .i64 0, .slice none 0 0, .int .i64 2, .int .i64 1, .int .i64 0, .int .i64 (-1), .slice none 0 0] 41)).alloc (.cells #[.int .i64 v] 3)
         have HP := Lib.hid ((progJ (w1.alloc (.cells #[.int .i64 1, .int .i64 1, .int .i64 1, .int .i64 1, .int .i64 1, .int .i64 0, .int .i64 2, .int .i64 9, .int .i64 9, .int .i64 0, .int .i64 9, .int .i64 0] 23)) (b := w1.heap.size + 1) (by simp)).frame ((Fr.refl (fun _ => False) _).alloc (.cells #[.int .i64 v] 3)) (fun _ _ x => x.elim))
         have HH := Lib.hid (flat_new ((w1.alloc (.cells #[.int .i64 1, .int .i64 1, .int .i64 1, .int .i64 1, .int .i64 1, .int .i64 0, .int .i64 2, .int .i64 9, .int .i64 9, .int .i64 0, .int .i64 9, .int .i64 0] 23)).alloc (.cells #[.int .i64 1, .int .i64 0, .int .i64 0, .int .i64 (-1), .slice none 0 0, .int .i64 5, .int .i64 0, .int .i64 4, .int .i64 0, .slice none 0 0, .int .i64 3, .int .i64 1, .int .i64 5, .int .i64 0, .slice none 0 0, .int .i64 2, .int .i64 1, .int .i64 0, .int .i64 (-1), .slice none 0 0] 41)) [v] (arr := #[.int .i64 v]) 3 rfl (n := 1) rfl (b := w1.heap.size + 1 + 1)))
      | (go_at_call 11
         go_loud ((with_reducible refine (HRUN.out _ _ _ _ _ HP.out HH.out).mono ?_))
         rintro ex w3 ⟨A1, n1, k1, A2, n2, k2, A3, n3, k3, A4, n4, k4, rfl, ho, hf3⟩
         have en1 : 2 = n1 := ho.g.len
         have en4 : 1 = n4 := ho.h.len
         have en3 : 0 = n3 := by have h : 0 = n3 * 2 := ho.w_.len; omega
         subst en1 en4 en3
         obtain ⟨a1, rfl, _, g1⟩ := ho.g.at_ (by decide)
         obtain ⟨a4, rfl, _, g4⟩ := ho.h.at_ (by decide)
         have G1 := Lib.hid (show w3.cell? ⟨a1.block, a1.off + 1, none⟩ = some (.int .i64 0) by have h := g1 (0 + 1) (by decide); rw [add_past a1 0 1 (by decide), Addr.add_zero'] at h; exact h)
         have G4 := Lib.hid (show w3.cell? a4 = some (.int .i64 v) by have h := g4 0 (by decide); rw [Addr.add_zero'] at h; exact h)
         clear g1 g4
         replace hk := (hk.trans hf3).alloc (.cells #[.int .i64 1, .slice (some a1) 2 k1, .slice A2 n2 k2, .slice A3 0 k3] 30)
         obtain ⟨p0, p1, p2, p3⟩ := out_box (heap_alloc_new w3 (.cells #[.int .i64 1, .slice (some a1) 2 k1, .slice A2 n2 k2, .slice A3 0 k3] 30)) rfl
         have HOO := Lib.hid (fun w' (hf : Fr (fun _ => False) (w3.alloc (.cells #[.int .i64 1, .slice (some a1) 2 k1, .slice A2 n2 k2, .slice A3 0 k3] 30)) w') => And.intro (out_box (hf.heap (heap_alloc_new w3 _) (fun x => x)) rfl) (And.intro ((((Fr.refl (fun _ => False) w3).alloc (.cells #[.int .i64 1, .slice (some a1) 2 k1, .slice A2 n2 k2, .slice A3 0 k3] 30)).trans hf).cell G1.out (fun x => x)) ((((Fr.refl (fun _ => False) w3).alloc (.cells #[.int .i64 1, .slice (some a1) 2 k1, .slice A2 n2 k2, .slice A3 0 k3] 30)).trans hf).cell G4.out (fun x => x))))
         clear ho hf3)
      | (go_at_call 9
         (with_reducible refine (first7_calls _).mono ?_)
         rintro ex w6 ⟨rfl, hf6⟩
         clear p0 p1 p2 p3
         obtain ⟨⟨p0, p1, p2, p3⟩, g1, g4⟩ := HOO.out _ hf6
         replace hk := hk.trans hf6))
    go_ret
    exact ⟨rfl, hk⟩
end Go.Proofs.Ytfbdfboekgjbcaa
