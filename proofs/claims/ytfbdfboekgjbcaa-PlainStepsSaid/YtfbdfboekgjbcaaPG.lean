/- ltklaw7.PlainChain answers true. -/
import Derived.Test.YtfbdfboekgjbcaaPD
namespace Go.Proofs.Ytfbdfboekgjbcaa
open Go.RowKit

def cC : Conf := ⟨1, 1, 1, 2, 1, 0, 2, 9, 9, 0, 9, 0⟩
def pC (v : Int) : List Ins := [⟨3, 0, v, 0, []⟩, ⟨2, 0, 0, -1, []⟩, ⟨1, 1, 0, -1, []⟩]
def qC (u : Int) : List Ins := [⟨1, 0, 0, -1, []⟩, ⟨3, 1, u, 0, []⟩, ⟨4, 0, 0, 0, [0, 1]⟩, ⟨2, 0, 1, -1, []⟩]
theorem wC : cC.words = 2 := by decide +kernel
theorem fineC : cC.Fine := by decide +kernel
theorem okC (v : Int) : progOk cC (pC v) = true := by
  rw [progOk_iff]
  refine ⟨fineC, by simp [pC], fun i hi => ?_⟩
  have : i = 0 ∨ i = 1 ∨ i = 2 := by simp [pC] at hi; omega
  rcases this with rfl | rfl | rfl <;> rfl
theorem okQ (v : Int) : progOk cC (qC v) = true := by
  rw [progOk_iff]
  refine ⟨fineC, by simp [qC], fun i hi => ?_⟩
  have : i = 0 ∨ i = 1 ∨ i = 2 ∨ i = 3 := by simp [qC] at hi; omega
  rcases this with rfl | rfl | rfl | rfl <;> rfl
theorem fullC (v : Int) : fullP cC [7, 9] (pC v) = ⟨[v, v], [v, 9], [0, v], [0, v], 1⟩ := by
  simp [fullP, begP, pC, runP, PS.step, PS.next, addrV, wC, wrapV, show cC.rg.toNat = 2 from rfl, List.replicate]
theorem fullQ (v u : Int) : fullP cC [v, 9] (qC u) = ⟨[wrap64 (v + u), u], [v, wrap64 (v + u)], [0, v], [1, wrap64 (v + u)], 1⟩ := by
  simp [fullP, begP, qC, runP, PS.step, PS.next, addrV, wC, wrapV, show cC.rg.toNat = 2 from rfl, List.replicate, evalV]
  rw [if_pos (by decide +kernel)]; rfl
theorem shortC (v : Int) : Short (pC v) := fun x hx => by
  simp only [pC, List.mem_cons, List.not_mem_nil, or_false] at hx
  rcases hx with rfl | rfl | rfl <;> exact Nat.zero_le _
theorem shortQ (v : Int) : Short (qC v) := fun x hx => by
  simp only [qC, List.mem_cons, List.not_mem_nil, or_false] at hx
  rcases hx with rfl | rfl | rfl | rfl <;> first | exact Nat.zero_le _ | (unfold maxLen; decide) | decide
/-- A program in a block that was just built. -/
theorem prog_new (w : World) (arr : Array Value) (T : TypeId) {b : Nat} (hb : w.heap.size = b) (p : List Ins) {n : Nat} (hn : p.length = n) (hrow : ∀ i, i < n → InsRow (w.alloc (.cells arr T (0, 0))) (fun _ => True) arr.toList i (p.getD i default)) (hi : ∀ x ∈ p, I64 x.b) :
    ProgAt (w.alloc (.cells arr T (0, 0))) (fun _ => True) (some ⟨b, 0, none⟩) n n p := by
  subst hb
  refine ⟨hn, Nat.le_refl _, ⟨arr.toList, fun _ => ⟨_, rfl, trivial, fun j u hj => ?_⟩, hrow⟩, hi⟩
  have h1 : (Addr.mk w.heap.size 0 none).add j = ⟨w.heap.size, j, none⟩ := by unfold Addr.add; split <;> simp_all
  rw [h1, blk_cell (heap_alloc_new w _), ← hj]
  simp
theorem row_nil (w : World) (F : Nat → Prop) (cs : List Value) (i : Nat) (x : Ins) (h : InsAt cs i x (.slice none 0 0)) (hx : x.l = []) : InsRow w F cs i x :=
  ⟨none, 0, 0, h, Nat.le_refl _, by rw [hx]; exact Flat.nil _ _ _⟩
theorem insAt {cs : List Value} {i : Nat} {x : Ins} {v : Value} (h0 : cs[i * 5 + 0]? = some (.int .i64 x.k)) (h1 : cs[i * 5 + 1]? = some (.int .i64 x.a)) (h2 : cs[i * 5 + 2]? = some (.int .i64 x.b)) (h3 : cs[i * 5 + 3]? = some (.int .i64 x.c)) (h4 : cs[i * 5 + 4]? = some v) : InsAt cs i x v := fun j hj => by
  have : j = 0 ∨ j = 1 ∨ j = 2 ∨ j = 3 ∨ j = 4 := by omega
  rcases this with rfl | rfl | rfl | rfl | rfl
  · exact h0
  · exact h1
  · exact h2
  · exact h3
  · exact h4
theorem progC (v : Int) (hv : I64 v) (w : World) {b : Nat} (hb : w.heap.size = b) : ProgAt (w.alloc (.cells #[.int .i64 3, .int .i64 0, .int .i64 v, .int .i64 0, .slice none 0 0, .int .i64 2, .int .i64 0, .int .i64 0, .int .i64 (-1), .slice none 0 0, .int .i64 1, .int .i64 1, .int .i64 0, .int .i64 (-1), .slice none 0 0] 41 (0, 0))) (fun _ => True) (some ⟨b, 0, none⟩) 3 3 (pC v) := by
  refine prog_new w _ _ hb _ rfl (fun i hi => ?_) (fun x hx => ?_)
  · have : i = 0 ∨ i = 1 ∨ i = 2 := by omega
    rcases this with rfl | rfl | rfl <;> exact row_nil _ _ _ _ _ (insAt rfl rfl rfl rfl rfl) rfl
  · simp only [pC, List.mem_cons, List.not_mem_nil, or_false] at hx
    rcases hx with rfl | rfl | rfl
    · exact hv
    · exact ⟨by decide, by decide⟩
    · exact ⟨by decide, by decide⟩
theorem progQ (v : Int) (hv : I64 v) (w : World) {a b : Nat} (hb : w.heap.size = b) (ha : Flat w (fun _ => True) (some ⟨a, 0, none⟩) 2 [0, 1]) : ProgAt (w.alloc (.cells #[.int .i64 1, .int .i64 0, .int .i64 0, .int .i64 (-1), .slice none 0 0, .int .i64 3, .int .i64 1, .int .i64 v, .int .i64 0, .slice none 0 0, .int .i64 4, .int .i64 0, .int .i64 0, .int .i64 0, .slice (some ⟨a, 0, none⟩) 2 2, .int .i64 2, .int .i64 0, .int .i64 1, .int .i64 (-1), .slice none 0 0] 41 (0, 0))) (fun _ => True) (some ⟨b, 0, none⟩) 4 4 (qC v) := by
  refine prog_new w _ _ hb _ rfl (fun i hi => ?_) (fun x hx => ?_)
  · have : i = 0 ∨ i = 1 ∨ i = 3 ∨ i = 2 := by omega
    rcases this with rfl | rfl | rfl | rfl
    iterate 3 exact row_nil _ _ _ _ _ (insAt rfl rfl rfl rfl rfl) rfl
    exact ⟨_, 2, 2, insAt rfl rfl rfl rfl rfl, Nat.le_refl _, ha.frame ((Fr.refl (fun _ => False) w).alloc _) (fun _ _ x => x.elim)⟩
  · simp only [qC, List.mem_cons, List.not_mem_nil, or_false] at hx
    rcases hx with rfl | rfl | rfl | rfl
    · exact ⟨by decide, by decide⟩
    · exact hv
    · exact ⟨by decide, by decide⟩
    · exact ⟨by decide, by decide⟩
set_option maxRecDepth 100000 in
set_option maxHeartbeats 2000000 in
theorem chain_walk (v u : Int) (w : World) (hv : (Lit.int .i64 v).wf = true) (hu : (Lit.int .i64 u).wf = true) :
    Calls Try.prog 6 #[.int .i64 v, .int .i64 u] w fun e w' => e = .returned (.bool true) ∧ Fr (fun _ => False) w w' := by
  have HV := Lib.hid (I64.of hv)
  have HU := Lib.hid (I64.of hu)
  clear hv hu
  have HRUN1 := Lib.hid (fun (H : Option Addr) (A : Option Addr) (F G : Nat → Prop) (w' : World) (h : ProgAt w' F A 3 3 (pC v)) (hh : Flat w' G H 2 [7, 9]) => run_ok cC H 2 2 [7, 9] A 3 3 (pC v) F G w' h (shortC v) hh (fun y hy => by
    simp only [List.mem_cons, List.not_mem_nil, or_false] at hy
    rcases hy with rfl | rfl <;> exact ⟨by decide, by decide⟩) (okC v) (by rw [wC]; rfl) _ (fullC v))
  have HRUN2 := Lib.hid (fun (H : Option Addr) (hc : Nat) (A : Option Addr) (F G : Nat → Prop) (w' : World) (h : ProgAt w' F A 4 4 (qC u)) (hh : Flat w' G H 2 [v, 9]) => run_ok cC H 2 hc [v, 9] A 4 4 (qC u) F G w' h (shortQ u) hh (fun y hy => by
    simp only [List.mem_cons, List.not_mem_nil, or_false] at hy
    rcases hy with rfl | rfl
    · exact HV.out
    · exact ⟨by decide, by decide⟩) (okQ u) (by rw [wC]; rfl) _ (fullQ v u))
  unfold Conf.val at HRUN1 HRUN2
  dsimp only [cC, PS.after] at HRUN1 HRUN2
  have T1 := Lib.hid trivial
  have T2 := Lib.hid trivial
  have T3 := Lib.hid trivial
  go_enter Try.func6, Try.ntmps6
  go_wp2_with (first
      | (go_at_call 9
         clear T1
         (with_reducible refine (first7_calls _).mono ?_)
         rintro ex w1 ⟨rfl, hf1⟩
         have hk := ((((hf1.alloc (.cells #[.int .i64 1, .int .i64 1, .int .i64 1, .int .i64 2, .int .i64 1, .int .i64 0, .int .i64 2, .int .i64 9, .int .i64 9, .int .i64 0, .int .i64 9, .int .i64 0] 23)).alloc (.cells #[.int .i64 3, .int .i64 0, .int .i64 v, .int .i64 0, .slice none 0 0, .int .i64 2, .int .i64 0, .int .i64 0, .int .i64 (-1), .slice none 0 0, .int .i64 1, .int .i64 1, .int .i64 0, .int .i64 (-1), .slice none 0 0] 41)).alloc (.cells #[.int .i64 0, .int .i64 1] 3)).alloc (.cells #[.int .i64 1, .int .i64 0, .int .i64 0, .int .i64 (-1), .slice none 0 0, .int .i64 3, .int .i64 1, .int .i64 u, .int .i64 0, .slice none 0 0, .int .i64 4, .int .i64 0, .int .i64 0, .int .i64 0, .slice (some ⟨w1.heap.size + 1 + 1, 0, none⟩) 2 2, .int .i64 2, .int .i64 0, .int .i64 1, .int .i64 (-1), .slice none 0 0] 41)).alloc (.cells #[.int .i64 7, .int .i64 9] 3)
         have hb := ((((Fr.refl (fun _ => False) (w1.alloc (.cells #[.int .i64 1, .int .i64 1, .int .i64 1, .int .i64 2, .int .i64 1, .int .i64 0, .int .i64 2, .int .i64 9, .int .i64 9, .int .i64 0, .int .i64 9, .int .i64 0] 23))).alloc (.cells #[.int .i64 3, .int .i64 0, .int .i64 v, .int .i64 0, .slice none 0 0, .int .i64 2, .int .i64 0, .int .i64 0, .int .i64 (-1), .slice none 0 0, .int .i64 1, .int .i64 1, .int .i64 0, .int .i64 (-1), .slice none 0 0] 41)).alloc (.cells #[.int .i64 0, .int .i64 1] 3)).alloc (.cells #[.int .i64 1, .int .i64 0, .int .i64 0, .int .i64 (-1), .slice none 0 0, .int .i64 3, .int .i64 1, .int .i64 u, .int .i64 0, .slice none 0 0, .int .i64 4, .int .i64 0, .int .i64 0, .int .i64 0, .slice (some ⟨w1.heap.size + 1 + 1, 0, none⟩) 2 2, .int .i64 2, .int .i64 0, .int .i64 1, .int .i64 (-1), .slice none 0 0] 41)).alloc (.cells #[.int .i64 7, .int .i64 9] 3)
         have hq := Fr.refl (fun _ => False) (((((w1.alloc (.cells #[.int .i64 1, .int .i64 1, .int .i64 1, .int .i64 2, .int .i64 1, .int .i64 0, .int .i64 2, .int .i64 9, .int .i64 9, .int .i64 0, .int .i64 9, .int .i64 0] 23)).alloc (.cells #[.int .i64 3, .int .i64 0, .int .i64 v, .int .i64 0, .slice none 0 0, .int .i64 2, .int .i64 0, .int .i64 0, .int .i64 (-1), .slice none 0 0, .int .i64 1, .int .i64 1, .int .i64 0, .int .i64 (-1), .slice none 0 0] 41)).alloc (.cells #[.int .i64 0, .int .i64 1] 3)).alloc (.cells #[.int .i64 1, .int .i64 0, .int .i64 0, .int .i64 (-1), .slice none 0 0, .int .i64 3, .int .i64 1, .int .i64 u, .int .i64 0, .slice none 0 0, .int .i64 4, .int .i64 0, .int .i64 0, .int .i64 0, .slice (some ⟨w1.heap.size + 1 + 1, 0, none⟩) 2 2, .int .i64 2, .int .i64 0, .int .i64 1, .int .i64 (-1), .slice none 0 0] 41)).alloc (.cells #[.int .i64 7, .int .i64 9] 3))
         have HBX := Lib.hid (box_all w1 cC)
         dsimp only [cC] at HBX
         have HP := Lib.hid ((progC v HV.out (w1.alloc (.cells #[.int .i64 1, .int .i64 1, .int .i64 1, .int .i64 2, .int .i64 1, .int .i64 0, .int .i64 2, .int .i64 9, .int .i64 9, .int .i64 0, .int .i64 9, .int .i64 0] 23)) (b := w1.heap.size + 1) (by simp)).frame ((((Fr.refl (fun _ => False) _).alloc (.cells #[.int .i64 0, .int .i64 1] 3)).alloc (.cells #[.int .i64 1, .int .i64 0, .int .i64 0, .int .i64 (-1), .slice none 0 0, .int .i64 3, .int .i64 1, .int .i64 u, .int .i64 0, .slice none 0 0, .int .i64 4, .int .i64 0, .int .i64 0, .int .i64 0, .slice (some ⟨w1.heap.size + 1 + 1, 0, none⟩) 2 2, .int .i64 2, .int .i64 0, .int .i64 1, .int .i64 (-1), .slice none 0 0] 41)).alloc (.cells #[.int .i64 7, .int .i64 9] 3)) (fun _ _ x => x.elim))
         have HQ := Lib.hid (fun w' (hf : Fr (fun _ => False) (((((w1.alloc (.cells #[.int .i64 1, .int .i64 1, .int .i64 1, .int .i64 2, .int .i64 1, .int .i64 0, .int .i64 2, .int .i64 9, .int .i64 9, .int .i64 0, .int .i64 9, .int .i64 0] 23)).alloc (.cells #[.int .i64 3, .int .i64 0, .int .i64 v, .int .i64 0, .slice none 0 0, .int .i64 2, .int .i64 0, .int .i64 0, .int .i64 (-1), .slice none 0 0, .int .i64 1, .int .i64 1, .int .i64 0, .int .i64 (-1), .slice none 0 0] 41)).alloc (.cells #[.int .i64 0, .int .i64 1] 3)).alloc (.cells #[.int .i64 1, .int .i64 0, .int .i64 0, .int .i64 (-1), .slice none 0 0, .int .i64 3, .int .i64 1, .int .i64 u, .int .i64 0, .slice none 0 0, .int .i64 4, .int .i64 0, .int .i64 0, .int .i64 0, .slice (some ⟨w1.heap.size + 1 + 1, 0, none⟩) 2 2, .int .i64 2, .int .i64 0, .int .i64 1, .int .i64 (-1), .slice none 0 0] 41)).alloc (.cells #[.int .i64 7, .int .i64 9] 3)) w') => (progQ u HU.out (((w1.alloc (.cells #[.int .i64 1, .int .i64 1, .int .i64 1, .int .i64 2, .int .i64 1, .int .i64 0, .int .i64 2, .int .i64 9, .int .i64 9, .int .i64 0, .int .i64 9, .int .i64 0] 23)).alloc (.cells #[.int .i64 3, .int .i64 0, .int .i64 v, .int .i64 0, .slice none 0 0, .int .i64 2, .int .i64 0, .int .i64 0, .int .i64 (-1), .slice none 0 0, .int .i64 1, .int .i64 1, .int .i64 0, .int .i64 (-1), .slice none 0 0] 41)).alloc (.cells #[.int .i64 0, .int .i64 1] 3)) (a := w1.heap.size + 1 + 1) (b := w1.heap.size + 1 + 1 + 1) (by simp) ((flat_new ((w1.alloc (.cells #[.int .i64 1, .int .i64 1, .int .i64 1, .int .i64 2, .int .i64 1, .int .i64 0, .int .i64 2, .int .i64 9, .int .i64 9, .int .i64 0, .int .i64 9, .int .i64 0] 23)).alloc (.cells #[.int .i64 3, .int .i64 0, .int .i64 v, .int .i64 0, .slice none 0 0, .int .i64 2, .int .i64 0, .int .i64 0, .int .i64 (-1), .slice none 0 0, .int .i64 1, .int .i64 1, .int .i64 0, .int .i64 (-1), .slice none 0 0] 41)) [0, 1] (arr := #[.int .i64 0, .int .i64 1]) 3 rfl (n := 2) rfl (b := w1.heap.size + 1 + 1)).mono (fun _ _ _ => trivial))).frame (((Fr.refl (fun _ => False) _).alloc (.cells #[.int .i64 7, .int .i64 9] 3)).trans hf) (fun _ _ x => x.elim))
         have HH := Lib.hid (flat_new ((((w1.alloc (.cells #[.int .i64 1, .int .i64 1, .int .i64 1, .int .i64 2, .int .i64 1, .int .i64 0, .int .i64 2, .int .i64 9, .int .i64 9, .int .i64 0, .int .i64 9, .int .i64 0] 23)).alloc (.cells #[.int .i64 3, .int .i64 0, .int .i64 v, .int .i64 0, .slice none 0 0, .int .i64 2, .int .i64 0, .int .i64 0, .int .i64 (-1), .slice none 0 0, .int .i64 1, .int .i64 1, .int .i64 0, .int .i64 (-1), .slice none 0 0] 41)).alloc (.cells #[.int .i64 0, .int .i64 1] 3)).alloc (.cells #[.int .i64 1, .int .i64 0, .int .i64 0, .int .i64 (-1), .slice none 0 0, .int .i64 3, .int .i64 1, .int .i64 u, .int .i64 0, .slice none 0 0, .int .i64 4, .int .i64 0, .int .i64 0, .int .i64 0, .slice (some ⟨w1.heap.size + 1 + 1, 0, none⟩) 2 2, .int .i64 2, .int .i64 0, .int .i64 1, .int .i64 (-1), .slice none 0 0] 41)) [7, 9] (arr := #[.int .i64 7, .int .i64 9]) 3 rfl (n := 2) rfl (b := w1.heap.size + 1 + 1 + 1 + 1)))
      | (go_at_call 11
         clear T2
         ((with_reducible refine (HRUN1.out _ _ _ _ _ HP.out HH.out).mono ?_))
         rintro ex w3 ⟨A1, n1, k1, A2, n2, k2, A3, n3, k3, A4, n4, k4, rfl, ho, hf3⟩
         have en1 : 2 = n1 := ho.g.len
         have en2 : 1 = n2 := by have h : 2 = n2 * 2 := ho.r.len; omega
         have en4 : 2 = n4 := ho.h.len
         subst en1 en2 en4
         obtain ⟨a1, rfl, _, g1⟩ := ho.g.at_ (by decide)
         obtain ⟨a2, rfl, _, g2⟩ := ho.r.at_ (by decide)
         have hfo := (Fr.refl (fun _ => False) w3).alloc (.cells #[.int .i64 1, .slice (some a1) 2 k1, .slice (some a2) 1 k2, .slice A3 n3 k3] 30)
         have G1 := Lib.hid (show w3.cell? ⟨a1.block, a1.off + 1, none⟩ = some (.int .i64 v) by have h := g1 (0 + 1) (by decide); rw [add_past a1 0 1 (by decide), Addr.add_zero'] at h; exact h)
         have G2 := Lib.hid (show w3.cell? ⟨a2.block, a2.off + 1, none⟩ = some (.int .i64 v) by have h := g2 (0 + 1) (by decide); rw [add_past a2 0 1 (by decide), Addr.add_zero'] at h; exact h)
         have G4 := Lib.hid (show Flat w3 _ A4 2 [v, 9] from ho.h)
         have HO1 := Lib.hid (fun w' (hf : Fr (fun _ => False) (w3.alloc (.cells #[.int .i64 1, .slice (some a1) 2 k1, .slice (some a2) 1 k2, .slice A3 n3 k3] 30)) w') => And.intro (out_box (hf.heap (heap_alloc_new w3 _) (fun x => x)) rfl) (And.intro ((hfo.trans hf).cell G1.out (fun x => x)) (And.intro ((hfo.trans hf).cell G2.out (fun x => x)) (G4.out.frame (hfo.trans hf) (fun _ _ x => x.elim)))))
         clear g1 g2 ho hfo
         replace hk := (hk.trans hf3).alloc (.cells #[.int .i64 1, .slice (some a1) 2 k1, .slice (some a2) 1 k2, .slice A3 n3 k3] 30)
         replace hb := (hb.trans hf3).alloc (.cells #[.int .i64 1, .slice (some a1) 2 k1, .slice (some a2) 1 k2, .slice A3 n3 k3] 30)
         replace hq := (hq.trans hf3).alloc (.cells #[.int .i64 1, .slice (some a1) 2 k1, .slice (some a2) 1 k2, .slice A3 n3 k3] 30)
         have h1 := Fr.refl (fun _ => False) (w3.alloc (.cells #[.int .i64 1, .slice (some a1) 2 k1, .slice (some a2) 1 k2, .slice A3 n3 k3] 30))
         clear hf3
         obtain ⟨c0, c1, c2, c3, c4, c5, c6, c7, c8, c9, c10, c11⟩ := HBX.out _ hb
         try (obtain ⟨⟨p0, p1, p2, p3⟩, p4, p5, _⟩ := HO1.out _ h1)
         try (obtain ⟨⟨q0, q1, q2, q3⟩, q4, q5, _⟩ := HO2.out _ h2)
)
      | (go_at_call 11
         ((with_reducible refine (HRUN2.out _ _ _ _ _ _ (HQ.out _ hq) (HO1.out _ h1).2.2.2).mono ?_))
         rintro ex w4 ⟨B1, m1, e1, B2, m2, e2, B3, m3, e3, B4, m4, e4, rfl, ho, hf3⟩
         have en1 : 2 = m1 := ho.g.len
         have en2 : 1 = m2 := by have h : 2 = m2 * 2 := ho.r.len; omega
         have en4 : 2 = m4 := ho.h.len
         subst en1 en2 en4
         obtain ⟨b1, rfl, _, g1⟩ := ho.g.at_ (by decide)
         obtain ⟨b2, rfl, _, g2⟩ := ho.r.at_ (by decide)
         have hfo := (Fr.refl (fun _ => False) w4).alloc (.cells #[.int .i64 1, .slice (some b1) 2 e1, .slice (some b2) 1 e2, .slice B3 m3 e3] 30)
         have G21 := Lib.hid (show w4.cell? ⟨b2.block, b2.off + 1, none⟩ = some (.int .i64 v) by have h := g2 (0 + 1) (by decide); rw [add_past b2 0 1 (by decide), Addr.add_zero'] at h; exact h)
         have G41 := Lib.hid (show Flat w4 _ B4 2 [v, wrap64 (v + u)] from ho.h)
         have HO2 := Lib.hid (fun w' (hf : Fr (fun _ => False) (w4.alloc (.cells #[.int .i64 1, .slice (some b1) 2 e1, .slice (some b2) 1 e2, .slice B3 m3 e3] 30)) w') => And.intro (out_box (hf.heap (heap_alloc_new w4 _) (fun x => x)) rfl) (And.intro ((hfo.trans hf).cell G21.out (fun x => x)) (And.intro ((hfo.trans hf).cell G21.out (fun x => x)) (G41.out.frame (hfo.trans hf) (fun _ _ x => x.elim)))))
         clear g1 g2 ho hfo
         try (clear c0 c1 c2 c3 c4 c5 c6 c7 c8 c9 c10 c11)
         try (clear p0 p1 p2 p3 p4 p5)
         try (clear q0 q1 q2 q3 q4 q5)
         replace hk := (hk.trans hf3).alloc (.cells #[.int .i64 1, .slice (some b1) 2 e1, .slice (some b2) 1 e2, .slice B3 m3 e3] 30)
         replace hb := (hb.trans hf3).alloc (.cells #[.int .i64 1, .slice (some b1) 2 e1, .slice (some b2) 1 e2, .slice B3 m3 e3] 30)
         replace hq := (hq.trans hf3).alloc (.cells #[.int .i64 1, .slice (some b1) 2 e1, .slice (some b2) 1 e2, .slice B3 m3 e3] 30)
         replace h1 := (h1.trans hf3).alloc (.cells #[.int .i64 1, .slice (some b1) 2 e1, .slice (some b2) 1 e2, .slice B3 m3 e3] 30)
         have h2 := Fr.refl (fun _ => False) (w4.alloc (.cells #[.int .i64 1, .slice (some b1) 2 e1, .slice (some b2) 1 e2, .slice B3 m3 e3] 30))
         clear hf3
         obtain ⟨c0, c1, c2, c3, c4, c5, c6, c7, c8, c9, c10, c11⟩ := HBX.out _ hb
         try (obtain ⟨⟨p0, p1, p2, p3⟩, p4, p5, _⟩ := HO1.out _ h1)
         try (obtain ⟨⟨q0, q1, q2, q3⟩, q4, q5, _⟩ := HO2.out _ h2)
)
      | (go_at_call 9
         (with_reducible refine (first7_calls _).mono ?_)
         rintro ex w6 ⟨rfl, hf6⟩
         try (clear c0 c1 c2 c3 c4 c5 c6 c7 c8 c9 c10 c11)
         try (clear p0 p1 p2 p3 p4 p5)
         try (clear q0 q1 q2 q3 q4 q5)
         replace hk := hk.trans hf6
         replace hb := hb.trans hf6
         replace hq := hq.trans hf6
         try (replace h1 := h1.trans hf6)
         try (replace h2 := h2.trans hf6)
         clear hf6
         obtain ⟨c0, c1, c2, c3, c4, c5, c6, c7, c8, c9, c10, c11⟩ := HBX.out _ hb
         try (obtain ⟨⟨p0, p1, p2, p3⟩, p4, p5, _⟩ := HO1.out _ h1)
         try (obtain ⟨⟨q0, q1, q2, q3⟩, q4, q5, _⟩ := HO2.out _ h2)
)
      | (go_at_call 14
         clear T3
         ((with_reducible refine (ints_eq _ _ _ _ _ _ _ _ _ _ (HO1.out _ (h1.alloc (.cells #[.int .i64 v, .int .i64 9] 3))).2.2.2 (by simp) (flat_new _ [v, 9] (arr := #[.int .i64 v, .int .i64 9]) 3 rfl (n := 2) rfl (b := _) rfl)).mono ?_))
         rintro ex w7 ⟨rfl, hf6⟩
         try (clear c0 c1 c2 c3 c4 c5 c6 c7 c8 c9 c10 c11)
         try (clear p0 p1 p2 p3 p4 p5)
         try (clear q0 q1 q2 q3 q4 q5)
         replace hk := (hk.alloc (.cells #[.int .i64 v, .int .i64 9] 3)).trans hf6
         replace hb := (hb.alloc (.cells #[.int .i64 v, .int .i64 9] 3)).trans hf6
         replace hq := (hq.alloc (.cells #[.int .i64 v, .int .i64 9] 3)).trans hf6
         try (replace h1 := (h1.alloc (.cells #[.int .i64 v, .int .i64 9] 3)).trans hf6)
         try (replace h2 := (h2.alloc (.cells #[.int .i64 v, .int .i64 9] 3)).trans hf6)
         clear hf6
         obtain ⟨c0, c1, c2, c3, c4, c5, c6, c7, c8, c9, c10, c11⟩ := HBX.out _ hb
         try (obtain ⟨⟨p0, p1, p2, p3⟩, p4, p5, _⟩ := HO1.out _ h1)
         try (obtain ⟨⟨q0, q1, q2, q3⟩, q4, q5, _⟩ := HO2.out _ h2)
)
      | (go_at_call 14
         ((with_reducible refine (ints_eq _ _ _ _ _ _ _ _ _ _ (HO2.out _ (h2.alloc (.cells #[.int .i64 v, .int .i64 (wrap64 (v + u))] 3))).2.2.2 (by simp) (flat_new _ [v, wrap64 (v + u)] (arr := #[.int .i64 v, .int .i64 (wrap64 (v + u))]) 3 rfl (n := 2) rfl (b := _) rfl)).mono ?_))
         rintro ex w8 ⟨rfl, hf6⟩
         try (clear c0 c1 c2 c3 c4 c5 c6 c7 c8 c9 c10 c11)
         try (clear p0 p1 p2 p3 p4 p5)
         try (clear q0 q1 q2 q3 q4 q5)
         replace hk := (hk.alloc (.cells #[.int .i64 v, .int .i64 (wrap64 (v + u))] 3)).trans hf6
         replace hb := (hb.alloc (.cells #[.int .i64 v, .int .i64 (wrap64 (v + u))] 3)).trans hf6
         replace hq := (hq.alloc (.cells #[.int .i64 v, .int .i64 (wrap64 (v + u))] 3)).trans hf6
         try (replace h1 := (h1.alloc (.cells #[.int .i64 v, .int .i64 (wrap64 (v + u))] 3)).trans hf6)
         try (replace h2 := (h2.alloc (.cells #[.int .i64 v, .int .i64 (wrap64 (v + u))] 3)).trans hf6)
         clear hf6
         obtain ⟨c0, c1, c2, c3, c4, c5, c6, c7, c8, c9, c10, c11⟩ := HBX.out _ hb
         try (obtain ⟨⟨p0, p1, p2, p3⟩, p4, p5, _⟩ := HO1.out _ h1)
         try (obtain ⟨⟨q0, q1, q2, q3⟩, q4, q5, _⟩ := HO2.out _ h2)
))
  go_ret
  exact ⟨rfl, hk⟩
end Go.Proofs.Ytfbdfboekgjbcaa
