/- ltklaw2.CellPlays answers true. -/
import Derived.Test.YtellolecedpolaaL2Counts
import Derived.Test.YtellolecedpolaaL2Bytes
import Derived.Test.YtellolecedpolaaRefCells
import Derived.Deep.RegionHeld3
import Derived.Deep.DeepCutAuto
namespace Go.Proofs.Ytellolecedpolaa
open Go.RowKit

/-- The program's cells and the document's, alike. -/
structure Pair (w : World) (p ab q qb : Nat) (n : Nat) (s : CM) : Prop where
  c : CellsAt w p ab s
  x : Ref.CellsAt w q qb s
  len : s.xs.length = n
  rng : ∀ y ∈ s.xs, I64 y
  d1 : q ≠ p
  d2 : q ≠ ab
  d3 : qb ≠ p
  d4 : qb ≠ ab

theorem Ref.CellsAt.alloc {w : World} {p ab : Nat} {s : CM} (h : Ref.CellsAt w p ab s) (o : Obj) : Ref.CellsAt (w.alloc o) p ab s := ⟨h.len, blk_alloc h.hp o, blk_alloc h.ha o, h.ne⟩
theorem Ref.CellsAt.lt {w : World} {p ab : Nat} {s : CM} (h : Ref.CellsAt w p ab s) : p < w.heap.size ∧ ab < w.heap.size := ⟨blk_lt h.hp, blk_lt h.ha⟩

theorem CellsAt.drewN {w : World} {p ab : Nat} {s : CM} (h : CellsAt w p ab s) (n : Nat) : CellsAt (w.drewN n) p ab s := ⟨h.len, h.hp, h.ha, h.ne⟩
theorem Ref.CellsAt.drewN {w : World} {p ab : Nat} {s : CM} (h : Ref.CellsAt w p ab s) (n : Nat) : Ref.CellsAt (w.drewN n) p ab s := ⟨h.len, h.hp, h.ha, h.ne⟩
theorem get_I64 {s : CM} (h : ∀ y ∈ s.xs, I64 y) (a : Int) : I64 (s.get a) := by
  unfold CM.get
  rw [List.getD_eq_getElem?_getD]
  cases hx : s.xs[a.toNat]? with
  | none => simp [I64]
  | some y => exact h y (List.mem_of_getElem? hx)
theorem put_rng {s : CM} (h : ∀ y ∈ s.xs, I64 y) (a v : Int) (hv : I64 v) : ∀ y ∈ (s.tick.put a v).xs, I64 y := by
  intro y hy
  rcases List.mem_or_eq_of_mem_set hy with hy | rfl
  · exact h y hy
  · exact hv
theorem ite_rng {s t : CM} {c : Prop} [Decidable c] (h : ∀ y ∈ s.xs, I64 y) (k : ∀ y ∈ t.xs, I64 y) : ∀ y ∈ (if c then s else t).xs, I64 y := by split; exact h; exact k
theorem store_rng {s : CM} (h : ∀ y ∈ s.xs, I64 y) (a v : Int) (hv : I64 v) : ∀ y ∈ (s.store a v).xs, I64 y := ite_rng (put_rng h a v hv) h
theorem swap_rng {s : CM} (h : ∀ y ∈ s.xs, I64 y) (a o v : Int) (hv : I64 v) : ∀ y ∈ (s.swap a o v).xs, I64 y := ite_rng (put_rng h a v hv) h
theorem add_rng {s : CM} (h : ∀ y ∈ s.xs, I64 y) (a v : Int) : ∀ y ∈ (s.add a v).xs, I64 y := ite_rng (put_rng h a _ (I64_wrap64 _)) h
theorem storeB_rng {s : CM} (h : ∀ y ∈ s.xs, I64 y) (a k b : Int) : ∀ y ∈ (s.storeB a k b).xs, I64 y := ite_rng (put_rng h a _ (I64_bits _ _ _)) h
theorem rbyte_eq {s : CM} (h : ∀ y ∈ s.xs, I64 y) (a k : Int) : s.rbyte a k = s.byte a k := by
  unfold CM.rbyte CM.byte
  by_cases hi : s.inB a k = true
  · rw [if_pos hi, if_pos hi]
    unfold CM.inB at hi
    rw [Bool.and_eq_true] at hi
    obtain ⟨h0, h8⟩ := (part_iff k).1 hi.2
    obtain ⟨m, rfl⟩ := Int.eq_ofNat_of_zero_le h0
    rw [← byte_u (get_I64 h a) m (by omega) _ rfl, IntKind.wrap_i64]
    unfold Ref.rByte; rw [wrap64]
  · rw [if_neg hi, if_neg hi]

/-- The access in its block. -/
def OpAt (w : World) (b : Nat) (kd a k v u : Int) : Prop := w.heap[b]? = some (.cells #[.int .i64 kd, .int .i64 a, .int .i64 k, .int .i64 v, .int .i64 u] 30 (0, 0))
theorem OpAt.cell {w : World} {b : Nat} {kd a k v u : Int} (h : OpAt w b kd a k v u) :
    w.cell? ⟨b, 0, none⟩ = some (.int .i64 kd) ∧ w.cell? ⟨b, 1, none⟩ = some (.int .i64 a) ∧ w.cell? ⟨b, 2, none⟩ = some (.int .i64 k) ∧ w.cell? ⟨b, 3, none⟩ = some (.int .i64 v) ∧ w.cell? ⟨b, 4, none⟩ = some (.int .i64 u) := by
  unfold OpAt at h
  refine ⟨?_, ?_, ?_, ?_, ?_⟩ <;> (rw [blk_cell h]; rfl)

set_option maxRecDepth 100000 in
set_option maxHeartbeats 4000000 in
set_option linter.unusedVariables false in
theorem plays_long (m : Int) (A : Option Addr) (n cap : Nat) (xs : List (List Int)) (w : World) (_ : (Lit.int .i64 m).wf = true) (h : NumsIn 5 w A n xs) (hn : ¬ n ≤ 500) :
    Calls Try.prog 8 #[.int .i64 m, .slice A n cap] w fun e w' => e = .returned (.bool true) ∧ Fr (fun _ => False) w w' := by
  have hg : (500 : Int) < n := by omega
  clear hn
  go_enter Try.func8, Try.ntmps8
  go_wp2_with (first
      | (go_at_call 10; refine (first_calls _).mono ?_; rintro e w0 ⟨rfl, hf0⟩))
  all_goals go_ret
  all_goals exact ⟨rfl, by repeat (first | exact Fr.refl _ _ | assumption | refine Fr.trans ?_ (by assumption))⟩

set_option maxRecDepth 100000 in
set_option maxHeartbeats 4000000 in
set_option linter.unusedVariables false in
theorem plays_far (m : Int) (A : Option Addr) (n cap : Nat) (xs : List (List Int)) (w : World) (_ : (Lit.int .i64 m).wf = true) (h : NumsIn 5 w A n xs) (hn : n ≤ 500) (hm : ¬ (0 ≤ m ∧ m ≤ 65536)) :
    Calls Try.prog 8 #[.int .i64 m, .slice A n cap] w fun e w' => e = .returned (.bool true) ∧ Fr (fun _ => False) w w' := by
  have hg : m < 0 ∨ 65536 < m := by omega
  have HG := Lib.hid hg
  clear hm hg
  go_enter Try.func8, Try.ntmps8
  go_wp2_with (first
    | (go_at_call 10; refine (first_calls _).mono ?_; rintro e w0 ⟨rfl, hf0⟩)
    | (go_at_call 11; refine (new_bad m _ HG.out).mono ?_; rintro e w1 ⟨rfl, rfl⟩)
    | (go_at_call 20; refine (Ref.new_bad m _ HG.out).mono ?_; rintro e w2 ⟨rfl, rfl⟩))
  refine wp_loop_rounds 1 ?_
  rw [rounds_succ]
  go_wp2_with (go_at_call 10; refine (first_calls _).mono ?_; rintro e w5 ⟨rfl, hf5⟩)
  go_ret
  exact ⟨rfl, hf0.trans hf5⟩

set_option maxRecDepth 100000 in
set_option maxHeartbeats 4000000 in
set_option linter.unusedVariables false in
theorem plays_main (m : Int) (A : Option Addr) (n cap : Nat) (xs : List (List Int)) (w : World) (_ : (Lit.int .i64 m).wf = true) (h : NumsIn 5 w A n xs) (hn : n ≤ 500) (hm : 0 ≤ m ∧ m ≤ 65536) :
    Calls Try.prog 8 #[.int .i64 m, .slice A n cap] w fun e w' => e = .returned (.bool true) ∧ Fr (fun _ => False) w w' := by
  obtain ⟨hm0, hm1⟩ := hm
  go_enter Try.func8, Try.ntmps8
  go_wp2_with (first
    | (go_at_call 10; refine (first_calls _).mono ?_; rintro e w0 ⟨rfl, hf0⟩)
    | (go_at_call 11; refine (new_calls m _ hm0 hm1).mono ?_; rintro e w1 ⟨rfl, hc1, hf1⟩)
    | (go_at_call 20; refine (Ref.new_calls m _ hm0 hm1).mono ?_; rintro e w2 ⟨rfl, hc2, hf2⟩))
  have hl0 := hf0.size
  have hl1 := hc1.lt
  have hP : Pair w2 (w0.heap.size + 1) w0.heap.size (w1.heap.size + 1) w1.heap.size m.toNat (CM.zero m.toNat) :=
    ⟨hc1.frame hf2 (fun x => x) (fun x => x), hc2, by simp [CM.zero], fun y hy => by simp [CM.zero] at hy; rw [hy.2]; simp [I64], by omega, by omega, by omega, by omega⟩
  have hfw := (hf0.trans hf1).trans hf2
  clear hf0 hf1 hf2 hc1 hc2
  go_loopw [9] (fun v9 wr => ∃ (k : Nat) (s : CM), k ≤ n ∧ v9 = .int .i64 k ∧ Pair wr (w0.heap.size + 1) w0.heap.size (w1.heap.size + 1) w1.heap.size m.toNat s ∧ Fr (fun _ => False) w wr) (fun v9 _ => n - (intOf v9).toNat)
  case atStart => exact ⟨0, _, Nat.zero_le _, rfl, hP, hfw⟩
  case round =>
    obtain ⟨k, s, hk, rfl, hp, hf⟩ := hrel
    clear hP hfw
    by_cases hlt : k < n
    · obtain ⟨ad, rfl, hcs⟩ := h.at_ (by omega)
      obtain ⟨hl5, hcl⟩ := hcs k hlt
      have hwf := h.wf (xs.getD k []) (by rw [List.getD_eq_getElem?_getD, List.getElem?_eq_getElem (by rw [h.len]; exact hlt)]; exact List.getElem_mem _)
      generalize hx : xs.getD k [] = x at hl5 hcl hwf
      clear hx hcs
      match x, hl5, hcl, hwf with
      | [kd, a, b, v, u], _, hcl, hwf =>
      have HV := Lib.hid (I64.of (hwf v (by simp)))
      have q0 := hf.cell (hcl 0 (by omega)) (fun x => x)
      have q1 := hf.cell (hcl 1 (by omega)) (fun x => x)
      have q2 := hf.cell (hcl 2 (by omega)) (fun x => x)
      have q3 := hf.cell (hcl 3 (by omega)) (fun x => x)
      have q4 := hf.cell (hcl 4 (by omega)) (fun x => x)
      rw [add_past _ _ _ (by omega)] at q1 q2 q3 q4
      simp only [List.getD_cons_zero, List.getD_cons_succ, Nat.add_zero] at q0 q1 q2 q3 q4
      have hlw := hf.size
      clear hcl hwf
      go_upto_block 2 with fail
      have hpl := hp.c.lt
      have hxl := hp.x.lt
      have HD2 := Lib.hid (show _ ∧ _ ∧ _ ∧ _ from ⟨hp.d1, hp.d2, hp.d3, hp.d4⟩)
      have HD := Lib.hid (show ¬ two (w0.heap.size + 1) w0.heap.size (w1.heap.size + 1) ∧ ¬ two (w0.heap.size + 1) w0.heap.size w1.heap.size ∧ ¬ two (w1.heap.size + 1) w1.heap.size (w0.heap.size + 1) ∧ ¬ two (w1.heap.size + 1) w1.heap.size w0.heap.size ∧ ¬ two (w0.heap.size + 1) w0.heap.size wr.heap.size ∧ ¬ two (w1.heap.size + 1) w1.heap.size wr.heap.size from by
        have h1 := hp.d1; have h2 := hp.d2; have h3 := hp.d3; have h4 := hp.d4; unfold two; omega)
      have hc0 := hp.c.alloc (.cells #[.int .i64 kd, .int .i64 a, .int .i64 b, .int .i64 v, .int .i64 u] 30)
      have hx0 := hp.x.alloc (.cells #[.int .i64 kd, .int .i64 a, .int .i64 b, .int .i64 v, .int .i64 u] 30)
      have HO0 : Hid (OpAt (wr.alloc (.cells #[.int .i64 kd, .int .i64 a, .int .i64 b, .int .i64 v, .int .i64 u] 30)) wr.heap.size kd a b v u) := heap_alloc_new wr _
      have HR := Lib.hid hp.rng
      have HL := Lib.hid hp.len
      clear hp
      go_cut [11] (fun v11 wc => v11 = .bool true ∧ ∃ s', Pair wc (w0.heap.size + 1) w0.heap.size (w1.heap.size + 1) w1.heap.size m.toNat s' ∧ OpAt wc wr.heap.size kd a b v u ∧ Fr (fun _ => False) w wc)
      case first =>
        have hkd : ((kd == 0) = true) ∨ ((kd == 0) = false ∧ (kd == 1) = true) ∨ ((kd == 0) = false ∧ (kd == 1) = false ∧ (kd == 2) = true) ∨ ((kd == 0) = false ∧ (kd == 1) = false ∧ (kd == 2) = false ∧ (kd == 3) = true) ∨ ((kd == 0) = false ∧ (kd == 1) = false ∧ (kd == 2) = false ∧ (kd == 3) = false ∧ (kd == 4) = true) ∨ ((kd == 0) = false ∧ (kd == 1) = false ∧ (kd == 2) = false ∧ (kd == 3) = false ∧ (kd == 4) = false ∧ (kd == 5) = true) ∨ ((kd == 0) = false ∧ (kd == 1) = false ∧ (kd == 2) = false ∧ (kd == 3) = false ∧ (kd == 4) = false ∧ (kd == 5) = false) := by simp; omega
        rcases hkd with k0 | ⟨k0, k1⟩ | ⟨k0, k1, k2⟩ | ⟨k0, k1, k2, k3⟩ | ⟨k0, k1, k2, k3, k4⟩ | ⟨k0, k1, k2, k3, k4, k5⟩ | ⟨k0, k1, k2, k3, k4, k5⟩
        · as_aux_lemma =>
            go_wp2_with (first | (go_at_call 13; (with_reducible refine (load_calls _ _ s a _ hc0).mono ?_); rintro e w3 ⟨rfl, hc3, hf3⟩; have hx3 := hx0.frame hf3 HD.out.1 HD.out.2.1; have hO3 : OpAt w3 wr.heap.size kd a b v u := hf3.heap HO0.out HD.out.2.2.2.2.1; obtain ⟨o0, o1, o2, o3, o4⟩ := hO3.cell) | (go_at_call 21; (with_reducible refine (Ref.load_calls _ _ s a _ hx3).mono ?_); rintro e w4 ⟨rfl, hx4, hf4⟩; have hc4 := hc3.frame hf4 HD.out.2.2.1 HD.out.2.2.2.1; have hO4 : OpAt w4 wr.heap.size kd a b v u := hf4.heap hO3 HD.out.2.2.2.2.2))
            go_meet
            case rel => exact ⟨rfl, _, ⟨hc4, hx4, HL.out, HR.out, HD2.out.1, HD2.out.2.1, HD2.out.2.2.1, HD2.out.2.2.2⟩, hO4, ((hf.alloc _).fresh hf3 (by omega) (by omega)).fresh hf4 (by omega) (by omega)⟩
        · as_aux_lemma =>
            go_wp2
            go_region_held3 (fun w' => w'.cell? ⟨wr.heap.size, 0, none⟩ = some (.int .i64 kd) ∧ w'.cell? ⟨wr.heap.size, 1, none⟩ = some (.int .i64 a) ∧ w'.cell? ⟨wr.heap.size, 2, none⟩ = some (.int .i64 b) ∧ w'.cell? ⟨wr.heap.size, 3, none⟩ = some (.int .i64 v) ∧ w'.cell? ⟨wr.heap.size, 4, none⟩ = some (.int .i64 u))
              (first | exact OpAt.cell hO4 | exact OpAt.cell hO3 | go_keep)
              (first | (go_at_call 12; (with_reducible refine (store_calls _ _ s a v _ hc0.drew).mono ?_); rintro e w3 ⟨rfl, hc3, hf3⟩; have hx3 := hx0.drew.frame hf3 HD.out.1 HD.out.2.1; have hO3 : OpAt w3 wr.heap.size kd a b v u := hf3.heap (a := (wr.alloc _).drew) HO0.out HD.out.2.2.2.2.1) | (go_at_call 22; (with_reducible refine (Ref.store_calls _ _ s a v _ hx3).mono ?_); rintro e w4 ⟨rfl, hx4, hf4⟩; have hc4 := hc3.frame hf4 HD.out.2.2.1 HD.out.2.2.2.1; have hO4 : OpAt w4 wr.heap.size kd a b v u := hf4.heap hO3 HD.out.2.2.2.2.2))
            go_wp2
            go_meet
            case rel => exact ⟨rfl, _, ⟨hc4, hx4, by rw [(AnyTick.store s a v).len]; exact HL.out, store_rng HR.out a v HV.out, HD2.out.1, HD2.out.2.1, HD2.out.2.2.1, HD2.out.2.2.2⟩, hO4, ((hf.alloc _).drew.fresh hf3 (by omega) (by omega)).fresh hf4 (by omega) (by omega)⟩
        · as_aux_lemma =>
            go_wp2_with (first | (go_at_call 19; (with_reducible refine (swap_calls _ _ s a u v _ hc0).mono ?_); rintro e w3 ⟨rfl, hc3, hf3⟩; have hx3 := hx0.frame hf3 HD.out.1 HD.out.2.1; have hO3 : OpAt w3 wr.heap.size kd a b v u := hf3.heap HO0.out HD.out.2.2.2.2.1; obtain ⟨o0, o1, o2, o3, o4⟩ := hO3.cell) | (go_at_call 23; (with_reducible refine (Ref.swap_calls _ _ s a u v _ hx3).mono ?_); rintro e w4 ⟨rfl, hx4, hf4⟩; have hc4 := hc3.frame hf4 HD.out.2.2.1 HD.out.2.2.2.1; have hO4 : OpAt w4 wr.heap.size kd a b v u := hf4.heap hO3 HD.out.2.2.2.2.2))
            go_meet
            case rel => exact ⟨rfl, _, ⟨hc4, hx4, by rw [(AnyTick.swap s a u v).len]; exact HL.out, swap_rng HR.out a u v HV.out, HD2.out.1, HD2.out.2.1, HD2.out.2.2.1, HD2.out.2.2.2⟩, hO4, ((hf.alloc _).fresh hf3 (by omega) (by omega)).fresh hf4 (by omega) (by omega)⟩
        · as_aux_lemma =>
            go_wp2_with (first | (go_at_call 14; (with_reducible refine (add_calls _ _ s a v _ hc0).mono ?_); rintro e w3 ⟨rfl, hc3, hf3⟩; have hx3 := hx0.frame hf3 HD.out.1 HD.out.2.1; have hO3 : OpAt w3 wr.heap.size kd a b v u := hf3.heap HO0.out HD.out.2.2.2.2.1; obtain ⟨o0, o1, o2, o3, o4⟩ := hO3.cell) | (go_at_call 24; (with_reducible refine (Ref.add_calls _ _ s a v _ hx3).mono ?_); rintro e w4 ⟨rfl, hx4, hf4⟩; have hc4 := hc3.frame hf4 HD.out.2.2.1 HD.out.2.2.2.1; have hO4 : OpAt w4 wr.heap.size kd a b v u := hf4.heap hO3 HD.out.2.2.2.2.2))
            go_meet
            case rel => exact ⟨rfl, _, ⟨hc4, hx4, by rw [(AnyTick.add s a v).len]; exact HL.out, add_rng HR.out a v, HD2.out.1, HD2.out.2.1, HD2.out.2.2.1, HD2.out.2.2.2⟩, hO4, ((hf.alloc _).fresh hf3 (by omega) (by omega)).fresh hf4 (by omega) (by omega)⟩
        · as_aux_lemma =>
            go_wp2_with (first | (go_at_call 18; (with_reducible refine (loadByte_calls _ _ s a b _ hc0).mono ?_); rintro e w3 ⟨rfl, hc3, hf3⟩; have hx3 := hx0.frame hf3 HD.out.1 HD.out.2.1; have hO3 : OpAt w3 wr.heap.size kd a b v u := hf3.heap HO0.out HD.out.2.2.2.2.1; obtain ⟨o0, o1, o2, o3, o4⟩ := hO3.cell) | (go_at_call 25; (with_reducible refine (Ref.loadByte_calls _ _ s a b _ hx3).mono ?_); rw [rbyte_eq HR.out]; rintro e w4 ⟨rfl, hx4, hf4⟩; have hc4 := hc3.frame hf4 HD.out.2.2.1 HD.out.2.2.2.1; have hO4 : OpAt w4 wr.heap.size kd a b v u := hf4.heap hO3 HD.out.2.2.2.2.2))
            go_meet
            case rel => exact ⟨rfl, _, ⟨hc4, hx4, HL.out, HR.out, HD2.out.1, HD2.out.2.1, HD2.out.2.2.1, HD2.out.2.2.2⟩, hO4, ((hf.alloc _).fresh hf3 (by omega) (by omega)).fresh hf4 (by omega) (by omega)⟩
        · as_aux_lemma =>
            go_wp2
            go_region_held3 (fun w' => w'.cell? ⟨wr.heap.size, 0, none⟩ = some (.int .i64 kd) ∧ w'.cell? ⟨wr.heap.size, 1, none⟩ = some (.int .i64 a) ∧ w'.cell? ⟨wr.heap.size, 2, none⟩ = some (.int .i64 b) ∧ w'.cell? ⟨wr.heap.size, 3, none⟩ = some (.int .i64 v) ∧ w'.cell? ⟨wr.heap.size, 4, none⟩ = some (.int .i64 u))
              (first | exact OpAt.cell hO4 | exact OpAt.cell hO3 | go_keep)
              (first | (go_at_call 17; (with_reducible refine (storeByte_calls _ _ s a b v _ hc0.drew).mono ?_); rintro e w3 ⟨rfl, hc3, hf3⟩; have hx3 := hx0.drew.frame hf3 HD.out.1 HD.out.2.1; have hO3 : OpAt w3 wr.heap.size kd a b v u := hf3.heap (a := (wr.alloc _).drew) HO0.out HD.out.2.2.2.2.1) | (go_at_call 26; (with_reducible refine (Ref.storeByte_calls _ _ s a b v _ hx3).mono ?_); rintro e w4 ⟨rfl, hx4, hf4⟩; have hc4 := hc3.frame hf4 HD.out.2.2.1 HD.out.2.2.2.1; have hO4 : OpAt w4 wr.heap.size kd a b v u := hf4.heap hO3 HD.out.2.2.2.2.2))
            go_wp2
            go_meet
            case rel => exact ⟨rfl, _, ⟨hc4, hx4, by rw [(AnyTick.storeB s a b v).len]; exact HL.out, storeB_rng HR.out a b v, HD2.out.1, HD2.out.2.1, HD2.out.2.2.1, HD2.out.2.2.2⟩, hO4, ((hf.alloc _).drew.fresh hf3 (by omega) (by omega)).fresh hf4 (by omega) (by omega)⟩
        · as_aux_lemma =>
            go_wp2
            go_meet
            case rel => exact ⟨rfl, s, ⟨hc0, hx0, HL.out, HR.out, HD2.out.1, HD2.out.2.1, HD2.out.2.2.1, HD2.out.2.2.2⟩, HO0.out, hf.alloc _⟩
      case rest =>
        obtain ⟨rfl, s', hp', hO', hf'⟩ := hcut
        obtain ⟨o0, o1, o2, o3, o4⟩ := hO'.cell
        have x1 : wc.cell? ⟨w1.heap.size + 1, 1, none⟩ = some (.int .i64 s'.cnt) := by rw [blk_cell hp'.x.hp]; rfl
        have HC := Lib.hid hp'.c
        have HX := Lib.hid hp'.x
        have e1 : (s'.word a != s'.word a) = false := by simp
        have e2 : (s'.cnt != s'.cnt) = false := by simp
        have e3 : ((s'.xs.length : Int) != m) = false := by rw [hp'.len]; simp; omega
        have HP := Lib.hid hp'
        clear hp' hO' q0 q1 q2 q3 q4
        as_aux_lemma =>
          go_upto_region 35 with fail
          go_quiet ((first
            | (go_at_call 15; exact Calls.quiet_of_same (peek_calls _ _ s' _ _ (HC.out.drewN _)))
            | (go_at_call 27; exact Calls.quiet_of_same (Ref.peek_calls _ _ s' _ _ (HX.out.drewN _)))
            | (go_at_call 16; exact Calls.quiet_of_same (count_calls _ _ s' _ (HC.out.drewN _)))
            | (go_at_call 28; exact Calls.quiet_of_same (len_calls _ _ s' _ (HC.out.drewN _)))))
          go_wp2
          go_roundw
          case rel => exact ⟨k + 1, s', by omega, by go_num, ⟨⟨HP.out.c.len, HP.out.c.hp, HP.out.c.ha, HP.out.c.ne⟩, ⟨HP.out.x.len, HP.out.x.hp, HP.out.x.ha, HP.out.x.ne⟩, HP.out.len, HP.out.rng, HP.out.d1, HP.out.d2, HP.out.d3, HP.out.d4⟩, hf'.drewN _⟩
          case measure => simp [intOf]; omega
    · obtain rfl : k = n := by omega
      go_wp2_with (go_at_call 10; refine (first_calls _).mono ?_; rintro e w5 ⟨rfl, hf5⟩)
      go_ret
      exact ⟨rfl, hf.trans hf5⟩

theorem plays_walk (m : Int) (A : Option Addr) (n cap : Nat) (xs : List (List Int)) (w : World) (hwf : (Lit.int .i64 m).wf = true) (h : NumsIn 5 w A n xs) :
    Calls Try.prog 8 #[.int .i64 m, .slice A n cap] w fun e w' => e = .returned (.bool true) ∧ Fr (fun _ => False) w w' := by
  by_cases hn : n ≤ 500
  · by_cases hm : 0 ≤ m ∧ m ≤ 65536
    · exact plays_main m A n cap xs w hwf h hn hm
    · exact plays_far m A n cap xs w hwf h hn hm
  · exact plays_long m A n cap xs w hwf h hn
end Go.Proofs.Ytellolecedpolaa
