/- plain.Run. -/
import Derived.Test.YtkaokhpaabfhmaaP6
namespace Go.Proofs.Ytkaokhpaabfhmaa
open Go.RowKit

theorem b01_i64 (b : Bool) : I64 (b01 b) := by cases b <;> exact ⟨by decide, by decide⟩
theorem evalV_i64 {k : Int} {xs : List Int} (h : ∀ x ∈ xs, I64 x) : I64 (evalV k xs) := by
  unfold evalV
  split
  · split
    · unfold noneV; repeat' split
      all_goals exact ⟨by decide, by decide⟩
    · split
      · exact b01_i64 _
      · exact foldAll_i64 (h _ (List.mem_cons_self ..)) (fun x hx => h x (List.mem_cons_of_mem _ hx))
  · exact ⟨by decide, by decide⟩
theorem getD_i64 {xs : List Int} (h : ∀ x ∈ xs, I64 x) (k : Nat) : I64 (xs.getD k 0) := by
  rw [List.getD_eq_getElem?_getD]
  cases hx : xs[k]? with
  | none => exact ⟨by decide, by decide⟩
  | some y => exact h y (List.mem_of_getElem? hx)
theorem set_i64 {xs : List Int} (h : ∀ x ∈ xs, I64 x) (k : Nat) {v : Int} (hv : I64 v) : ∀ x ∈ xs.set k v, I64 x := fun x hx => by
  rcases List.mem_or_eq_of_mem_set hx with hx | rfl
  · exact h x hx
  · exact hv
/-- What stays so while a program runs. -/
structure Good (c : Conf) (s : PS) (at_ : Nat) : Prop where
  rg : (s.regs.length : Int) = c.rg
  wd : (s.heap.length : Int) = c.words
  ri : ∀ y ∈ s.regs, I64 y
  hi : ∀ y ∈ s.heap, I64 y
  re : s.rs.length % 2 = 0
  we : s.ws.length % 2 = 0
  len : s.rs.length + s.ws.length ≤ 2 * at_
theorem Good.step {c : Conf} {s : PS} {at_ : Nat} (h : Good c s at_) (x : Ins) (hb : I64 x.b) : Good c (s.step c x) (at_ + 1) := by
  obtain ⟨h1, h2, h3, h4, h5, h6, h7⟩ := h
  unfold PS.step
  split
  · exact ⟨by dsimp only; rw [List.length_set]; exact h1, h2, set_i64 h3 _ (getD_i64 h4 _), h4, by simp; omega, h6, by simp; omega⟩
  · split
    · exact ⟨h1, by dsimp only; rw [List.length_set]; exact h2, h3, set_i64 h4 _ (getD_i64 h3 _), h5, by simp; omega, by simp; omega⟩
    · split
      · exact ⟨by dsimp only; rw [List.length_set]; exact h1, h2, set_i64 h3 _ hb, h4, h5, h6, by dsimp only; omega⟩
      · split
        · refine ⟨by dsimp only; rw [List.length_set]; exact h1, h2, set_i64 h3 _ (evalV_i64 fun y hy => ?_), h4, h5, h6, by dsimp only; omega⟩
          obtain ⟨r, _, rfl⟩ := List.mem_map.1 hy
          exact getD_i64 h3 _
        · split
          · exact ⟨h1, h2, h3, h4, h5, h6, by dsimp only; omega⟩
          · split
            · exact ⟨h1, h2, h3, h4, h5, h6, by dsimp only; omega⟩
            · exact ⟨h1, h2, h3, h4, h5, h6, by omega⟩
theorem Good.more {c : Conf} {s : PS} {a b : Nat} (h : Good c s a) (hab : a ≤ b) : Good c s b := ⟨h.rg, h.wd, h.ri, h.hi, h.re, h.we, by have := h.len; omega⟩
theorem runP_stop {c : Conf} {p : List Ins} {at_ : Nat} {s : PS} (h : ¬ (at_ < p.length ∧ s.e = 1)) : ∀ n, runP c p n at_ s = s
  | 0 => rfl
  | _ + 1 => if_neg h
theorem runP_go {c : Conf} {p : List Ins} {at_ n : Nat} {s : PS} (h1 : at_ < p.length) (h2 : s.e = 1) : runP c p (n + 1) at_ s = runP c p n (s.next (p.getD at_ default) at_) (s.step c (p.getD at_ default)) := if_pos ⟨h1, h2⟩
theorem next_bounds {c : Conf} {s : PS} {x : Ins} {at_ m : Nat} (hm : mayB c x at_ m = true) (hat : at_ < m) : at_ < s.next x at_ ∧ s.next x at_ ≤ m := by
  unfold PS.next
  split
  · rename_i h
    have := (mayB_parts hm).2.2.2.1 h.1
    omega
  · omega

set_option maxRecDepth 100000 in
theorem cloneOwn_calls (ad : Addr) (n c : Nat) (xs : List Int) (F : Nat → Prop) (w : World) (hx : Flat w F (some ad) n xs) (hn : n ≤ 20000) (h0 : 0 < n) :
    Calls Try.prog 24 #[.slice (some ad) n c] w fun e w' => ∃ hb hc, e = .returned (.slice (some ⟨hb, 0, none⟩) n hc) ∧ w'.ownsRow w.heap.size 3 1 (.slice (some ⟨hb, 0, none⟩) n hc) n (xs.map (Value.int .i64)) ∧ Fr (fun _ => False) w w' := by
  have hc := Lib.hid (show ∀ j u, (xs.map (Value.int .i64))[j]? = some u → w.cell? (ad.add j) = some u by
    obtain ⟨ad', h1, _, h2⟩ := hx.at_ (by omega)
    cases h1
    exact cells_ints hx.len h2)
  obtain ⟨i0, hi, hz0, hz1, hz2⟩ := info_parts infoInt
  have hl := Lib.hid hx.len
  clear hx
  have q22 := fun (w : World) (a : Option Addr) (n c n' c' : Nat) => Lib.run_eql_slice_nil w 24 _ a n c n' c' Try.underlying24
  go_enter Try.func24, Try.ntmps24
  go_wp2_with (at_builtin; refine wpList_append_own _ rfl _ _ 24 rfl w.heap.size 3 i0 (.int .i64 0) 1 8 Try.underlying24 hi hz0 hz1 hz2 rfl (by decide) _ _ _ rfl (World.ownsRow_made w #[] 0 (Nat.le_refl _) (Nat.zero_le _) (by simp)) ad n c (xs.map (Value.int .i64)) rfl ?qc1 ?qc2 ?qc3 ?qc4 ?qc5 ?qc6 ?_)
  case qc1 => rw [List.length_map, hl.out, Nat.mul_one]
  case qc2 => exact fun j u hj => ((Fr.refl (fun _ => False) w).alloc _).cell (hc.out j u hj) (fun x => x)
  case qc3 => exact one_ints xs
  case qc4 => unfold maxLen; omega
  case qc5 => omega
  case qc6 => simp
  intro v' w1 hown hgrow hnil
  go_wp2
  go_ret
  have ho : w1.ownsRow w.heap.size 3 1 v' n (xs.map (Value.int .i64)) := by simpa using hown
  have hf : Fr (fun _ => False) w w1 := ((Fr.refl _ w).alloc _).grown hgrow (fun k hk => .inr (by simp [Value.ownBlock] at hk; omega))
  rcases id ho.2 with ⟨rfl, h00⟩ | ⟨g, cap, cur, rfl, _⟩
  · omega
  · exact ⟨g, cap, rfl, ho, hf⟩

/-- Four cells of a told run, just stored. -/
theorem out_block {w : World} {b : Nat} {arr : Array Value} (h : w.heap[b]? = some (.cells arr 46 (0, 0))) (e : Int) (x y z : Value) (h4 : arr.size = 4 := by rfl) :
    let w' := ((((w.setCell ⟨b, 0, none⟩ (.int .i64 e)).setCell ⟨b, 1, none⟩ x).setCell ⟨b, 2, none⟩ y).setCell ⟨b, 3, none⟩ z)
    w'.cell? ⟨b, 0, none⟩ = some (.int .i64 e) ∧ w'.cell? ⟨b, 1, none⟩ = some x ∧ w'.cell? ⟨b, 2, none⟩ = some y ∧ w'.cell? ⟨b, 3, none⟩ = some z := by
  intro w'
  have h1 := blk_set (blk_set (blk_set (blk_set h 0 (.int .i64 e)) 1 x) 2 y) 3 z
  refine ⟨?_, ?_, ?_, ?_⟩ <;> (rw [blk_cell h1]; simp [h4])
theorem fr_out (w : World) (b : Nat) (e x y z : Value) : Fr (fun k => k = b) w ((((w.setCell ⟨b, 0, none⟩ e).setCell ⟨b, 1, none⟩ x).setCell ⟨b, 2, none⟩ y).setCell ⟨b, 3, none⟩ z) :=
  ((((Fr.refl (fun k => k = b) w).setCell (p := ⟨b, 0, none⟩) (.inl rfl) e).setCell (p := ⟨b, 1, none⟩) (.inl rfl) x).setCell (p := ⟨b, 2, none⟩) (.inl rfl) y).setCell (p := ⟨b, 3, none⟩) (.inl rfl) z

theorem row_shape {w : World} {B : Nat} {T : TypeId} {k : Nat} {v : Value} {n : Nat} {xs : List Value} (h : w.ownsRow B T k v n xs) : ∃ A c, v = .slice A n c ∧ n ≤ c := by
  rcases h.2 with ⟨rfl, h0⟩ | ⟨g, cap, cur, rfl, hb, hg, hn, rest⟩
  · exact ⟨none, 0, by rw [h0], by omega⟩
  · exact ⟨_, cap, rfl, hn⟩

/-- What Run answers where it runs. -/
structure OutAt (w : World) (B : Nat) (s : PS) (heap : List Int) (A1 : Option Addr) (n1 c1 : Nat) (A2 : Option Addr) (n2 c2 : Nat) (A3 : Option Addr) (n3 c3 : Nat) (A4 : Option Addr) (n4 c4 : Nat) : Prop where
  g : Flat w (fun k => B ≤ k) A1 n1 s.regs
  r : Flat w (fun k => B ≤ k) A2 (n2 * 2) s.rs
  w_ : Flat w (fun k => B ≤ k) A3 (n3 * 2) s.ws
  h : Flat w (fun k => B ≤ k) A4 n4 (s.after heap)
theorem OutAt.frame {w w' : World} {B : Nat} {s : PS} {heap : List Int} {A1 A2 A3 A4 : Option Addr} {n1 c1 n2 c2 n3 c3 n4 c4 : Nat} {S : Nat → Prop} (h : OutAt w B s heap A1 n1 c1 A2 n2 c2 A3 n3 c3 A4 n4 c4) (hf : Fr S w w') (hs : ∀ k, B ≤ k → S k → w.heap.size ≤ k) : OutAt w' B s heap A1 n1 c1 A2 n2 c2 A3 n3 c3 A4 n4 c4 :=
  ⟨h.g.frame hf hs, h.r.frame hf hs, h.w_.frame hf hs, h.h.frame hf hs⟩
theorem OutAt.mono {w : World} {B B' : Nat} {s : PS} {heap : List Int} {A1 A2 A3 A4 : Option Addr} {n1 c1 n2 c2 n3 c3 n4 c4 : Nat} (h : OutAt w B s heap A1 n1 c1 A2 n2 c2 A3 n3 c3 A4 n4 c4) (hs : B' ≤ B) : OutAt w B' s heap A1 n1 c1 A2 n2 c2 A3 n3 c3 A4 n4 c4 :=
  ⟨h.g.mono fun _ _ x => Nat.le_trans hs x, h.r.mono fun _ _ x => Nat.le_trans hs x, h.w_.mono fun _ _ x => Nat.le_trans hs x, h.h.mono fun _ _ x => Nat.le_trans hs x⟩

set_option maxRecDepth 100000 in
set_option maxHeartbeats 2000000 in
theorem run_form (c : Conf) (H : Option Addr) (hn hcap : Nat) (A : Option Addr) (n cap : Nat) (p : List Ins) (F : Nat → Prop) (w : World) (h : ProgAt w F A n cap p) (hs : Short p) (hok : progOk c p = false) :
    Calls Try.prog 25 #[c.val, .slice H hn hcap, .slice A n cap] w fun e w' => e = .returned (.tuple #[.agg #[.int .i64 0, .slice none 0 0, .slice none 0 0, .slice none 0 0], .slice none 0 0, .int .i64 2]) ∧ Fr (fun _ => False) w w' := by
  have hf := ((Fr.refl (fun _ => False) w).alloc (.cells #[.int .i64 c.r, .int .i64 c.o, .int .i64 c.s, .int .i64 c.wd, .int .i64 c.th, .int .i64 c.sl, .int .i64 c.rg, .int .i64 c.lk, .int .i64 c.un, .int .i64 c.es, .int .i64 c.tk, .int .i64 c.po] 23)).alloc (.cells #[.int .i64 0, .slice none 0 0, .slice none 0 0, .slice none 0 0] 46)
  have HC := Lib.hid (progCheck_calls c A n cap p F _ (h.frame hf (fun _ _ x => x.elim)) hs)
  have hcv : chkV c p = 2 := by unfold chkV; rw [hok]; rfl
  rw [hcv] at HC
  have HF := Lib.hid hf
  have hbl := heap_alloc_new (w.alloc (.cells #[.int .i64 c.r, .int .i64 c.o, .int .i64 c.s, .int .i64 c.wd, .int .i64 c.th, .int .i64 c.sl, .int .i64 c.rg, .int .i64 c.lk, .int .i64 c.un, .int .i64 c.es, .int .i64 c.tk, .int .i64 c.po] 23)) (.cells #[.int .i64 0, .slice none 0 0, .slice none 0 0, .slice none 0 0] 46)
  rw [show (w.alloc (.cells #[.int .i64 c.r, .int .i64 c.o, .int .i64 c.s, .int .i64 c.wd, .int .i64 c.th, .int .i64 c.sl, .int .i64 c.rg, .int .i64 c.lk, .int .i64 c.un, .int .i64 c.es, .int .i64 c.tk, .int .i64 c.po] 23)).heap.size = w.heap.size + 1 by simp] at hbl
  have HBL := Lib.hid hbl
  clear h hs hok hcv hf hbl
  unfold Conf.val at *
  go_enter Try.func25, Try.ntmps25
  go_wp2_with (go_at_call 41; (with_reducible refine HC.out.mono ?_); rintro ex w1 ⟨rfl, hf1⟩
               have hb1 := hf1.heap HBL.out (fun x => x)
               have q0 : w1.cell? ⟨w.heap.size + 1, 0, none⟩ = some (.int .i64 0) := by rw [blk_cell hb1]; rfl
               have q1 : w1.cell? ⟨w.heap.size + 1, 1, none⟩ = some (.slice none 0 0) := by rw [blk_cell hb1]; rfl
               have q2 : w1.cell? ⟨w.heap.size + 1, 2, none⟩ = some (.slice none 0 0) := by rw [blk_cell hb1]; rfl
               have q3 : w1.cell? ⟨w.heap.size + 1, 3, none⟩ = some (.slice none 0 0) := by rw [blk_cell hb1]; rfl
               have z0 : w1.frozen? ⟨w.heap.size + 1, 0, none⟩ = false := by rw [blk_free hb1]
               have z1 : w1.frozen? ⟨w.heap.size + 1, 1, none⟩ = false := by rw [blk_free hb1]
               have z2 : w1.frozen? ⟨w.heap.size + 1, 2, none⟩ = false := by rw [blk_free hb1]
               have z3 : w1.frozen? ⟨w.heap.size + 1, 3, none⟩ = false := by rw [blk_free hb1])
  have HB4 := Lib.hid (out_block hb1 0 (.slice none 0 0) (.slice none 0 0) (.slice none 0 0))
  have HF4 := Lib.hid (fr_out (w1) (w.heap.size + 1) (.int .i64 0) (.slice none 0 0) (.slice none 0 0) (.slice none 0 0))
  generalize ((((w1.setCell ⟨w.heap.size + 1, 0, none⟩ (.int .i64 0)).setCell ⟨w.heap.size + 1, 1, none⟩ (.slice none 0 0)).setCell ⟨w.heap.size + 1, 2, none⟩ (.slice none 0 0)).setCell ⟨w.heap.size + 1, 3, none⟩ (.slice none 0 0)) = w2 at *
  obtain ⟨r0, r1, r2, r3⟩ := HB4.out
  refine bodyPost_ret (by simp [results, Try.results25, go_sem, r0, r1, r2, r3]; try rfl) rfl ⟨rfl, (HF.out.trans hf1).trans' HF4.out (fun k x y => by omega)⟩
end Go.Proofs.Ytkaokhpaabfhmaa
