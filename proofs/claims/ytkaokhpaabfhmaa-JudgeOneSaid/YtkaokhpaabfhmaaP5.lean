/- (*plain.Out).runs, kind by kind. -/
import Derived.Test.YtkaokhpaabfhmaaP4
import Derived.Test.YtkaokhpaabfhmaaCalcEval
import Derived.Deep.AppendLies
import Derived.Deep.RegionLaw
namespace Go.Proofs.Ytkaokhpaabfhmaa
open Go.RowKit

theorem MAt.setE {w : World} {B ob rb hb hc : Nat} {vr vw : Value} {s : PS} (h : MAt w B ob rb hb hc vr vw s) (e : Int) : MAt (w.setCell ⟨ob, 0, none⟩ (.int .i64 e)) B ob rb hb hc vr vw { s with e := e } := by
  have hf := (Fr.refl (fun k => k = ob) w).setCell (p := ⟨ob, 0, none⟩) (.inl rfl) (.int .i64 e)
  have hor : ob ≠ rb := ne_of_blk h.ho h.hr (by intro e; injection e with _ e2; exact absurd e2 (by decide))
  have row : ∀ {T : TypeId} {k n : Nat} {v : Value} {xs : List Value}, T ≠ 46 → w.ownsRow B T k v n xs → (w.setCell ⟨ob, 0, none⟩ (.int .i64 e)).ownsRow B T k v n xs := fun hT hr => ownsRow_frame hr hf (fun g hg x => by
    obtain ⟨_, cur, h2⟩ := row_block hr hg
    subst x
    rw [h.ho] at h2
    injection h2 with h3
    injection h3 with _ h4
    exact hT h4.symm)
  exact ⟨by rw [blk_set h.ho]; rfl, hf.heap h.hr (fun x => hor x.symm), row (by decide) h.hrs, row (by decide) h.hws, row (by decide) h.hh, h.dv, h.dr, h.b1, h.b2, h.b3⟩
theorem MAt.setReg {w : World} {B ob rb hb hc : Nat} {vr vw : Value} {s : PS} (h : MAt w B ob rb hb hc vr vw s) (i : Nat) (x : Int) : MAt (w.setCell ⟨rb, i, none⟩ (.int .i64 x)) B ob rb hb hc vr vw { s with regs := s.regs.set i x } := by
  have hf := (Fr.refl (fun k => k = rb) w).setCell (p := ⟨rb, i, none⟩) (.inl rfl) (.int .i64 x)
  have hor : ob ≠ rb := ne_of_blk h.ho h.hr (by intro e; injection e with _ e2; exact absurd e2 (by decide))
  have row : ∀ {T : TypeId} {k n : Nat} {v : Value} {xs : List Value}, T ≠ 3 → w.ownsRow B T k v n xs → (w.setCell ⟨rb, i, none⟩ (.int .i64 x)).ownsRow B T k v n xs := fun hT hr => ownsRow_frame hr hf (fun g hg y => by
    obtain ⟨_, cur, h2⟩ := row_block hr hg
    subst y
    rw [h.hr] at h2
    injection h2 with h3
    injection h3 with _ h4
    exact hT h4.symm)
  refine ⟨?_, by rw [blk_set h.hr, ints_set], row (by decide) h.hrs, row (by decide) h.hws, ownsRow_frame h.hh hf (fun g hg y => by cases hg; exact h.dr y.symm), h.dv, h.dr, h.b1, h.b2, h.b3⟩
  have := hf.heap h.ho hor
  rw [this]
  dsimp only
  rw [List.length_set]

theorem MAt.setHeap {w : World} {B ob rb hb hc : Nat} {vr vw : Value} {s : PS} (h : MAt w B ob rb hb hc vr vw s) (i : Nat) (x : Int) : MAt (w.setCell ⟨hb, i, none⟩ (.int .i64 x)) B ob rb hb hc vr vw { s with heap := s.heap.set i x } := by
  have hf := (Fr.refl (fun k => k = hb) w).setCell (p := ⟨hb, i, none⟩) (.inl rfl) (.int .i64 x)
  obtain ⟨_, curh, hhb⟩ := row_block h.hh rfl
  have hoh : ob ≠ hb := ne_of_blk h.ho hhb (by intro e; injection e with _ e2; exact absurd e2 (by decide))
  have row : ∀ {T : TypeId} {k n : Nat} {v : Value} {xs : List Value}, T ≠ 3 → w.ownsRow B T k v n xs → (w.setCell ⟨hb, i, none⟩ (.int .i64 x)).ownsRow B T k v n xs := fun hT hr => ownsRow_frame hr hf (fun g hg y => by
    obtain ⟨_, cur, h2⟩ := row_block hr hg
    subst y
    rw [hhb] at h2
    injection h2 with h3
    injection h3 with _ h4
    exact hT h4.symm)
  obtain ⟨hst, _⟩ := h.hh.stored i (.int .i64 x)
  refine ⟨hf.heap h.ho hoh, hf.heap h.hr (fun e => h.dr e), row (by decide) h.hrs, row (by decide) h.hws, ?_, h.dv, h.dr, h.b1, h.b2, h.b3⟩
  dsimp only
  rw [List.length_set, List.map_set]
  exact hst
theorem MAt.pushR {w w' : World} {B ob rb hb hc : Nat} {vr vw v' : Value} {s : PS} (h : MAt w B ob rb hb hc vr vw s) (p u : Int) (hf : Fr (fun k => vr.ownBlock = some k) w w') (ho : w'.ownsRow B 54 2 v' (s.rs.length / 2 + 1) (s.rs.map (Value.int .i64) ++ accCells p u))
    (hbk : v'.ownBlock = vr.ownBlock ∨ v'.ownBlock = some w.heap.size) (hev : s.rs.length % 2 = 0) : MAt (w'.setCell ⟨ob, 2, none⟩ v') B ob rb hb hc v' vw { s with rs := s.rs ++ [p, u] } := by
  have nr : ∀ {k : Nat} {arr : Array Value} {T : TypeId}, w.heap[k]? = some (.cells arr T (0, 0)) → T ≠ 54 → vr.ownBlock ≠ some k := fun hk hT hg => by
    obtain ⟨_, cur, h2⟩ := row_block h.hrs hg
    rw [hk] at h2
    injection h2 with h3
    injection h3 with _ h4
    exact hT h4
  have ho1 := hf.heap h.ho (nr h.ho (by decide))
  have hr1 := hf.heap h.hr (nr h.hr (by decide))
  have hor : ob ≠ rb := ne_of_blk h.ho h.hr (by intro e; injection e with _ e2; exact absurd e2 (by decide))
  obtain ⟨_, curh, hhb⟩ := row_block h.hh rfl
  have hh1 := ownsRow_frame h.hh hf (fun g hg => by cases hg; exact nr hhb (by decide))
  have hw1 := ownsRow_frame h.hws hf (fun g hg x => h.dv g x hg)
  have hf2 := (Fr.refl (fun k => k = ob) w').setCell (p := ⟨ob, 2, none⟩) (.inl rfl) v'
  have row : ∀ {T : TypeId} {k n : Nat} {v : Value} {xs : List Value}, T ≠ 46 → w'.ownsRow B T k v n xs → (w'.setCell ⟨ob, 2, none⟩ v').ownsRow B T k v n xs := fun hT hr => ownsRow_frame hr hf2 (fun g hg x => by
    obtain ⟨_, cur, h2⟩ := row_block hr hg
    subst x
    rw [ho1] at h2
    injection h2 with h3
    injection h3 with _ h4
    exact hT h4.symm)
  refine ⟨by rw [blk_set ho1]; rfl, hf2.heap hr1 (fun x => hor x.symm), ?_, row (by decide) hw1, row (by decide) hh1, fun g hg hg2 => ?_, h.dr, h.b1, h.b2, h.b3⟩
  · have := row (by decide) ho
    dsimp only
    rw [show (s.rs ++ [p, u]).length / 2 = s.rs.length / 2 + 1 by rw [List.length_append]; show (s.rs.length + 2) / 2 = _; omega, List.map_append]
    exact this
  · rcases hbk with e | e
    · exact h.dv g (e ▸ hg) hg2
    · rw [hg] at e
      cases e
      obtain ⟨_, cur, h2⟩ := row_block h.hws hg2
      exact absurd (blk_lt h2) (by omega)
theorem MAt.pushW {w w' : World} {B ob rb hb hc : Nat} {vr vw v' : Value} {s : PS} (h : MAt w B ob rb hb hc vr vw s) (p u : Int) (hf : Fr (fun k => vw.ownBlock = some k) w w') (ho : w'.ownsRow B 54 2 v' (s.ws.length / 2 + 1) (s.ws.map (Value.int .i64) ++ accCells p u))
    (hbk : v'.ownBlock = vw.ownBlock ∨ v'.ownBlock = some w.heap.size) (hev : s.ws.length % 2 = 0) : MAt (w'.setCell ⟨ob, 3, none⟩ v') B ob rb hb hc vr v' { s with ws := s.ws ++ [p, u] } := by
  have nr : ∀ {k : Nat} {arr : Array Value} {T : TypeId}, w.heap[k]? = some (.cells arr T (0, 0)) → T ≠ 54 → vw.ownBlock ≠ some k := fun hk hT hg => by
    obtain ⟨_, cur, h2⟩ := row_block h.hws hg
    rw [hk] at h2
    injection h2 with h3
    injection h3 with _ h4
    exact hT h4
  have ho1 := hf.heap h.ho (nr h.ho (by decide))
  have hr1 := hf.heap h.hr (nr h.hr (by decide))
  have hor : ob ≠ rb := ne_of_blk h.ho h.hr (by intro e; injection e with _ e2; exact absurd e2 (by decide))
  obtain ⟨_, curh, hhb⟩ := row_block h.hh rfl
  have hh1 := ownsRow_frame h.hh hf (fun g hg => by cases hg; exact nr hhb (by decide))
  have hw1 := ownsRow_frame h.hrs hf (fun g hg x => h.dv g hg x)
  have hf2 := (Fr.refl (fun k => k = ob) w').setCell (p := ⟨ob, 3, none⟩) (.inl rfl) v'
  have row : ∀ {T : TypeId} {k n : Nat} {v : Value} {xs : List Value}, T ≠ 46 → w'.ownsRow B T k v n xs → (w'.setCell ⟨ob, 3, none⟩ v').ownsRow B T k v n xs := fun hT hr => ownsRow_frame hr hf2 (fun g hg x => by
    obtain ⟨_, cur, h2⟩ := row_block hr hg
    subst x
    rw [ho1] at h2
    injection h2 with h3
    injection h3 with _ h4
    exact hT h4.symm)
  refine ⟨by rw [blk_set ho1]; rfl, hf2.heap hr1 (fun x => hor x.symm), row (by decide) hw1, ?_, row (by decide) hh1, fun g hg hg2 => ?_, h.dr, h.b1, h.b2, h.b3⟩
  · have := row (by decide) ho
    dsimp only
    rw [show (s.ws ++ [p, u]).length / 2 = s.ws.length / 2 + 1 by rw [List.length_append]; show (s.ws.length + 2) / 2 = _; omega, List.map_append]
    exact this
  · rcases hbk with e | e
    · exact h.dv g hg (e ▸ hg2)
    · rw [hg2] at e
      cases e
      obtain ⟨_, cur, h2⟩ := row_block h.hrs hg
      exact absurd (blk_lt h2) (by omega)


set_option maxRecDepth 100000 in
set_option maxHeartbeats 4000000 in
theorem runs6 (c : Conf) (a : Int) (b d : Int) (l : List Int) (v : Value) (B ob rb hb hc : Nat) (vr vw : Value) (s : PS) (at_ : Nat) (w : World) (M : MAt w B ob rb hb hc vr vw s) (hat : at_ ≤ 60) :
    Calls Try.prog 42 #[.pointer (some ⟨ob, 0, none⟩), c.val, .slice (some ⟨hb, 0, none⟩) s.heap.length hc, .agg #[.int .i64 6, .int .i64 a, .int .i64 b, .int .i64 d, v], .int .i64 at_] w fun e w' =>
      e = .returned (.int .i64 (s.next ⟨6, a, b, d, l⟩ at_ : Nat)) ∧ (∃ vr' vw', MAt w' B ob rb hb hc vr' vw' (s.step c ⟨6, a, b, d, l⟩)) ∧ Fr (fun k => B ≤ k) w w' := by
  have HT := Lib.hid (two_boxes w c ⟨6, a, b, d, l⟩ v)
  have HFA := Lib.hid (((Fr.refl (fun _ => False) w).alloc (.cells #[.int .i64 c.r, .int .i64 c.o, .int .i64 c.s, .int .i64 c.wd, .int .i64 c.th, .int .i64 c.sl, .int .i64 c.rg, .int .i64 c.lk, .int .i64 c.un, .int .i64 c.es, .int .i64 c.tk, .int .i64 c.po] 23)).alloc (.cells #[.int .i64 6, .int .i64 a, .int .i64 b, .int .i64 d, v] 67))
  have HM := Lib.hid (M.frame HFA.out (fun _ x => x.elim))
  have hsz : Hid (((w.alloc (.cells #[.int .i64 c.r, .int .i64 c.o, .int .i64 c.s, .int .i64 c.wd, .int .i64 c.th, .int .i64 c.sl, .int .i64 c.rg, .int .i64 c.lk, .int .i64 c.un, .int .i64 c.es, .int .i64 c.tk, .int .i64 c.po] 23)).alloc (.cells #[.int .i64 6, .int .i64 a, .int .i64 b, .int .i64 d, v] 67)).heap.size = w.heap.size + 2) := by show _ = _; simp
  dsimp only at HT
  have hbo := blk_lt M.ho
  have hbr := blk_lt M.hr
  have hob := M.b1
  have hrb := M.b2
  have hhb := M.b3
  have hdr := M.dr
  have hor : ob ≠ rb := ne_of_blk M.ho M.hr (by intro e; injection e with _ e2; exact absurd e2 (by decide))
  have hhl : hb < w.heap.size := (M.hh.lt hb rfl).2
  obtain ⟨nx, hnx⟩ : ∃ nx, nx = s.next ⟨6, a, b, d, l⟩ at_ := ⟨_, rfl⟩
  obtain ⟨sx, hsx⟩ : ∃ sx, sx = s.step c ⟨6, a, b, d, l⟩ := ⟨_, rfl⟩
  rw [← hnx, ← hsx]
  unfold PS.next at hnx
  unfold PS.step at hsx
  dsimp only at hnx hsx
  have HNX := Lib.hid hnx
  have HSX := Lib.hid hsx
  clear hnx hsx M
  unfold Conf.val at *
  go_enter Try.func42, Try.ntmps42
  go_upto_region 1 with fail
  generalize (w.alloc (.cells #[.int .i64 c.r, .int .i64 c.o, .int .i64 c.s, .int .i64 c.wd, .int .i64 c.th, .int .i64 c.sl, .int .i64 c.rg, .int .i64 c.lk, .int .i64 c.un, .int .i64 c.es, .int .i64 c.tk, .int .i64 c.po] 23)).alloc (.cells #[.int .i64 6, .int .i64 a, .int .i64 b, .int .i64 d, v] 67) = W0 at *
  have HX := Lib.hid (fun w' (h : Fr (fun k => B ≤ k ∧ k < w.heap.size) W0 w') => box_ins (x := ⟨6, a, b, d, l⟩) (h.heap HT.out.2 (fun x => by omega)))
  dsimp only at HX
  obtain ⟨x0, x1, x2, x3, x4⟩ := HX.out W0 (Fr.refl _ _)
  have o0 : W0.cell? ⟨ob, 0, none⟩ = some (.int .i64 s.e) := by rw [blk_cell HM.out.ho]; rfl
  have o1 : W0.cell? ⟨ob, 1, none⟩ = some (.slice (some ⟨rb, 0, none⟩) s.regs.length s.regs.length) := by rw [blk_cell HM.out.ho]; rfl
  have z0 : W0.frozen? ⟨ob, 0, none⟩ = false := by rw [blk_free HM.out.ho]
  go_wp2
  go_ret
  refine ⟨by rw [HNX.out]; simp, ⟨vr, vw, by rw [HSX.out]; exact HM.out.setE 2⟩, (HFA.out.mono (fun _ x => x.elim)).trans ((Fr.refl (fun k => B ≤ k) W0).setCell (p := ⟨ob, 0, none⟩) (.inl hob) _)⟩


set_option maxRecDepth 100000 in
set_option maxHeartbeats 4000000 in
theorem runs7 (c : Conf) (a : Int) (b d : Int) (l : List Int) (v : Value) (B ob rb hb hc : Nat) (vr vw : Value) (s : PS) (at_ : Nat) (w : World) (M : MAt w B ob rb hb hc vr vw s) (hat : at_ ≤ 60) :
    Calls Try.prog 42 #[.pointer (some ⟨ob, 0, none⟩), c.val, .slice (some ⟨hb, 0, none⟩) s.heap.length hc, .agg #[.int .i64 7, .int .i64 a, .int .i64 b, .int .i64 d, v], .int .i64 at_] w fun e w' =>
      e = .returned (.int .i64 (s.next ⟨7, a, b, d, l⟩ at_ : Nat)) ∧ (∃ vr' vw', MAt w' B ob rb hb hc vr' vw' (s.step c ⟨7, a, b, d, l⟩)) ∧ Fr (fun k => B ≤ k) w w' := by
  have HT := Lib.hid (two_boxes w c ⟨7, a, b, d, l⟩ v)
  have HFA := Lib.hid (((Fr.refl (fun _ => False) w).alloc (.cells #[.int .i64 c.r, .int .i64 c.o, .int .i64 c.s, .int .i64 c.wd, .int .i64 c.th, .int .i64 c.sl, .int .i64 c.rg, .int .i64 c.lk, .int .i64 c.un, .int .i64 c.es, .int .i64 c.tk, .int .i64 c.po] 23)).alloc (.cells #[.int .i64 7, .int .i64 a, .int .i64 b, .int .i64 d, v] 67))
  have HM := Lib.hid (M.frame HFA.out (fun _ x => x.elim))
  have hsz : Hid (((w.alloc (.cells #[.int .i64 c.r, .int .i64 c.o, .int .i64 c.s, .int .i64 c.wd, .int .i64 c.th, .int .i64 c.sl, .int .i64 c.rg, .int .i64 c.lk, .int .i64 c.un, .int .i64 c.es, .int .i64 c.tk, .int .i64 c.po] 23)).alloc (.cells #[.int .i64 7, .int .i64 a, .int .i64 b, .int .i64 d, v] 67)).heap.size = w.heap.size + 2) := by show _ = _; simp
  dsimp only at HT
  have hbo := blk_lt M.ho
  have hbr := blk_lt M.hr
  have hob := M.b1
  have hrb := M.b2
  have hhb := M.b3
  have hdr := M.dr
  have hor : ob ≠ rb := ne_of_blk M.ho M.hr (by intro e; injection e with _ e2; exact absurd e2 (by decide))
  have hhl : hb < w.heap.size := (M.hh.lt hb rfl).2
  obtain ⟨nx, hnx⟩ : ∃ nx, nx = s.next ⟨7, a, b, d, l⟩ at_ := ⟨_, rfl⟩
  obtain ⟨sx, hsx⟩ : ∃ sx, sx = s.step c ⟨7, a, b, d, l⟩ := ⟨_, rfl⟩
  rw [← hnx, ← hsx]
  unfold PS.next at hnx
  unfold PS.step at hsx
  dsimp only at hnx hsx
  have HNX := Lib.hid hnx
  have HSX := Lib.hid hsx
  clear hnx hsx M
  unfold Conf.val at *
  go_enter Try.func42, Try.ntmps42
  go_upto_region 1 with fail
  generalize (w.alloc (.cells #[.int .i64 c.r, .int .i64 c.o, .int .i64 c.s, .int .i64 c.wd, .int .i64 c.th, .int .i64 c.sl, .int .i64 c.rg, .int .i64 c.lk, .int .i64 c.un, .int .i64 c.es, .int .i64 c.tk, .int .i64 c.po] 23)).alloc (.cells #[.int .i64 7, .int .i64 a, .int .i64 b, .int .i64 d, v] 67) = W0 at *
  have HX := Lib.hid (fun w' (h : Fr (fun k => B ≤ k ∧ k < w.heap.size) W0 w') => box_ins (x := ⟨7, a, b, d, l⟩) (h.heap HT.out.2 (fun x => by omega)))
  dsimp only at HX
  obtain ⟨x0, x1, x2, x3, x4⟩ := HX.out W0 (Fr.refl _ _)
  have o0 : W0.cell? ⟨ob, 0, none⟩ = some (.int .i64 s.e) := by rw [blk_cell HM.out.ho]; rfl
  have o1 : W0.cell? ⟨ob, 1, none⟩ = some (.slice (some ⟨rb, 0, none⟩) s.regs.length s.regs.length) := by rw [blk_cell HM.out.ho]; rfl
  have z0 : W0.frozen? ⟨ob, 0, none⟩ = false := by rw [blk_free HM.out.ho]
  go_wp2
  go_ret
  refine ⟨by rw [HNX.out]; simp, ⟨vr, vw, by rw [HSX.out]; exact HM.out.setE 3⟩, (HFA.out.mono (fun _ x => x.elim)).trans ((Fr.refl (fun k => B ≤ k) W0).setCell (p := ⟨ob, 0, none⟩) (.inl hob) _)⟩


set_option maxRecDepth 100000 in
set_option maxHeartbeats 4000000 in
theorem runs3 (c : Conf) (a : Nat) (b d : Int) (l : List Int) (v : Value) (B ob rb hb hc : Nat) (vr vw : Value) (s : PS) (at_ : Nat) (w : World) (M : MAt w B ob rb hb hc vr vw s) (hat : at_ ≤ 60) (ha : a < s.regs.length) :
    Calls Try.prog 42 #[.pointer (some ⟨ob, 0, none⟩), c.val, .slice (some ⟨hb, 0, none⟩) s.heap.length hc, .agg #[.int .i64 3, .int .i64 a, .int .i64 b, .int .i64 d, v], .int .i64 at_] w fun e w' =>
      e = .returned (.int .i64 (s.next ⟨3, a, b, d, l⟩ at_ : Nat)) ∧ (∃ vr' vw', MAt w' B ob rb hb hc vr' vw' (s.step c ⟨3, a, b, d, l⟩)) ∧ Fr (fun k => B ≤ k) w w' := by
  have HT := Lib.hid (two_boxes w c ⟨3, a, b, d, l⟩ v)
  have HFA := Lib.hid (((Fr.refl (fun _ => False) w).alloc (.cells #[.int .i64 c.r, .int .i64 c.o, .int .i64 c.s, .int .i64 c.wd, .int .i64 c.th, .int .i64 c.sl, .int .i64 c.rg, .int .i64 c.lk, .int .i64 c.un, .int .i64 c.es, .int .i64 c.tk, .int .i64 c.po] 23)).alloc (.cells #[.int .i64 3, .int .i64 a, .int .i64 b, .int .i64 d, v] 67))
  have HM := Lib.hid (M.frame HFA.out (fun _ x => x.elim))
  have hsz : Hid (((w.alloc (.cells #[.int .i64 c.r, .int .i64 c.o, .int .i64 c.s, .int .i64 c.wd, .int .i64 c.th, .int .i64 c.sl, .int .i64 c.rg, .int .i64 c.lk, .int .i64 c.un, .int .i64 c.es, .int .i64 c.tk, .int .i64 c.po] 23)).alloc (.cells #[.int .i64 3, .int .i64 a, .int .i64 b, .int .i64 d, v] 67)).heap.size = w.heap.size + 2) := by show _ = _; simp
  dsimp only at HT
  have hbo := blk_lt M.ho
  have hbr := blk_lt M.hr
  have hob := M.b1
  have hrb := M.b2
  have hhb := M.b3
  have hdr := M.dr
  have hor : ob ≠ rb := ne_of_blk M.ho M.hr (by intro e; injection e with _ e2; exact absurd e2 (by decide))
  have hhl : hb < w.heap.size := (M.hh.lt hb rfl).2
  obtain ⟨nx, hnx⟩ : ∃ nx, nx = s.next ⟨3, a, b, d, l⟩ at_ := ⟨_, rfl⟩
  obtain ⟨sx, hsx⟩ : ∃ sx, sx = s.step c ⟨3, a, b, d, l⟩ := ⟨_, rfl⟩
  rw [← hnx, ← hsx]
  unfold PS.next at hnx
  unfold PS.step at hsx
  dsimp only at hnx hsx
  have HNX := Lib.hid hnx
  have HSX := Lib.hid hsx
  clear hnx hsx M
  unfold Conf.val at *
  go_enter Try.func42, Try.ntmps42
  go_upto_region 1 with fail
  generalize (w.alloc (.cells #[.int .i64 c.r, .int .i64 c.o, .int .i64 c.s, .int .i64 c.wd, .int .i64 c.th, .int .i64 c.sl, .int .i64 c.rg, .int .i64 c.lk, .int .i64 c.un, .int .i64 c.es, .int .i64 c.tk, .int .i64 c.po] 23)).alloc (.cells #[.int .i64 3, .int .i64 a, .int .i64 b, .int .i64 d, v] 67) = W0 at *
  have HX := Lib.hid (fun w' (h : Fr (fun k => B ≤ k ∧ k < w.heap.size) W0 w') => box_ins (x := ⟨3, a, b, d, l⟩) (h.heap HT.out.2 (fun x => by omega)))
  dsimp only at HX
  obtain ⟨x0, x1, x2, x3, x4⟩ := HX.out W0 (Fr.refl _ _)
  have o0 : W0.cell? ⟨ob, 0, none⟩ = some (.int .i64 s.e) := by rw [blk_cell HM.out.ho]; rfl
  have o1 : W0.cell? ⟨ob, 1, none⟩ = some (.slice (some ⟨rb, 0, none⟩) s.regs.length s.regs.length) := by rw [blk_cell HM.out.ho]; rfl
  have y0 : W0.drew.cell? ⟨rb, a, none⟩ = some (.int .i64 (s.regs.getD a 0)) := HM.out.regCell a ha
  have z0 : W0.drew.frozen? ⟨rb, a, none⟩ = false := by show W0.frozen? _ = false; rw [blk_free HM.out.hr]
  have HKO := Lib.hid (fun w' (h : Fr (fun k => k = rb) W0 w') => And.intro (show w'.cell? ⟨ob, 1, none⟩ = some (.slice (some ⟨rb, 0, none⟩) s.regs.length s.regs.length) by rw [blk_cell (h.heap HM.out.ho (fun x => hor x))]; rfl) (HX.out w' (h.mono (fun k x => by subst x; exact ⟨hrb, hbr⟩))))
  go_wp2
  go_region_held3 (fun w' => w'.cell? ⟨ob, 1, none⟩ = some (.slice (some ⟨rb, 0, none⟩) s.regs.length s.regs.length) ∧ w'.cell? ⟨w.heap.size + 1, 0, none⟩ = some (.int .i64 3) ∧ w'.cell? ⟨w.heap.size + 1, 1, none⟩ = some (.int .i64 a) ∧ w'.cell? ⟨w.heap.size + 1, 2, none⟩ = some (.int .i64 b) ∧ w'.cell? ⟨w.heap.size + 1, 3, none⟩ = some (.int .i64 d) ∧ w'.cell? ⟨w.heap.size + 1, 4, none⟩ = some v)
    (first | exact HKO.out _ (Fr.refl _ _).drew | exact HKO.out _ ((Fr.refl (fun k => k = rb) W0).drew.setCell (p := ⟨rb, a, none⟩) (.inl rfl) _)) (fail)
  go_wp2
  go_ret
  refine ⟨by rw [HNX.out]; simp, ⟨vr, vw, ?_⟩, (HFA.out.mono (fun _ x => x.elim)).trans ((Fr.refl (fun k => B ≤ k) W0).drew.setCell (p := ⟨rb, a, none⟩) (.inl hrb) _)⟩
  rw [HSX.out]
  exact (HM.out.frame ((Fr.refl (fun _ => False) W0).drew) (fun _ x => x.elim)).setReg a b


set_option maxRecDepth 100000 in
set_option maxHeartbeats 4000000 in
theorem runs5 (c : Conf) (a : Nat) (b d : Int) (l : List Int) (v : Value) (B ob rb hb hc : Nat) (vr vw : Value) (s : PS) (at_ : Nat) (w : World) (M : MAt w B ob rb hb hc vr vw s) (hat : at_ ≤ 60) (ha : a < s.regs.length) (hb0 : 0 ≤ b) :
    Calls Try.prog 42 #[.pointer (some ⟨ob, 0, none⟩), c.val, .slice (some ⟨hb, 0, none⟩) s.heap.length hc, .agg #[.int .i64 5, .int .i64 a, .int .i64 b, .int .i64 d, v], .int .i64 at_] w fun e w' =>
      e = .returned (.int .i64 (s.next ⟨5, a, b, d, l⟩ at_ : Nat)) ∧ (∃ vr' vw', MAt w' B ob rb hb hc vr' vw' (s.step c ⟨5, a, b, d, l⟩)) ∧ Fr (fun k => B ≤ k) w w' := by
  have HT := Lib.hid (two_boxes w c ⟨5, a, b, d, l⟩ v)
  have HFA := Lib.hid (((Fr.refl (fun _ => False) w).alloc (.cells #[.int .i64 c.r, .int .i64 c.o, .int .i64 c.s, .int .i64 c.wd, .int .i64 c.th, .int .i64 c.sl, .int .i64 c.rg, .int .i64 c.lk, .int .i64 c.un, .int .i64 c.es, .int .i64 c.tk, .int .i64 c.po] 23)).alloc (.cells #[.int .i64 5, .int .i64 a, .int .i64 b, .int .i64 d, v] 67))
  have HM := Lib.hid (M.frame HFA.out (fun _ x => x.elim))
  have hsz : Hid (((w.alloc (.cells #[.int .i64 c.r, .int .i64 c.o, .int .i64 c.s, .int .i64 c.wd, .int .i64 c.th, .int .i64 c.sl, .int .i64 c.rg, .int .i64 c.lk, .int .i64 c.un, .int .i64 c.es, .int .i64 c.tk, .int .i64 c.po] 23)).alloc (.cells #[.int .i64 5, .int .i64 a, .int .i64 b, .int .i64 d, v] 67)).heap.size = w.heap.size + 2) := by show _ = _; simp
  dsimp only at HT
  have hbo := blk_lt M.ho
  have hbr := blk_lt M.hr
  have hob := M.b1
  have hrb := M.b2
  have hhb := M.b3
  have hdr := M.dr
  have hor : ob ≠ rb := ne_of_blk M.ho M.hr (by intro e; injection e with _ e2; exact absurd e2 (by decide))
  have hhl : hb < w.heap.size := (M.hh.lt hb rfl).2
  obtain ⟨nx, hnx⟩ : ∃ nx, nx = s.next ⟨5, a, b, d, l⟩ at_ := ⟨_, rfl⟩
  obtain ⟨sx, hsx⟩ : ∃ sx, sx = s.step c ⟨5, a, b, d, l⟩ := ⟨_, rfl⟩
  rw [← hnx, ← hsx]
  unfold PS.next at hnx
  unfold PS.step at hsx
  dsimp only at hnx hsx
  have HNX := Lib.hid hnx
  have HSX := Lib.hid hsx
  clear hnx hsx M
  unfold Conf.val at *
  go_enter Try.func42, Try.ntmps42
  go_upto_region 1 with fail
  generalize (w.alloc (.cells #[.int .i64 c.r, .int .i64 c.o, .int .i64 c.s, .int .i64 c.wd, .int .i64 c.th, .int .i64 c.sl, .int .i64 c.rg, .int .i64 c.lk, .int .i64 c.un, .int .i64 c.es, .int .i64 c.tk, .int .i64 c.po] 23)).alloc (.cells #[.int .i64 5, .int .i64 a, .int .i64 b, .int .i64 d, v] 67) = W0 at *
  have HX := Lib.hid (fun w' (h : Fr (fun k => B ≤ k ∧ k < w.heap.size) W0 w') => box_ins (x := ⟨5, a, b, d, l⟩) (h.heap HT.out.2 (fun x => by omega)))
  dsimp only at HX
  obtain ⟨x0, x1, x2, x3, x4⟩ := HX.out W0 (Fr.refl _ _)
  have o0 : W0.cell? ⟨ob, 0, none⟩ = some (.int .i64 s.e) := by rw [blk_cell HM.out.ho]; rfl
  have o1 : W0.cell? ⟨ob, 1, none⟩ = some (.slice (some ⟨rb, 0, none⟩) s.regs.length s.regs.length) := by rw [blk_cell HM.out.ho]; rfl
  have y0 : W0.cell? ⟨rb, a, none⟩ = some (.int .i64 (s.regs.getD a 0)) := HM.out.regCell a ha
  generalize hg : s.regs.getD a 0 = g at *
  have HG := Lib.hid hg
  clear hg
  by_cases h0 : g = 0
  · have hd : (g != 0) = false := by simp [h0]
    have HZ := Lib.hid h0
    clear h0
    go_wp2
    go_quiet (fail)
    go_wp2
    go_ret
    refine ⟨by rw [HNX.out, if_neg (by rw [Int.toNat_natCast, HG.out]; exact fun h => h.2 HZ.out)]; simp, ⟨vr, vw, by rw [HSX.out]; exact HM.out.frame ((Fr.refl (fun _ => False) W0).drewN _) (fun _ x => x.elim)⟩, (HFA.out.drewN _).mono (fun _ x => x.elim)⟩
  · have hd : (g != 0) = true := by simpa using h0
    have HZ := Lib.hid h0
    clear h0
    go_wp2
    go_quiet (fail)
    go_wp2
    go_ret
    refine ⟨by rw [HNX.out, if_pos ⟨trivial, by rw [Int.toNat_natCast, HG.out]; exact HZ.out⟩]; simp; omega, ⟨vr, vw, by rw [HSX.out]; exact HM.out.frame ((Fr.refl (fun _ => False) W0).drewN _) (fun _ x => x.elim)⟩, (HFA.out.drewN _).mono (fun _ x => x.elim)⟩


set_option maxRecDepth 100000 in
set_option maxHeartbeats 4000000 in
theorem runs1 (c : Conf) (a : Nat) (b d : Int) (l : List Int) (v : Value) (B ob rb hb hc : Nat) (vr vw : Value) (s : PS) (at_ : Nat) (w : World) (M : MAt w B ob rb hb hc vr vw s) (hat : at_ ≤ 60) (ha : a < s.regs.length) (hd : d = -1 ∨ (0 ≤ d ∧ d < s.regs.length)) (hbI : I64 b) (hnr : s.regs.length ≤ 20000) (hfn : c.Fine) (hwl : (s.heap.length : Int) = c.words) (hrl : s.rs.length ≤ 2000 ∧ s.rs.length % 2 = 0) (_ : s.ws.length ≤ 2000 ∧ s.ws.length % 2 = 0) (hB : B ≤ w.heap.size) :
    Calls Try.prog 42 #[.pointer (some ⟨ob, 0, none⟩), c.val, .slice (some ⟨hb, 0, none⟩) s.heap.length hc, .agg #[.int .i64 1, .int .i64 a, .int .i64 b, .int .i64 d, v], .int .i64 at_] w fun e w' =>
      e = .returned (.int .i64 (s.next ⟨1, a, b, d, l⟩ at_ : Nat)) ∧ (∃ vr' vw', MAt w' B ob rb hb hc vr' vw' (s.step c ⟨1, a, b, d, l⟩)) ∧ Fr (fun k => B ≤ k) w w' := by
  have HT := Lib.hid (two_boxes w c ⟨1, a, b, d, l⟩ v)
  have HFA := Lib.hid (((Fr.refl (fun _ => False) w).alloc (.cells #[.int .i64 c.r, .int .i64 c.o, .int .i64 c.s, .int .i64 c.wd, .int .i64 c.th, .int .i64 c.sl, .int .i64 c.rg, .int .i64 c.lk, .int .i64 c.un, .int .i64 c.es, .int .i64 c.tk, .int .i64 c.po] 23)).alloc (.cells #[.int .i64 1, .int .i64 a, .int .i64 b, .int .i64 d, v] 67))
  have HM := Lib.hid (M.frame HFA.out (fun _ x => x.elim))
  have hsz : Hid (((w.alloc (.cells #[.int .i64 c.r, .int .i64 c.o, .int .i64 c.s, .int .i64 c.wd, .int .i64 c.th, .int .i64 c.sl, .int .i64 c.rg, .int .i64 c.lk, .int .i64 c.un, .int .i64 c.es, .int .i64 c.tk, .int .i64 c.po] 23)).alloc (.cells #[.int .i64 1, .int .i64 a, .int .i64 b, .int .i64 d, v] 67)).heap.size = w.heap.size + 2) := by show _ = _; simp
  dsimp only at HT
  have hbo := blk_lt M.ho
  have hbr := blk_lt M.hr
  have hob := M.b1
  have hrb := M.b2
  have hhb := M.b3
  have hdr := M.dr
  have hor : ob ≠ rb := ne_of_blk M.ho M.hr (by intro e; injection e with _ e2; exact absurd e2 (by decide))
  have hhl : hb < w.heap.size := (M.hh.lt hb rfl).2
  obtain ⟨nx, hnx⟩ : ∃ nx, nx = s.next ⟨1, a, b, d, l⟩ at_ := ⟨_, rfl⟩
  obtain ⟨sx, hsx⟩ : ∃ sx, sx = s.step c ⟨1, a, b, d, l⟩ := ⟨_, rfl⟩
  rw [← hnx, ← hsx]
  unfold PS.next at hnx
  unfold PS.step at hsx
  dsimp only at hnx hsx
  have HNX := Lib.hid hnx
  have HSX := Lib.hid hsx
  clear hnx hsx M
  unfold Conf.val at *
  go_enter Try.func42, Try.ntmps42
  go_upto_region 1 with fail
  generalize (w.alloc (.cells #[.int .i64 c.r, .int .i64 c.o, .int .i64 c.s, .int .i64 c.wd, .int .i64 c.th, .int .i64 c.sl, .int .i64 c.rg, .int .i64 c.lk, .int .i64 c.un, .int .i64 c.es, .int .i64 c.tk, .int .i64 c.po] 23)).alloc (.cells #[.int .i64 1, .int .i64 a, .int .i64 b, .int .i64 d, v] 67) = W0 at *
  have HX := Lib.hid (fun w' (h : Fr (fun k => B ≤ k ∧ k < w.heap.size) W0 w') => box_ins (x := ⟨1, a, b, d, l⟩) (h.heap HT.out.2 (fun x => by omega)))
  dsimp only at HX
  obtain ⟨x0, x1, x2, x3, x4⟩ := HX.out W0 (Fr.refl _ _)
  have o0 : W0.cell? ⟨ob, 0, none⟩ = some (.int .i64 s.e) := by rw [blk_cell HM.out.ho]; rfl
  have o1 : W0.cell? ⟨ob, 1, none⟩ = some (.slice (some ⟨rb, 0, none⟩) s.regs.length s.regs.length) := by rw [blk_cell HM.out.ho]; rfl
  obtain ⟨_, curh, hhh⟩ := row_block HM.out.hh rfl
  have hoh : ob ≠ hb := ne_of_blk HM.out.ho hhh (by intro e; injection e with _ e2; exact absurd e2 (by decide))
  clear hhh
  obtain ⟨hp0, hp1⟩ := addrV_in hfn ⟨1, a, b, d, l⟩ s.regs
  obtain ⟨i, hi⟩ := Int.eq_ofNat_of_zero_le hp0
  have hil : i < s.heap.length := by omega
  have HAD := addr_parts c 1 a b d l v (some ⟨rb, 0, none⟩) s.regs.length s.regs.length s.regs _ W0.drew (MAt.flat (HM.out.frame (Fr.refl (fun _ => False) W0).drew (fun _ x => x.elim))) hnr hd hbI
  rw [hi] at HAD
  unfold Conf.val at HAD
  have HA := Lib.hid HAD
  have HI := Lib.hid hi
  have HKO := Lib.hid (fun w' (h : Fr (fun k => k = rb ∨ k = hb) W0 w') => And.intro (show w'.cell? ⟨ob, 1, none⟩ = some (.slice (some ⟨rb, 0, none⟩) s.regs.length s.regs.length) by rw [blk_cell (h.heap HM.out.ho (fun x => x.elim hor (fun y => hoh y)))]; rfl) (And.intro (HT.out.1.frame (h.mono (T := fun k => B ≤ k ∧ k < w.heap.size) (fun k x => by rcases x with rfl | rfl <;> omega)) (fun x => by omega)).all (HX.out w' (h.mono (fun k x => by rcases x with rfl | rfl <;> omega)))))
  clear HAD hp0 hp1 hi hwl hfn
  go_wp2
  go_region_held3 (fun w' => w'.cell? ⟨ob, 1, none⟩ = some (.slice (some ⟨rb, 0, none⟩) s.regs.length s.regs.length) ∧ (w'.cell? ⟨w.heap.size, 0, none⟩ = some (.int .i64 c.r) ∧ w'.cell? ⟨w.heap.size, 1, none⟩ = some (.int .i64 c.o) ∧ w'.cell? ⟨w.heap.size, 2, none⟩ = some (.int .i64 c.s) ∧ w'.cell? ⟨w.heap.size, 3, none⟩ = some (.int .i64 c.wd) ∧ w'.cell? ⟨w.heap.size, 4, none⟩ = some (.int .i64 c.th) ∧ w'.cell? ⟨w.heap.size, 5, none⟩ = some (.int .i64 c.sl) ∧ w'.cell? ⟨w.heap.size, 6, none⟩ = some (.int .i64 c.rg) ∧ w'.cell? ⟨w.heap.size, 7, none⟩ = some (.int .i64 c.lk) ∧ w'.cell? ⟨w.heap.size, 8, none⟩ = some (.int .i64 c.un) ∧ w'.cell? ⟨w.heap.size, 9, none⟩ = some (.int .i64 c.es) ∧ w'.cell? ⟨w.heap.size, 10, none⟩ = some (.int .i64 c.tk) ∧ w'.cell? ⟨w.heap.size, 11, none⟩ = some (.int .i64 c.po)) ∧ w'.cell? ⟨w.heap.size + 1, 0, none⟩ = some (.int .i64 1) ∧ w'.cell? ⟨w.heap.size + 1, 1, none⟩ = some (.int .i64 a) ∧ w'.cell? ⟨w.heap.size + 1, 2, none⟩ = some (.int .i64 b) ∧ w'.cell? ⟨w.heap.size + 1, 3, none⟩ = some (.int .i64 d) ∧ w'.cell? ⟨w.heap.size + 1, 4, none⟩ = some v)
    (first | exact HKO.out _ hk1 | exact HKO.out _ (Fr.refl _ _).drew) (first
    | (go_at_call 58; (with_reducible refine HA.out.mono ?_); rintro ex w1 ⟨rfl, hf1⟩; have hk1 : Fr (fun k => k = rb ∨ k = hb) W0 w1 := ((Fr.refl (fun _ => False) W0).drew.trans hf1).mono (fun _ x => x.elim)))
  have H1 := Lib.hid (show Fr (fun _ => False) W0 w1 from (Fr.refl (fun _ => False) W0).drew.trans hf1)
  have HM1 := Lib.hid (HM.out.frame H1.out (fun _ x => x.elim))
  clear hk1 hf1
  have y0 : w1.drew.cell? ⟨rb, a, none⟩ = some (.int .i64 (s.regs.getD a 0)) := HM1.out.regCell a ha
  have z0 : w1.drew.frozen? ⟨rb, a, none⟩ = false := by show w1.frozen? _ = false; rw [blk_free HM1.out.hr]
  have HHC := Lib.hid (HM1.out.heapCell i hil)
  generalize hg : s.heap.getD i 0 = g at *
  have HG := Lib.hid hg
  clear hg
  have HK2 := Lib.hid (fun w' (h : Fr (fun k => k = rb) w1 w') => And.intro (show w'.cell? ⟨ob, 1, none⟩ = some (.slice (some ⟨rb, 0, none⟩) s.regs.length s.regs.length) by rw [blk_cell (h.heap HM1.out.ho (fun x => hor x))]; rfl) (And.intro (h.cell HHC.out (fun x => hdr x.symm)) (HX.out w' ((H1.out.mono (fun _ x => x.elim)).trans (h.mono (fun k x => by subst x; exact ⟨hrb, hbr⟩))))))
  go_wp2
  go_region_held3 (fun w' => w'.cell? ⟨ob, 1, none⟩ = some (.slice (some ⟨rb, 0, none⟩) s.regs.length s.regs.length) ∧ w'.cell? ⟨hb, i, none⟩ = some (.int .i64 g) ∧ w'.cell? ⟨w.heap.size + 1, 0, none⟩ = some (.int .i64 1) ∧ w'.cell? ⟨w.heap.size + 1, 1, none⟩ = some (.int .i64 a) ∧ w'.cell? ⟨w.heap.size + 1, 2, none⟩ = some (.int .i64 b) ∧ w'.cell? ⟨w.heap.size + 1, 3, none⟩ = some (.int .i64 d) ∧ w'.cell? ⟨w.heap.size + 1, 4, none⟩ = some v)
    (first | exact HK2.out _ (Fr.refl _ _).drew | exact HK2.out _ ((Fr.refl (fun k => k = rb) w1).drew.setCell (p := ⟨rb, a, none⟩) (.inl rfl) _)) (fail)
  have HM2 := Lib.hid ((HM1.out.setReg a g).frame ((Fr.refl (fun _ => False) (w1.setCell ⟨rb, a, none⟩ (.int .i64 g))).drew) (fun _ x => x.elim))
  have H2 := Lib.hid (show Fr (fun k => B ≤ k) W0 (w1.setCell ⟨rb, a, none⟩ (.int .i64 g)).drew from (H1.out.mono (fun _ x => x.elim)).trans ((Fr.refl (fun k => B ≤ k) w1).setCell (p := ⟨rb, a, none⟩) (.inl hrb) _).drew)
  generalize (w1.setCell ⟨rb, a, none⟩ (.int .i64 g)).drew = w2 at *
  clear y0 z0 HK2 HHC
  have HH3 := HM2.out.heapCell i hil
  dsimp only at HH3
  rw [HG.out] at HH3
  have o2 : w2.cell? ⟨ob, 2, none⟩ = some vr := by rw [blk_cell HM2.out.ho]; rfl
  go_wp2
  have hfa := (Fr.refl (fun _ => False) w2).drew.alloc (.cells #[.int .i64 i, .int .i64 g] 54)
  have HM3 := Lib.hid (HM2.out.frame hfa (fun _ x => x.elim))
  have hw0 := HFA.out.size
  have hw2 := H2.out.size
  have hnb := heap_alloc_new w2.drew (.cells #[.int .i64 i, .int .i64 g] 54)
  have HFA3 := Lib.hid hfa
  have HNB := Lib.hid hnb
  have hlen3 : Hid (s.rs.length / 2 ≤ 100000) := by show _ ≤ _; omega
  have hB3 : Hid (B ≤ (w2.drew.alloc (.cells #[.int .i64 i, .int .i64 g] 54)).heap.size) := by show _ ≤ _; simp; omega
  have o2a : (w2.alloc (.cells #[.int .i64 i, .int .i64 g] 54)).cell? ⟨ob, 2, none⟩ = some vr := by rw [blk_cell (blk_alloc HM2.out.ho _)]; rfl
  clear hfa hnb
  go_region_law (refine step_append_acc _ (by rfl) (.tmp 42) (.tmp 49) (by rfl) B vr _ _ (by rfl) HM3.out.hrs w2.drew.heap.size i g (by rfl) HNB.out hlen3.out hB3.out ?_
                 rintro v' w3 ho3 hf3 hb3 ⟨g3, c3, rfl⟩
                 have HM4 := Lib.hid (HM3.out.pushR i g hf3 ho3 (by simpa using hb3) hrl.2)
                 have ho4 := hf3.heap HM3.out.ho (fun x => by
                   obtain ⟨_, cur, h2⟩ := row_block HM3.out.hrs x
                   rw [HM3.out.ho] at h2
                   injection h2 with h3
                   injection h3 with _ h4
                   exact absurd h4 (by decide))
                 have q2 : w3.cell? ⟨ob, 2, none⟩ = some vr := by rw [blk_cell ho4]; rfl
                 have z2 : w3.frozen? ⟨ob, 2, none⟩ = false := by rw [blk_free ho4]
                 have HF3 := Lib.hid hf3
                 have hrow := fun gg hh => (row_block HM3.out.hrs (g := gg) hh).1
                 have HROW := Lib.hid hrow
                 clear ho3 hf3 hb3 ho4 hrow)
  all_goals
    go_wp2
    go_ret
    refine ⟨by rw [HNX.out]; simp, ⟨.slice (some ⟨g3, 0, none⟩) (s.rs.length / 2 + 1) c3, vw, ?_⟩, (HFA.out.mono (fun _ x => x.elim)).trans (H2.out.trans ((HFA3.out.mono (fun _ x => x.elim)).trans ((HF3.out.mono (fun k x => HROW.out k x)).trans ((Fr.refl (fun k => B ≤ k) w3).setCell (p := ⟨ob, 2, none⟩) (.inl hob) _))))⟩
    rw [HSX.out]
    simp only [if_true]
    rw [HI.out, Int.toNat_natCast, Int.toNat_natCast, HG.out]
    exact HM4.out


set_option maxRecDepth 100000 in
set_option maxHeartbeats 4000000 in
theorem runs2 (c : Conf) (a : Nat) (b d : Int) (l : List Int) (v : Value) (B ob rb hb hc : Nat) (vr vw : Value) (s : PS) (at_ : Nat) (w : World) (M : MAt w B ob rb hb hc vr vw s) (hat : at_ ≤ 60) (ha : a < s.regs.length) (hd : d = -1 ∨ (0 ≤ d ∧ d < s.regs.length)) (hbI : I64 b) (hnr : s.regs.length ≤ 20000) (hfn : c.Fine) (hwl : (s.heap.length : Int) = c.words) (_ : s.rs.length ≤ 2000 ∧ s.rs.length % 2 = 0) (hwsl : s.ws.length ≤ 2000 ∧ s.ws.length % 2 = 0) (hB : B ≤ w.heap.size) :
    Calls Try.prog 42 #[.pointer (some ⟨ob, 0, none⟩), c.val, .slice (some ⟨hb, 0, none⟩) s.heap.length hc, .agg #[.int .i64 2, .int .i64 a, .int .i64 b, .int .i64 d, v], .int .i64 at_] w fun e w' =>
      e = .returned (.int .i64 (s.next ⟨2, a, b, d, l⟩ at_ : Nat)) ∧ (∃ vr' vw', MAt w' B ob rb hb hc vr' vw' (s.step c ⟨2, a, b, d, l⟩)) ∧ Fr (fun k => B ≤ k) w w' := by
  have HT := Lib.hid (two_boxes w c ⟨2, a, b, d, l⟩ v)
  have HFA := Lib.hid (((Fr.refl (fun _ => False) w).alloc (.cells #[.int .i64 c.r, .int .i64 c.o, .int .i64 c.s, .int .i64 c.wd, .int .i64 c.th, .int .i64 c.sl, .int .i64 c.rg, .int .i64 c.lk, .int .i64 c.un, .int .i64 c.es, .int .i64 c.tk, .int .i64 c.po] 23)).alloc (.cells #[.int .i64 2, .int .i64 a, .int .i64 b, .int .i64 d, v] 67))
  have HM := Lib.hid (M.frame HFA.out (fun _ x => x.elim))
  have hsz : Hid (((w.alloc (.cells #[.int .i64 c.r, .int .i64 c.o, .int .i64 c.s, .int .i64 c.wd, .int .i64 c.th, .int .i64 c.sl, .int .i64 c.rg, .int .i64 c.lk, .int .i64 c.un, .int .i64 c.es, .int .i64 c.tk, .int .i64 c.po] 23)).alloc (.cells #[.int .i64 2, .int .i64 a, .int .i64 b, .int .i64 d, v] 67)).heap.size = w.heap.size + 2) := by show _ = _; simp
  dsimp only at HT
  have hbo := blk_lt M.ho
  have hbr := blk_lt M.hr
  have hob := M.b1
  have hrb := M.b2
  have hhb := M.b3
  have hdr := M.dr
  have hor : ob ≠ rb := ne_of_blk M.ho M.hr (by intro e; injection e with _ e2; exact absurd e2 (by decide))
  have hhl : hb < w.heap.size := (M.hh.lt hb rfl).2
  obtain ⟨nx, hnx⟩ : ∃ nx, nx = s.next ⟨2, a, b, d, l⟩ at_ := ⟨_, rfl⟩
  obtain ⟨sx, hsx⟩ : ∃ sx, sx = s.step c ⟨2, a, b, d, l⟩ := ⟨_, rfl⟩
  rw [← hnx, ← hsx]
  unfold PS.next at hnx
  unfold PS.step at hsx
  dsimp only at hnx hsx
  have HNX := Lib.hid hnx
  have HSX := Lib.hid hsx
  clear hnx hsx M
  unfold Conf.val at *
  go_enter Try.func42, Try.ntmps42
  go_upto_region 1 with fail
  generalize (w.alloc (.cells #[.int .i64 c.r, .int .i64 c.o, .int .i64 c.s, .int .i64 c.wd, .int .i64 c.th, .int .i64 c.sl, .int .i64 c.rg, .int .i64 c.lk, .int .i64 c.un, .int .i64 c.es, .int .i64 c.tk, .int .i64 c.po] 23)).alloc (.cells #[.int .i64 2, .int .i64 a, .int .i64 b, .int .i64 d, v] 67) = W0 at *
  have HX := Lib.hid (fun w' (h : Fr (fun k => B ≤ k ∧ k < w.heap.size) W0 w') => box_ins (x := ⟨2, a, b, d, l⟩) (h.heap HT.out.2 (fun x => by omega)))
  dsimp only at HX
  obtain ⟨x0, x1, x2, x3, x4⟩ := HX.out W0 (Fr.refl _ _)
  have o0 : W0.cell? ⟨ob, 0, none⟩ = some (.int .i64 s.e) := by rw [blk_cell HM.out.ho]; rfl
  have o1 : W0.cell? ⟨ob, 1, none⟩ = some (.slice (some ⟨rb, 0, none⟩) s.regs.length s.regs.length) := by rw [blk_cell HM.out.ho]; rfl
  obtain ⟨_, curh, hhh⟩ := row_block HM.out.hh rfl
  have hoh : ob ≠ hb := ne_of_blk HM.out.ho hhh (by intro e; injection e with _ e2; exact absurd e2 (by decide))
  clear hhh
  obtain ⟨hp0, hp1⟩ := addrV_in hfn ⟨2, a, b, d, l⟩ s.regs
  obtain ⟨i, hi⟩ := Int.eq_ofNat_of_zero_le hp0
  have hil : i < s.heap.length := by omega
  have HAD := addr_parts c 2 a b d l v (some ⟨rb, 0, none⟩) s.regs.length s.regs.length s.regs _ W0.drew (MAt.flat (HM.out.frame (Fr.refl (fun _ => False) W0).drew (fun _ x => x.elim))) hnr hd hbI
  rw [hi] at HAD
  unfold Conf.val at HAD
  have HA := Lib.hid HAD
  have HI := Lib.hid hi
  have HKO := Lib.hid (fun w' (h : Fr (fun k => k = rb ∨ k = hb) W0 w') => And.intro (show w'.cell? ⟨ob, 1, none⟩ = some (.slice (some ⟨rb, 0, none⟩) s.regs.length s.regs.length) by rw [blk_cell (h.heap HM.out.ho (fun x => x.elim hor (fun y => hoh y)))]; rfl) (And.intro (HT.out.1.frame (h.mono (T := fun k => B ≤ k ∧ k < w.heap.size) (fun k x => by rcases x with rfl | rfl <;> omega)) (fun x => by omega)).all (HX.out w' (h.mono (fun k x => by rcases x with rfl | rfl <;> omega)))))
  clear HAD hp0 hp1 hi hwl hfn
  go_wp2
  go_region_held3 (fun w' => w'.cell? ⟨ob, 1, none⟩ = some (.slice (some ⟨rb, 0, none⟩) s.regs.length s.regs.length) ∧ (w'.cell? ⟨w.heap.size, 0, none⟩ = some (.int .i64 c.r) ∧ w'.cell? ⟨w.heap.size, 1, none⟩ = some (.int .i64 c.o) ∧ w'.cell? ⟨w.heap.size, 2, none⟩ = some (.int .i64 c.s) ∧ w'.cell? ⟨w.heap.size, 3, none⟩ = some (.int .i64 c.wd) ∧ w'.cell? ⟨w.heap.size, 4, none⟩ = some (.int .i64 c.th) ∧ w'.cell? ⟨w.heap.size, 5, none⟩ = some (.int .i64 c.sl) ∧ w'.cell? ⟨w.heap.size, 6, none⟩ = some (.int .i64 c.rg) ∧ w'.cell? ⟨w.heap.size, 7, none⟩ = some (.int .i64 c.lk) ∧ w'.cell? ⟨w.heap.size, 8, none⟩ = some (.int .i64 c.un) ∧ w'.cell? ⟨w.heap.size, 9, none⟩ = some (.int .i64 c.es) ∧ w'.cell? ⟨w.heap.size, 10, none⟩ = some (.int .i64 c.tk) ∧ w'.cell? ⟨w.heap.size, 11, none⟩ = some (.int .i64 c.po)) ∧ w'.cell? ⟨w.heap.size + 1, 0, none⟩ = some (.int .i64 2) ∧ w'.cell? ⟨w.heap.size + 1, 1, none⟩ = some (.int .i64 a) ∧ w'.cell? ⟨w.heap.size + 1, 2, none⟩ = some (.int .i64 b) ∧ w'.cell? ⟨w.heap.size + 1, 3, none⟩ = some (.int .i64 d) ∧ w'.cell? ⟨w.heap.size + 1, 4, none⟩ = some v)
    (first | exact HKO.out _ hk1 | exact HKO.out _ (Fr.refl _ _).drew) (first
    | (go_at_call 58; (with_reducible refine HA.out.mono ?_); rintro ex w1 ⟨rfl, hf1⟩; have hk1 : Fr (fun k => k = rb ∨ k = hb) W0 w1 := ((Fr.refl (fun _ => False) W0).drew.trans hf1).mono (fun _ x => x.elim)))
  have H1 := Lib.hid (show Fr (fun _ => False) W0 w1 from (Fr.refl (fun _ => False) W0).drew.trans hf1)
  have HM1 := Lib.hid (HM.out.frame H1.out (fun _ x => x.elim))
  clear hk1 hf1
  have y0 : w1.drew.cell? ⟨hb, i, none⟩ = some (.int .i64 (s.heap.getD i 0)) := HM1.out.heapCell i hil
  have z0 : w1.drew.frozen? ⟨hb, i, none⟩ = false := by
    obtain ⟨_, cur, hcb⟩ := row_block HM1.out.hh rfl
    show w1.frozen? _ = false
    rw [blk_free hcb]
  have HRC := Lib.hid (HM1.out.regCell a ha)
  generalize hg : s.regs.getD a 0 = g at *
  have HG := Lib.hid hg
  clear hg
  have HK2 := Lib.hid (fun w' (h : Fr (fun k => k = hb) w1 w') => And.intro (show w'.cell? ⟨ob, 1, none⟩ = some (.slice (some ⟨rb, 0, none⟩) s.regs.length s.regs.length) by rw [blk_cell (h.heap HM1.out.ho (fun x => hoh x))]; rfl) (And.intro (h.cell HRC.out (fun x => hdr x)) (HX.out w' ((H1.out.mono (fun _ x => x.elim)).trans (h.mono (fun k x => by subst x; exact ⟨hhb, hhl⟩))))))
  go_wp2
  go_region_held3 (fun w' => w'.cell? ⟨ob, 1, none⟩ = some (.slice (some ⟨rb, 0, none⟩) s.regs.length s.regs.length) ∧ w'.cell? ⟨rb, a, none⟩ = some (.int .i64 g) ∧ w'.cell? ⟨w.heap.size + 1, 0, none⟩ = some (.int .i64 2) ∧ w'.cell? ⟨w.heap.size + 1, 1, none⟩ = some (.int .i64 a) ∧ w'.cell? ⟨w.heap.size + 1, 2, none⟩ = some (.int .i64 b) ∧ w'.cell? ⟨w.heap.size + 1, 3, none⟩ = some (.int .i64 d) ∧ w'.cell? ⟨w.heap.size + 1, 4, none⟩ = some v)
    (first | exact HK2.out _ (Fr.refl _ _).drew | exact HK2.out _ ((Fr.refl (fun k => k = hb) w1).drew.setCell (p := ⟨hb, i, none⟩) (.inl rfl) _)) (fail)
  have HM2 := Lib.hid ((HM1.out.setHeap i g).frame ((Fr.refl (fun _ => False) (w1.setCell ⟨hb, i, none⟩ (.int .i64 g))).drew) (fun _ x => x.elim))
  have H2 := Lib.hid (show Fr (fun k => B ≤ k) W0 (w1.setCell ⟨hb, i, none⟩ (.int .i64 g)).drew from (H1.out.mono (fun _ x => x.elim)).trans ((Fr.refl (fun k => B ≤ k) w1).setCell (p := ⟨hb, i, none⟩) (.inl hhb) _).drew)
  generalize (w1.setCell ⟨hb, i, none⟩ (.int .i64 g)).drew = w2 at *
  clear y0 z0 HK2 HRC
  have HH3 := HM2.out.heapCell i (by dsimp only; rw [List.length_set]; exact hil)
  dsimp only at HH3
  rw [List.getD_eq_getElem?_getD, List.getElem?_set_self hil] at HH3
  simp only [Option.getD_some] at HH3
  have o2 : w2.cell? ⟨ob, 3, none⟩ = some vw := by rw [blk_cell HM2.out.ho]; rfl
  go_wp2
  have hfa := (Fr.refl (fun _ => False) w2).drew.alloc (.cells #[.int .i64 i, .int .i64 g] 54)
  have HM3 := Lib.hid (HM2.out.frame hfa (fun _ x => x.elim))
  have hw0 := HFA.out.size
  have hw2 := H2.out.size
  have hnb := heap_alloc_new w2.drew (.cells #[.int .i64 i, .int .i64 g] 54)
  have HFA3 := Lib.hid hfa
  have HNB := Lib.hid hnb
  have hlen3 : Hid (s.ws.length / 2 ≤ 100000) := by show _ ≤ _; omega
  have hB3 : Hid (B ≤ (w2.drew.alloc (.cells #[.int .i64 i, .int .i64 g] 54)).heap.size) := by show _ ≤ _; simp; omega
  have o2a : (w2.alloc (.cells #[.int .i64 i, .int .i64 g] 54)).cell? ⟨ob, 3, none⟩ = some vw := by rw [blk_cell (blk_alloc HM2.out.ho _)]; rfl
  clear hfa hnb
  go_region_law (refine step_append_acc _ (by rfl) (.tmp 77) (.tmp 84) (by rfl) B vw _ _ (by rfl) HM3.out.hws w2.drew.heap.size i g (by rfl) HNB.out hlen3.out hB3.out ?_
                 rintro v' w3 ho3 hf3 hb3 ⟨g3, c3, rfl⟩
                 have HM4 := Lib.hid (HM3.out.pushW i g hf3 ho3 (by simpa using hb3) hwsl.2)
                 have ho4 := hf3.heap HM3.out.ho (fun x => by
                   obtain ⟨_, cur, h2⟩ := row_block HM3.out.hws x
                   rw [HM3.out.ho] at h2
                   injection h2 with h3
                   injection h3 with _ h4
                   exact absurd h4 (by decide))
                 have q2 : w3.cell? ⟨ob, 3, none⟩ = some vw := by rw [blk_cell ho4]; rfl
                 have z2 : w3.frozen? ⟨ob, 3, none⟩ = false := by rw [blk_free ho4]
                 have HF3 := Lib.hid hf3
                 have hrow := fun gg hh => (row_block HM3.out.hws (g := gg) hh).1
                 have HROW := Lib.hid hrow
                 clear ho3 hf3 hb3 ho4 hrow)
  all_goals
    go_wp2
    go_ret
    refine ⟨by rw [HNX.out]; simp, ⟨vr, .slice (some ⟨g3, 0, none⟩) (s.ws.length / 2 + 1) c3, ?_⟩, (HFA.out.mono (fun _ x => x.elim)).trans (H2.out.trans ((HFA3.out.mono (fun _ x => x.elim)).trans ((HF3.out.mono (fun k x => HROW.out k x)).trans ((Fr.refl (fun k => B ≤ k) w3).setCell (p := ⟨ob, 3, none⟩) (.inl hob) _))))⟩
    rw [HSX.out]
    simp only [HI.out, Int.toNat_natCast, HG.out]
    exact HM4.out

end Go.Proofs.Ytkaokhpaabfhmaa
