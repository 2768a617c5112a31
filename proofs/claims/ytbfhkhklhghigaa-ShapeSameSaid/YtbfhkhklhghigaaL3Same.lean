/- ltklaw3.ShapeSame answers true. -/
import Derived.Test.YtbfhkhklhghigaaL3First
namespace Go.Proofs.Ytbfhkhklhghigaa
open Go.RowKit

theorem BoxConf.all2 {w : World} {b b' : Nat} {c d : Conf} (h : BoxConf w b c) (k : BoxConf w b' d) :
    w.cell? ⟨b, 0, none⟩ = some (.int .i64 c.r) ∧ w.cell? ⟨b, 1, none⟩ = some (.int .i64 c.o) ∧ w.cell? ⟨b, 2, none⟩ = some (.int .i64 c.s) ∧ w.cell? ⟨b, 3, none⟩ = some (.int .i64 c.wd) ∧ w.cell? ⟨b, 4, none⟩ = some (.int .i64 c.th) ∧ w.cell? ⟨b, 5, none⟩ = some (.int .i64 c.sl) ∧ w.cell? ⟨b, 6, none⟩ = some (.int .i64 c.rg) ∧ w.cell? ⟨b, 7, none⟩ = some (.int .i64 c.lk) ∧ w.cell? ⟨b, 8, none⟩ = some (.int .i64 c.un) ∧ w.cell? ⟨b, 9, none⟩ = some (.int .i64 c.es) ∧ w.cell? ⟨b, 10, none⟩ = some (.int .i64 c.tk) ∧ w.cell? ⟨b, 11, none⟩ = some (.int .i64 c.po) ∧ w.cell? ⟨b', 0, none⟩ = some (.int .i64 d.r) ∧ w.cell? ⟨b', 1, none⟩ = some (.int .i64 d.o) ∧ w.cell? ⟨b', 2, none⟩ = some (.int .i64 d.s) ∧ w.cell? ⟨b', 3, none⟩ = some (.int .i64 d.wd) ∧ w.cell? ⟨b', 4, none⟩ = some (.int .i64 d.th) ∧ w.cell? ⟨b', 5, none⟩ = some (.int .i64 d.sl) ∧ w.cell? ⟨b', 6, none⟩ = some (.int .i64 d.rg) ∧ w.cell? ⟨b', 7, none⟩ = some (.int .i64 d.lk) ∧ w.cell? ⟨b', 8, none⟩ = some (.int .i64 d.un) ∧ w.cell? ⟨b', 9, none⟩ = some (.int .i64 d.es) ∧ w.cell? ⟨b', 10, none⟩ = some (.int .i64 d.tk) ∧ w.cell? ⟨b', 11, none⟩ = some (.int .i64 d.po) := by
  unfold BoxConf at h k
  refine ⟨?_, ?_, ?_, ?_, ?_, ?_, ?_, ?_, ?_, ?_, ?_, ?_, ?_, ?_, ?_, ?_, ?_, ?_, ?_, ?_, ?_, ?_, ?_, ?_⟩ <;> first | (rw [blk_cell h]; rfl) | (rw [blk_cell k]; rfl)
theorem BoxConf.alloc {w : World} {b : Nat} {c : Conf} (h : BoxConf w b c) (o : Obj) : BoxConf (w.alloc o) b c := blk_alloc h o
theorem BoxConf.drew {w : World} {b : Nat} {c : Conf} (h : BoxConf w b c) : BoxConf w.drew b c := h

/-- Two configurations of one size, both fine. -/
structure Alike (c d : Conf) : Prop where
  r : d.r = c.r
  o : d.o = c.o
  s : d.s = c.s
  wd : d.wd = c.wd
  fc : c.Fine
  fd : d.Fine
namespace Alike
variable {c d : Conf} (h : Alike c d)
include h
theorem R : d.R = c.R := by unfold Conf.R; rw [if_pos h.fc, if_pos h.fd, h.r]
theorem O : d.O = c.O := by unfold Conf.O; rw [if_pos h.fc, if_pos h.fd, h.r, h.o]
theorem S : d.S = c.S := by unfold Conf.S; rw [if_pos h.fc, if_pos h.fd, h.r, h.o, h.s]
theorem words : d.words = c.words := by unfold Conf.words; rw [h.S, h.wd]
theorem nodes : d.nodes = c.nodes := by unfold Conf.nodes; rw [h.R, h.O, h.S]
theorem cells : d.cells = c.cells := by unfold Conf.cells; rw [h.S, h.wd]
theorem level (n : Int) : d.level n = c.level n := by unfold Conf.level; rw [h.nodes, h.R, h.O]
theorem latch (n : Int) : d.latch n = c.latch n := by unfold Conf.latch; rw [h.level, h.words, h.R, h.O]
theorem has (a : Int) : d.has a = c.has a := by unfold Conf.has; rw [h.words]
theorem region (a : Int) : d.regionOf a = c.regionOf a := by unfold Conf.regionOf; rw [h.has, h.wd, h.s, h.o]
theorem object (a : Int) : d.objectOf a = c.objectOf a := by unfold Conf.objectOf; rw [h.has, h.R, h.wd, h.s]
theorem stripe (a : Int) : d.stripeOf a = c.stripeOf a := by unfold Conf.stripeOf; rw [h.has, h.R, h.O, h.wd]
theorem path (a : Int) : d.pathErr a = c.pathErr a := by unfold Conf.pathErr; rw [h.has]
end Alike
theorem BoxConf.setFour {w : World} {b : Nat} {c : Conf} (h : BoxConf w b c) (n m k l : Int) :
    BoxConf ((((w.setCell ⟨b, 0, none⟩ (.int .i64 n)).setCell ⟨b, 1, none⟩ (.int .i64 m)).setCell ⟨b, 2, none⟩ (.int .i64 k)).setCell ⟨b, 3, none⟩ (.int .i64 l)) b { c with r := n, o := m, s := k, wd := l } := by
  unfold BoxConf at *; rw [blk_set (blk_set (blk_set (blk_set h _ _) _ _) _ _)]; rfl
theorem BoxConf.other {w : World} {b : Nat} {c : Conf} (h : BoxConf w b c) {p : Addr} (hne : b ≠ p.block) (v : Value) : BoxConf (w.setCell p v) b c := by
  unfold BoxConf at *; rw [heap_setCell_other _ _ _ _ hne]; exact h

set_option maxRecDepth 100000 in
set_option maxHeartbeats 8000000 in
set_option linter.unusedVariables false in
theorem same_walk (cs : Array Value) (c : Conf) (ds : Array Value) (d : Conf) (a : Int) (w : World) (hc : ConfIn cs c) (hd : ConfIn ds d) (_ : (Lit.int .i64 a).wf = true) :
    Calls Try.prog 4 #[.agg cs, .agg ds, .int .i64 a] w fun e w' => e = .returned (.bool true) ∧ Fr (fun _ => False) w w' := by
  unfold ConfIn at hc hd
  rw [hc, hd]
  clear hc hd
  have hBc0 := BoxConf.mk w c
  have hBd0 := BoxConf.mk (w.alloc (.cells #[.int .i64 c.r, .int .i64 c.o, .int .i64 c.s, .int .i64 c.wd, .int .i64 c.th, .int .i64 c.sl, .int .i64 c.rg, .int .i64 c.lk, .int .i64 c.un, .int .i64 c.es, .int .i64 c.tk, .int .i64 c.po] 23)) d
  have HK := Lib.hid (check_calls c)
  have HKd := Lib.hid (check_calls d)
  by_cases hf : c.Fine ∧ d.Fine
  · obtain ⟨hfc, hfd⟩ := hf
    have hk := Conf.chk_yes hfc
    have hkd := Conf.chk_yes hfd
    have hA : Alike c { d with r := c.r, o := c.o, s := c.s, wd := c.wd } := ⟨rfl, rfl, rfl, rfl, hfc, by unfold Conf.Fine at *; dsimp only; omega⟩
    generalize hd' : ({ d with r := c.r, o := c.o, s := c.s, wd := c.wd } : Conf) = d' at hA
    have HD := Lib.hid hd'
    have HA := Lib.hid hA
    clear hd' hA hfc hfd
    unfold Conf.val at *
    go_enter Try.func4, Try.ntmps4
    go_wp2_with (first
      | (go_at_call 8; refine (first3_calls _).mono ?_; rintro e w1 ⟨rfl, hf1⟩; have hBc1 : BoxConf w1 w.heap.size c := BoxConf.frame ((hBc0.alloc _)) hf1 (fun x => x); have hBd1 : BoxConf w1 (w.heap.size + 1) d := BoxConf.frame (by simpa using hBd0) hf1 (fun x => x); obtain ⟨⟨c0, c1, c2, c3⟩, ⟨c4, c5, c6, c7⟩, c8, c9, c10, c11⟩ := hBc1.cell; obtain ⟨⟨d0, d1, d2, d3⟩, ⟨d4, d5, d6, d7⟩, d8, d9, d10, d11⟩ := hBd1.cell)
      | (go_at_call 9; (with_reducible refine (HK.out _).mono ?_); rintro e w2 ⟨rfl, hf2⟩; have hBc2 := hBc1.frame hf2 (fun x => x); have hBd2 := hBd1.frame hf2 (fun x => x); obtain ⟨⟨c0, c1, c2, c3⟩, ⟨c4, c5, c6, c7⟩, c8, c9, c10, c11⟩ := hBc2.cell; obtain ⟨⟨d0, d1, d2, d3⟩, ⟨d4, d5, d6, d7⟩, d8, d9, d10, d11⟩ := hBd2.cell)
      | (go_at_call 9; (with_reducible refine (HKd.out _).mono ?_); rintro e w3 ⟨rfl, hf3⟩; have hBc3 := hBc2.frame hf3 (fun x => x); have hBd3 := hBd2.frame hf3 (fun x => x); obtain ⟨⟨c0, c1, c2, c3⟩, ⟨c4, c5, c6, c7⟩, c8, c9, c10, c11⟩ := hBc3.cell; obtain ⟨⟨d0, d1, d2, d3⟩, ⟨d4, d5, d6, d7⟩, d8, d9, d10, d11⟩ := hBd3.cell))
    have f0 := blk_free hBd3 0
    have f1 := blk_free hBd3 1
    have f2 := blk_free hBd3 2
    have f3 := blk_free hBd3 3
    have hfw := (((((Fr.refl (fun _ => False) w).alloc _).alloc _).trans hf1).trans hf2).trans hf3
    have HBc := Lib.hid hBc3
    have HBd := Lib.hid hBd3
    clear hBc0 hBd0 hBc1 hBd1 hBc2 hBd2 hBc3 hBd3 hf1 hf2 hf3
    have HPc := Lib.hid (path_calls c a)
    have HPd := Lib.hid (path_calls d' a)
    have HWc := Lib.hid (words_calls c)
    have HWd := Lib.hid (words_calls d')
    have HNc := Lib.hid (nodes_calls c)
    have HNd := Lib.hid (nodes_calls d')
    have HCc := Lib.hid (cells_calls c)
    have HCd := Lib.hid (cells_calls d')
    have HLc := Lib.hid (latch_calls c (c.stripeOf a))
    have HLd := Lib.hid (latch_calls d' (c.stripeOf a))
    rw [HA.out.words] at HWd
    rw [HA.out.nodes] at HNd
    rw [HA.out.cells] at HCd
    rw [HA.out.latch] at HLd
    rw [HA.out.region, HA.out.object, HA.out.stripe, HA.out.path] at HPd
    unfold Conf.val at HPc HPd HWc HWd HNc HNd HCc HCd HLc HLd
    go_region
    have hBc4 := (((((HBc.out.other (p := ⟨w.heap.size + 1, 0, none⟩) (by simp) (.int .i64 c.r)).other (p := ⟨w.heap.size + 1, 1, none⟩) (by simp) (.int .i64 c.o)).other (p := ⟨w.heap.size + 1, 2, none⟩) (by simp) (.int .i64 c.s)).other (p := ⟨w.heap.size + 1, 3, none⟩) (by simp) (.int .i64 c.wd))).drew
    have hBd4 := (HBd.out.setFour c.r c.o c.s c.wd).drew
    rw [HD.out] at hBd4
    have hfw4 := ((((hfw.setCell (p := ⟨w.heap.size + 1, 0, none⟩) (.inr (by simp)) (.int .i64 c.r)).setCell (p := ⟨w.heap.size + 1, 1, none⟩) (.inr (by simp)) (.int .i64 c.o)).setCell (p := ⟨w.heap.size + 1, 2, none⟩) (.inr (by simp)) (.int .i64 c.s)).setCell (p := ⟨w.heap.size + 1, 3, none⟩) (.inr (by simp)) (.int .i64 c.wd)).drew
    generalize (((((w3.setCell ⟨w.heap.size + 1, 0, none⟩ (.int .i64 c.r)).setCell ⟨w.heap.size + 1, 1, none⟩ (.int .i64 c.o)).setCell ⟨w.heap.size + 1, 2, none⟩ (.int .i64 c.s)).setCell ⟨w.heap.size + 1, 3, none⟩ (.int .i64 c.wd)).drew) = w4 at *
    clear c0 c1 c2 c3 c4 c5 c6 c7 c8 c9 c10 c11 d0 d1 d2 d3 d4 d5 d6 d7 d8 d9 d10 d11 f0 f1 f2 f3 HBc HBd hfw
    obtain ⟨⟨c0, c1, c2, c3⟩, ⟨c4, c5, c6, c7⟩, c8, c9, c10, c11⟩ := hBc4.cell
    obtain ⟨⟨d0, d1, d2, d3⟩, ⟨d4, d5, d6, d7⟩, d8, d9, d10, d11⟩ := hBd4.cell
    go_wp2_with (first
      | (go_at_call 15; (with_reducible refine (HPc.out _).mono ?_); rintro e w5 ⟨rfl, hf5⟩; have hBc5 : BoxConf w5 w.heap.size c := BoxConf.frame hBc4 hf5 (fun x => x); have hBd5 : BoxConf w5 (w.heap.size + 1) d' := BoxConf.frame hBd4 hf5 (fun x => x); obtain ⟨⟨c0, c1, c2, c3⟩, ⟨c4, c5, c6, c7⟩, c8, c9, c10, c11⟩ := hBc5.cell; obtain ⟨⟨d0, d1, d2, d3⟩, ⟨d4, d5, d6, d7⟩, d8, d9, d10, d11⟩ := hBd5.cell)
      | (go_at_call 15; (with_reducible refine (HPd.out _).mono ?_); rintro e w6 ⟨rfl, hf6⟩; have hBc6 : BoxConf w6 w.heap.size c := BoxConf.frame hBc5 hf6 (fun x => x); have hBd6 : BoxConf w6 (w.heap.size + 1) d' := BoxConf.frame hBd5 hf6 (fun x => x)))
    clear c0 c1 c2 c3 c4 c5 c6 c7 c8 c9 c10 c11 d0 d1 d2 d3 d4 d5 d6 d7 d8 d9 d10 d11
    go_region_held3 (fun w' => w'.cell? ⟨w.heap.size, 0, none⟩ = some (.int .i64 c.r) ∧ w'.cell? ⟨w.heap.size, 1, none⟩ = some (.int .i64 c.o) ∧ w'.cell? ⟨w.heap.size, 2, none⟩ = some (.int .i64 c.s) ∧ w'.cell? ⟨w.heap.size, 3, none⟩ = some (.int .i64 c.wd) ∧ w'.cell? ⟨w.heap.size, 4, none⟩ = some (.int .i64 c.th) ∧ w'.cell? ⟨w.heap.size, 5, none⟩ = some (.int .i64 c.sl) ∧ w'.cell? ⟨w.heap.size, 6, none⟩ = some (.int .i64 c.rg) ∧ w'.cell? ⟨w.heap.size, 7, none⟩ = some (.int .i64 c.lk) ∧ w'.cell? ⟨w.heap.size, 8, none⟩ = some (.int .i64 c.un) ∧ w'.cell? ⟨w.heap.size, 9, none⟩ = some (.int .i64 c.es) ∧ w'.cell? ⟨w.heap.size, 10, none⟩ = some (.int .i64 c.tk) ∧ w'.cell? ⟨w.heap.size, 11, none⟩ = some (.int .i64 c.po) ∧ w'.cell? ⟨(w.heap.size + 1), 0, none⟩ = some (.int .i64 d'.r) ∧ w'.cell? ⟨(w.heap.size + 1), 1, none⟩ = some (.int .i64 d'.o) ∧ w'.cell? ⟨(w.heap.size + 1), 2, none⟩ = some (.int .i64 d'.s) ∧ w'.cell? ⟨(w.heap.size + 1), 3, none⟩ = some (.int .i64 d'.wd) ∧ w'.cell? ⟨(w.heap.size + 1), 4, none⟩ = some (.int .i64 d'.th) ∧ w'.cell? ⟨(w.heap.size + 1), 5, none⟩ = some (.int .i64 d'.sl) ∧ w'.cell? ⟨(w.heap.size + 1), 6, none⟩ = some (.int .i64 d'.rg) ∧ w'.cell? ⟨(w.heap.size + 1), 7, none⟩ = some (.int .i64 d'.lk) ∧ w'.cell? ⟨(w.heap.size + 1), 8, none⟩ = some (.int .i64 d'.un) ∧ w'.cell? ⟨(w.heap.size + 1), 9, none⟩ = some (.int .i64 d'.es) ∧ w'.cell? ⟨(w.heap.size + 1), 10, none⟩ = some (.int .i64 d'.tk) ∧ w'.cell? ⟨(w.heap.size + 1), 11, none⟩ = some (.int .i64 d'.po))
      (first | exact BoxConf.all2 hBc15 hBd15 | exact BoxConf.all2 hBc14 hBd14 | exact BoxConf.all2 hBc13 hBd13 | exact BoxConf.all2 hBc12 hBd12 | exact BoxConf.all2 hBc11 hBd11 | exact BoxConf.all2 hBc10 hBd10 | exact BoxConf.all2 hBc9 hBd9 | exact BoxConf.all2 hBc8 hBd8 | exact BoxConf.all2 hBc7 hBd7 | exact BoxConf.all2 hBc6 hBd6 | go_keep)
      (first
        | (go_at_call 8; (with_reducible refine (first3_calls _).mono ?_); rintro e w7 ⟨rfl, hf7⟩; have hBc7 : BoxConf w7 w.heap.size c := BoxConf.frame (w := w6.drew) hBc6 hf7 (fun x => x); have hBd7 : BoxConf w7 (w.heap.size + 1) d' := BoxConf.frame (w := w6.drew) hBd6 hf7 (fun x => x))
        | (go_at_call 10; (with_reducible refine (HWc.out _).mono ?_); rintro e w8 ⟨rfl, hf8⟩; have hBc8 : BoxConf w8 w.heap.size c := BoxConf.frame hBc7 hf8 (fun x => x); have hBd8 : BoxConf w8 (w.heap.size + 1) d' := BoxConf.frame hBd7 hf8 (fun x => x))
        | (go_at_call 10; (with_reducible refine (HWd.out _).mono ?_); rintro e w9 ⟨rfl, hf9⟩; have hBc9 : BoxConf w9 w.heap.size c := BoxConf.frame hBc8 hf9 (fun x => x); have hBd9 : BoxConf w9 (w.heap.size + 1) d' := BoxConf.frame hBd8 hf9 (fun x => x))
        | (go_at_call 11; (with_reducible refine (HNc.out _).mono ?_); rintro e w10 ⟨rfl, hf10⟩; have hBc10 : BoxConf w10 w.heap.size c := BoxConf.frame hBc9 hf10 (fun x => x); have hBd10 : BoxConf w10 (w.heap.size + 1) d' := BoxConf.frame hBd9 hf10 (fun x => x))
        | (go_at_call 11; (with_reducible refine (HNd.out _).mono ?_); rintro e w11 ⟨rfl, hf11⟩; have hBc11 : BoxConf w11 w.heap.size c := BoxConf.frame hBc10 hf11 (fun x => x); have hBd11 : BoxConf w11 (w.heap.size + 1) d' := BoxConf.frame hBd10 hf11 (fun x => x))
        | (go_at_call 12; (with_reducible refine (HCc.out _).mono ?_); rintro e w12 ⟨rfl, hf12⟩; have hBc12 : BoxConf w12 w.heap.size c := BoxConf.frame hBc11 hf12 (fun x => x); have hBd12 : BoxConf w12 (w.heap.size + 1) d' := BoxConf.frame hBd11 hf12 (fun x => x))
        | (go_at_call 12; (with_reducible refine (HCd.out _).mono ?_); rintro e w13 ⟨rfl, hf13⟩; have hBc13 : BoxConf w13 w.heap.size c := BoxConf.frame hBc12 hf13 (fun x => x); have hBd13 : BoxConf w13 (w.heap.size + 1) d' := BoxConf.frame hBd12 hf13 (fun x => x))
        | (go_at_call 14; (with_reducible refine (HLc.out _).mono ?_); rintro e w14 ⟨rfl, hf14⟩; have hBc14 : BoxConf w14 w.heap.size c := BoxConf.frame hBc13 hf14 (fun x => x); have hBd14 : BoxConf w14 (w.heap.size + 1) d' := BoxConf.frame hBd13 hf14 (fun x => x))
        | (go_at_call 14; (with_reducible refine (HLd.out _).mono ?_); rintro e w15 ⟨rfl, hf15⟩; have hBc15 : BoxConf w15 w.heap.size c := BoxConf.frame hBc14 hf15 (fun x => x); have hBd15 : BoxConf w15 (w.heap.size + 1) d' := BoxConf.frame hBd14 hf15 (fun x => x)))
    go_wp2
    go_ret
    exact ⟨rfl, (((((((((((hfw4.trans hf5).trans hf6).drew).trans hf7).trans hf8).trans hf9).trans hf10).trans hf11).trans hf12).trans hf13).trans hf14).trans hf15⟩
  · have hno : ¬ c.Fine ∨ ¬ d.Fine := by by_cases h1 : c.Fine; (exact .inr (fun h2 => hf ⟨h1, h2⟩)); exact .inl h1
    clear hf
    unfold Conf.val at *
    rcases hno with hno | hno
    · have hk := Conf.chk_no hno
      clear hno
      go_enter Try.func4, Try.ntmps4
      go_wp2_with (first
        | (go_at_call 8; have := hBd0; clear this hBd0; refine (first3_calls _).mono ?_; rintro e w1 ⟨rfl, hf1⟩; have hBc1 : BoxConf w1 w.heap.size c := BoxConf.frame ((hBc0.alloc _)) hf1 (fun x => x); obtain ⟨⟨c0, c1, c2, c3⟩, ⟨c4, c5, c6, c7⟩, c8, c9, c10, c11⟩ := hBc1.cell)
        | (go_at_call 9; (with_reducible refine (HK.out _).mono ?_); rintro e w2 ⟨rfl, hf2⟩)
        | (go_at_call 8; refine (first3_calls _).mono ?_; rintro e w3 ⟨rfl, hf3⟩))
      go_ret
      exact ⟨rfl, (((((Fr.refl _ _).alloc _).alloc _).trans hf1).trans hf2).trans hf3⟩
    · have hkd := Conf.chk_no hno
      clear hno
      have hkc : (c.chk == 0) = true ∨ (c.chk == 0) = false := by cases (c.chk == 0) <;> simp
      rcases hkc with hkc | hkc
      all_goals
        have hkc' : (c.chk != 0) = !(c.chk == 0) := rfl
        rw [hkc] at hkc'
        clear hkc
        go_enter Try.func4, Try.ntmps4
        go_wp2_with (first
          | (go_at_call 8; refine (first3_calls _).mono ?_; rintro e w1 ⟨rfl, hf1⟩; have hBc1 : BoxConf w1 w.heap.size c := BoxConf.frame ((hBc0.alloc _)) hf1 (fun x => x); have hBd1 : BoxConf w1 (w.heap.size + 1) d := BoxConf.frame (by simpa using hBd0) hf1 (fun x => x); clear hBc0 hBd0; obtain ⟨⟨c0, c1, c2, c3⟩, ⟨c4, c5, c6, c7⟩, c8, c9, c10, c11⟩ := hBc1.cell; obtain ⟨⟨d0, d1, d2, d3⟩, ⟨d4, d5, d6, d7⟩, d8, d9, d10, d11⟩ := hBd1.cell)
          | (go_at_call 9; (with_reducible refine (HK.out _).mono ?_); rintro e w2 ⟨rfl, hf2⟩; have hBc2 := hBc1.frame hf2 (fun x => x); have hBd2 := hBd1.frame hf2 (fun x => x); obtain ⟨⟨c0, c1, c2, c3⟩, ⟨c4, c5, c6, c7⟩, c8, c9, c10, c11⟩ := hBc2.cell; obtain ⟨⟨d0, d1, d2, d3⟩, ⟨d4, d5, d6, d7⟩, d8, d9, d10, d11⟩ := hBd2.cell)
          | (go_at_call 9; (with_reducible refine (HKd.out _).mono ?_); rintro e w3 ⟨rfl, hf3⟩)
          | (go_at_call 8; refine (first3_calls _).mono ?_; rintro e w4 ⟨rfl, hf4⟩))
        go_ret
        exact ⟨rfl, by repeat (first | exact ((Fr.refl _ _).alloc _).alloc _ | assumption | refine Fr.trans ?_ (by assumption))⟩
end Go.Proofs.Ytbfhkhklhghigaa
