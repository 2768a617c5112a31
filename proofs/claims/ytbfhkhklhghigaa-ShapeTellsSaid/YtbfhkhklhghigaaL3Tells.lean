/- ltklaw3.ShapeTells answers true. -/
import Derived.Test.YtbfhkhklhghigaaL3First
import Derived.Test.YtbfhkhklhghigaaRefShape2
namespace Go.Proofs.Ytbfhkhklhghigaa
open Go.RowKit

set_option maxRecDepth 100000 in
set_option maxHeartbeats 4000000 in
set_option linter.unusedVariables false in
theorem tells_walk (cs : Array Value) (c : Conf) (a n : Int) (w : World) (hc : ConfIn cs c) (_ : (Lit.int .i64 a).wf = true) (_ : (Lit.int .i64 n).wf = true) :
    Calls Try.prog 6 #[.agg cs, .int .i64 a, .int .i64 n] w fun e w' => e = .returned (.bool true) ∧ Fr (fun _ => False) w w' := by
  unfold ConfIn at hc
  rw [hc]
  clear hc
  have hB0 := BoxConf.mk w c
  have HP := Lib.hid (path_calls c a)
  have HPr := Lib.hid (ref_path_calls c a)
  have HK := Lib.hid (check_calls c)
  have HKr := Lib.hid (ref_check_calls c)
  have HW := Lib.hid (words_calls c)
  have HWr := Lib.hid (ref_words_calls c)
  have HN := Lib.hid (nodes_calls c)
  have HNr := Lib.hid (ref_nodes_calls c)
  have HC := Lib.hid (cells_calls c)
  have HCr := Lib.hid (ref_size_calls c)
  have HL := Lib.hid (level_calls c n)
  have HLr := Lib.hid (ref_level_calls c n)
  have HQ := Lib.hid (parent_calls c n)
  have HQr := Lib.hid (ref_parent_calls c n)
  have HT := Lib.hid (latch_calls c n)
  have HTr := Lib.hid (ref_latch_calls c n)
  unfold Conf.val at *
  go_enter Try.func6, Try.ntmps6
  go_wp2_with (first
    | (go_at_call 8; have hBx := hB0; (with_reducible refine (first3_calls _).mono ?_); rintro e w1 ⟨rfl, hf1⟩; have hB1 : BoxConf w1 w.heap.size c := BoxConf.frame hBx hf1 (fun x => x); clear hBx ; obtain ⟨⟨c0, c1, c2, c3⟩, ⟨c4, c5, c6, c7⟩, c8, c9, c10, c11⟩ := hB1.cell)
    | (go_at_call 15; have hBx := hB1; (with_reducible refine (HP.out _).mono ?_); clear c0 c1 c2 c3 c4 c5 c6 c7 c8 c9 c10 c11; rintro e w2 ⟨rfl, hf2⟩; have hB2 : BoxConf w2 w.heap.size c := BoxConf.frame hBx hf2 (fun x => x); clear hBx hB1; obtain ⟨⟨c0, c1, c2, c3⟩, ⟨c4, c5, c6, c7⟩, c8, c9, c10, c11⟩ := hB2.cell)
    | (go_at_call 18; have hBx := hB2; (with_reducible refine (HPr.out _).mono ?_); clear c0 c1 c2 c3 c4 c5 c6 c7 c8 c9 c10 c11; rintro e w3 ⟨rfl, hf3⟩; have hB3 : BoxConf w3 w.heap.size c := BoxConf.frame hBx hf3 (fun x => x); clear hBx hB2; obtain ⟨⟨c0, c1, c2, c3⟩, ⟨c4, c5, c6, c7⟩, c8, c9, c10, c11⟩ := hB3.cell))
  clear c0 c1 c2 c3 c4 c5 c6 c7 c8 c9 c10 c11
  dsimp only [List.append]
  go_region_held3 (fun w' => w'.cell? ⟨w.heap.size, 0, none⟩ = some (.int .i64 c.r) ∧ w'.cell? ⟨w.heap.size, 1, none⟩ = some (.int .i64 c.o) ∧ w'.cell? ⟨w.heap.size, 2, none⟩ = some (.int .i64 c.s) ∧ w'.cell? ⟨w.heap.size, 3, none⟩ = some (.int .i64 c.wd) ∧ w'.cell? ⟨w.heap.size, 4, none⟩ = some (.int .i64 c.th) ∧ w'.cell? ⟨w.heap.size, 5, none⟩ = some (.int .i64 c.sl) ∧ w'.cell? ⟨w.heap.size, 6, none⟩ = some (.int .i64 c.rg) ∧ w'.cell? ⟨w.heap.size, 7, none⟩ = some (.int .i64 c.lk) ∧ w'.cell? ⟨w.heap.size, 8, none⟩ = some (.int .i64 c.un) ∧ w'.cell? ⟨w.heap.size, 9, none⟩ = some (.int .i64 c.es) ∧ w'.cell? ⟨w.heap.size, 10, none⟩ = some (.int .i64 c.tk) ∧ w'.cell? ⟨w.heap.size, 11, none⟩ = some (.int .i64 c.po))
    (first | exact BoxConf.all hB18 | exact BoxConf.all hB17 | exact BoxConf.all hB16 | exact BoxConf.all hB15 | exact BoxConf.all hB14 | exact BoxConf.all hB13 | exact BoxConf.all hB12 | exact BoxConf.all hB11 | exact BoxConf.all hB10 | exact BoxConf.all hB9 | exact BoxConf.all hB8 | exact BoxConf.all hB7 | exact BoxConf.all hB6 | exact BoxConf.all hB5 | exact BoxConf.all hB4 | exact BoxConf.all hB3 | go_keep)
    (first
        | (go_at_call 8; have hBx := hB3; (with_reducible refine (first3_calls _).mono ?_); rintro e w4 ⟨rfl, hf4⟩; have hB4 : BoxConf w4 w.heap.size c := BoxConf.frame (w := w3.drew) hBx hf4 (fun x => x); clear hBx hB3)
        | (go_at_call 9; have hBx := hB4; (with_reducible refine (HK.out _).mono ?_); rintro e w5 ⟨rfl, hf5⟩; have hB5 : BoxConf w5 w.heap.size c := BoxConf.frame hBx hf5 (fun x => x); clear hBx hB4)
        | (go_at_call 16; have hBx := hB5; (with_reducible refine (HKr.out _).mono ?_); rintro e w6 ⟨rfl, hf6⟩; have hB6 : BoxConf w6 w.heap.size c := BoxConf.frame hBx hf6 (fun x => x); clear hBx hB5)
        | (go_at_call 10; have hBx := hB6; (with_reducible refine (HW.out _).mono ?_); rintro e w7 ⟨rfl, hf7⟩; have hB7 : BoxConf w7 w.heap.size c := BoxConf.frame hBx hf7 (fun x => x); clear hBx hB6)
        | (go_at_call 19; have hBx := hB7; (with_reducible refine (HWr.out _).mono ?_); rintro e w8 ⟨rfl, hf8⟩; have hB8 : BoxConf w8 w.heap.size c := BoxConf.frame hBx hf8 (fun x => x); clear hBx hB7)
        | (go_at_call 11; have hBx := hB8; (with_reducible refine (HN.out _).mono ?_); rintro e w9 ⟨rfl, hf9⟩; have hB9 : BoxConf w9 w.heap.size c := BoxConf.frame hBx hf9 (fun x => x); clear hBx hB8)
        | (go_at_call 20; have hBx := hB9; (with_reducible refine (HNr.out _).mono ?_); rintro e w10 ⟨rfl, hf10⟩; have hB10 : BoxConf w10 w.heap.size c := BoxConf.frame hBx hf10 (fun x => x); clear hBx hB9)
        | (go_at_call 12; have hBx := hB10; (with_reducible refine (HC.out _).mono ?_); rintro e w11 ⟨rfl, hf11⟩; have hB11 : BoxConf w11 w.heap.size c := BoxConf.frame hBx hf11 (fun x => x); clear hBx hB10)
        | (go_at_call 21; have hBx := hB11; (with_reducible refine (HCr.out _).mono ?_); rintro e w12 ⟨rfl, hf12⟩; have hB12 : BoxConf w12 w.heap.size c := BoxConf.frame hBx hf12 (fun x => x); clear hBx hB11)
        | (go_at_call 13; have hBx := hB12; (with_reducible refine (HL.out _).mono ?_); rintro e w13 ⟨rfl, hf13⟩; have hB13 : BoxConf w13 w.heap.size c := BoxConf.frame hBx hf13 (fun x => x); clear hBx hB12)
        | (go_at_call 22; have hBx := hB13; (with_reducible refine (HLr.out _).mono ?_); rintro e w14 ⟨rfl, hf14⟩; have hB14 : BoxConf w14 w.heap.size c := BoxConf.frame hBx hf14 (fun x => x); clear hBx hB13)
        | (go_at_call 17; have hBx := hB14; (with_reducible refine (HQ.out _).mono ?_); rintro e w15 ⟨rfl, hf15⟩; have hB15 : BoxConf w15 w.heap.size c := BoxConf.frame hBx hf15 (fun x => x); clear hBx hB14)
        | (go_at_call 23; have hBx := hB15; (with_reducible refine (HQr.out _).mono ?_); rintro e w16 ⟨rfl, hf16⟩; have hB16 : BoxConf w16 w.heap.size c := BoxConf.frame hBx hf16 (fun x => x); clear hBx hB15)
        | (go_at_call 14; have hBx := hB16; (with_reducible refine (HT.out _).mono ?_); rintro e w17 ⟨rfl, hf17⟩; have hB17 : BoxConf w17 w.heap.size c := BoxConf.frame hBx hf17 (fun x => x); clear hBx hB16)
        | (go_at_call 24; have hBx := hB17; (with_reducible refine (HTr.out _).mono ?_); rintro e w18 ⟨rfl, hf18⟩; have hB18 : BoxConf w18 w.heap.size c := BoxConf.frame hBx hf18 (fun x => x); clear hBx hB17))
  go_wp2
  go_ret
  exact ⟨rfl, ((((((((((((((((((((Fr.refl _ _).alloc _).trans hf1).trans hf2).trans hf3).drew).trans hf4).trans hf5).trans hf6).trans hf7).trans hf8).trans hf9).trans hf10).trans hf11).trans hf12).trans hf13).trans hf14).trans hf15).trans hf16).trans hf17).trans hf18⟩
end Go.Proofs.Ytbfhkhklhghigaa
