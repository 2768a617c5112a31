/- The contracts of package latch, beneath a step. -/
import Derived.Test.YteopldhcmddokaaLatch0
import Derived.Deep.RegionHeld3
import Derived.Deep.DeepCutAuto
import Derived.Deep.CutBlock
namespace Go.Proofs.Yteopldhcmddokaa
open Go.RowKit

theorem iw (n : Int) : IntKind.i64.wrap n = wrap64 n := by rw [IntKind.wrap_i64, wrap64]
theorem ret_i64 {a b : Int} (h : a = b) : Ending.returned (.int .i64 a) = Ending.returned (.int .i64 b) := by rw [h]
theorem ret_bool {a b : Bool} (h : a = b) : Ending.returned (.bool a) = Ending.returned (.bool b) := by rw [h]

/-- The numbers of a latch whose thread there is. -/
structure LM.Sane (l : LM) : Prop where
  th0 : 0 ≤ l.th
  th1 : l.th ≤ 100000
  b0 : 0 ≤ l.base
  b1 : l.base ≤ 100000
  w0 : 0 ≤ l.word
  w1 : l.word ≤ 7

theorem ends_calls (b : Nat) (l : LM) (g : Bool) (w : World) (h : LatchAt w b l) :
    Calls Try.prog 38 #[.pointer (some ⟨b, 0, none⟩), .bool g] w fun e w' => e = .returned (.tuple #[]) ∧ LatchAt w' b (l.ends g) ∧ Fr (lone1 b) w w' := by
  have HH := Lib.hid h
  have f1 := h.free 14
  have f2 := h.free 21
  obtain ⟨-, -, -, c3, c4, c5, c6, c7, c8, c9, c10, -⟩ := h.cell
  clear h
  go_enter Try.func38, Try.ntmps38
  go_wp2
  go_end0
  exact ⟨rfl, (HH.out.setAt 6).setGot g, (fr_set _ _ _ _).trans (fr_set _ _ _ _)⟩

set_option maxRecDepth 100000 in
theorem place_calls (b : Nat) (l : LM) (w : World) (h : LatchAt w b l) (hs : l.Sane) :
    Calls Try.prog 66 #[.pointer (some ⟨b, 0, none⟩)] w fun e w' => e = .returned (.tuple #[.int .i64 l.w8, .int .i64 l.k8, .bool l.slotted]) ∧ ∃ q, w' = w.drewN q := by
  obtain ⟨⟨c0, c1⟩, c2, c3, -⟩ := h.cell
  have hth0 := hs.th0
  have hth1 := hs.th1
  have e1 : l.th.tdiv 8 = l.th / 8 := Int.tdiv_eq_ediv_of_nonneg hth0
  have e2 : l.th.tmod 8 = l.th % 8 := Int.tmod_eq_emod_of_nonneg hth0
  have HW := Lib.hid (show wrap64 (1 + wrap64 (l.th.tdiv 8)) = l.w8 from by rw [e1]; unfold LM.w8 wrap64; omega)
  have HK := Lib.hid (show l.th.tmod 8 = l.k8 from by rw [e2]; rfl)
  clear e1 e2 h hs
  go_enter Try.func66, Try.ntmps66
  go_wp2
  go_quiet (fail)
  go_wp2
  go_ret3
  exact ⟨rfl, nq, rfl⟩

theorem LM.Sane.w8 {l : LM} (h : l.Sane) : 1 ≤ l.w8 ∧ l.w8 ≤ 20000 := by have := h.th0; have := h.th1; unfold LM.w8; omega
theorem LM.Sane.k8 {l : LM} (h : l.Sane) : 0 ≤ l.k8 ∧ l.k8 < 8 := by unfold LM.k8; omega

set_option maxRecDepth 100000 in
theorem reads_calls (b p ab : Nat) (l : LM) (s : CM) (n : Int) (hn : n = 1 ∨ n = -1) (w : World) (h : LC w b p ab l s) (hs : l.Sane) :
    Calls Try.prog 52 #[.pointer (some ⟨b, 0, none⟩), .pointer (some ⟨p, 0, none⟩), .int .i64 n] w fun e w' => e = .returned (.int .i64 (l.readsE s n)) ∧ LC w' b p ab l (l.readsS s n) ∧ Fr (two p ab) w w' := by
  have HP := Lib.hid (place_calls b l w h.l hs)
  have HH := Lib.hid h
  obtain ⟨-, -, -, -, -, -, -, c7, -⟩ := h.l.cell
  have w1 := hs.w8
  have k1 := hs.k8
  have b0 := hs.b0
  have b1 := hs.b1
  have hst := h.s
  clear h hs
  by_cases hsl : l.slotted = true
  · have HE := Lib.hid (show ∀ n, l.readsE s n = s.errS (l.base + l.w8) l.k8 (up n) from fun n => by unfold LM.readsE; rw [hsl]; rfl)
    have HS := Lib.hid (show ∀ n, l.readsS s n = s.storeB (l.base + l.w8) l.k8 (up n) from fun n => by unfold LM.readsS; rw [hsl]; rfl)
    rcases hn with rfl | rfl
    · go_enter Try.func52, Try.ntmps52
      go_wp2_with (first
        | (go_at_call 66; (with_reducible refine HP.out.mono ?_); rintro e w1 ⟨rfl, q, rfl⟩; have hc := (HH.out.drewN q).s)
        | (go_at_call 67; (with_reducible refine (storeByte_calls p ab s (l.base + l.w8) l.k8 1 _ hc).mono ?_); rintro e w2 ⟨rfl, hc2, hf2⟩))
      go_ret
      exact ⟨by rw [HE.out]; rfl, by rw [HS.out]; exact (HH.out.drewN q).access hc2 hf2, ((Fr.refl _ _).drewN q).trans hf2⟩
    · go_enter Try.func52, Try.ntmps52
      go_wp2_with (first
        | (go_at_call 66; (with_reducible refine HP.out.mono ?_); rintro e w1 ⟨rfl, q, rfl⟩; have hc := (HH.out.drewN q).s)
        | (go_at_call 67; (with_reducible refine (storeByte_calls p ab s (l.base + l.w8) l.k8 0 _ hc).mono ?_); rintro e w2 ⟨rfl, hc2, hf2⟩))
      go_ret
      exact ⟨by rw [HE.out]; rfl, by rw [HS.out]; exact (HH.out.drewN q).access hc2 hf2, ((Fr.refl _ _).drewN q).trans hf2⟩
  · replace hsl : l.slotted = false := by simpa using hsl
    have HE := Lib.hid (show l.readsE s n = s.err (l.base + 7) from by unfold LM.readsE; rw [hsl]; rfl)
    have HS := Lib.hid (show l.readsS s n = s.add (l.base + 7) n from by unfold LM.readsS; rw [hsl]; rfl)
    clear hn
    go_enter Try.func52, Try.ntmps52
    go_wp2_with (first
      | (go_at_call 66; (with_reducible refine HP.out.mono ?_); rintro e w1 ⟨rfl, q, rfl⟩; have hc := (HH.out.drewN q).s)
      | (go_at_call 68; (with_reducible refine (add_calls p ab s (l.base + 7) n _ hc).mono ?_); rintro e w2 ⟨rfl, hc2, hf2⟩))
    go_ret
    exact ⟨by rw [HE.out]; rfl, by rw [HS.out]; exact (HH.out.drewN q).access hc2 hf2, ((Fr.refl _ _).drewN q).trans hf2⟩

set_option maxRecDepth 100000 in
theorem others_calls (b : Nat) (l : LM) (n : Int) (w : World) (h : LatchAt w b l) (hs : l.Sane) :
    Calls Try.prog 70 #[.pointer (some ⟨b, 0, none⟩), .int .i64 n] w fun e w' => e = .returned (.int .i64 (l.others n)) ∧ ∃ q, w' = w.drewN q := by
  have HP := Lib.hid (place_calls b l w h hs)
  have HH := Lib.hid h
  obtain ⟨-, -, -, -, -, c5, c6, -⟩ := h.cell
  obtain ⟨k0, k1⟩ := hs.k8
  have HK8 : Hid (l.others n = if l.rd && l.slotted && l.w8 == l.word then bits .andNot .i64 n (wrap64 (255 * 2 ^ (8 * l.k8).toNat)) else if l.rd && !l.slotted && l.word == 7 then wrap64 (n - 1) else n) := rfl
  clear h hs
  have hcs : l.rd = false ∨ (l.rd = true ∧ l.slotted = true ∧ (l.w8 == l.word) = true) ∨ (l.rd = true ∧ l.slotted = true ∧ (l.w8 == l.word) = false) ∨ (l.rd = true ∧ l.slotted = false ∧ (l.word == 7) = true) ∨ (l.rd = true ∧ l.slotted = false ∧ (l.word == 7) = false) := by
    cases l.rd <;> cases l.slotted <;> cases (l.w8 == l.word) <;> cases (l.word == 7) <;> simp
  rcases hcs with h1 | ⟨h1, h2, h3⟩ | ⟨h1, h2, h3⟩ | ⟨h1, h2, h3⟩ | ⟨h1, h2, h3⟩
  all_goals
    go_enter Try.func70, Try.ntmps70
    go_wp2_with (first
      | (go_at_call 66; (with_reducible refine HP.out.mono ?_); rintro e w1 ⟨rfl, q, rfl⟩))
    go_ret
    exact ⟨by rw [HK8.out]; simp only [h1]; first | rfl | (simp only [h2, h3]; rfl), q, rfl⟩
end Go.Proofs.Yteopldhcmddokaa
