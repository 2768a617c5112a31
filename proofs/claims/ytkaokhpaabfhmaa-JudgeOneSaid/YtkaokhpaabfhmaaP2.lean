/- prog.Check, prog.Addr. -/
import Derived.Test.YtkaokhpaabfhmaaP1
import Derived.Deep.RegionHeld3
namespace Go.Proofs.Ytkaokhpaabfhmaa
open Go.RowKit

def chkV (c : Conf) (p : List Ins) : Int := if progOk c p then 0 else 2
/-- Lists short enough. -/
def Short (p : List Ins) : Prop := ∀ x ∈ p, x.l.length ≤ 20000
theorem Short.at_ {p : List Ins} (h : Short p) (i : Nat) (hi : i < p.length) : (p.getD i default).l.length ≤ 20000 := by
  rw [List.getD_eq_getElem?_getD, List.getElem?_eq_getElem hi]; exact h _ (List.getElem_mem hi)
theorem alloc_conf' (w : World) (c : Conf) (b : Nat) (h : BoxConf w b c) (o : Obj) : BoxConf (w.alloc o) b c := h.frame ((Fr.refl (fun _ => False) w).alloc o) (fun x => x)

set_option maxRecDepth 100000 in
set_option maxHeartbeats 2000000 in
theorem progCheck_calls (c : Conf) (A : Option Addr) (n cap : Nat) (p : List Ins) (F : Nat → Prop) (w : World) (h : ProgAt w F A n cap p) (hs : Short p) :
    Calls Try.prog 41 #[c.val, .slice A n cap] w fun e w' => e = .returned (.int .i64 (chkV c p)) ∧ Fr (fun _ => False) w w' := by
  obtain ⟨r, hr⟩ : ∃ r, r = chkV c p := ⟨_, rfl⟩
  rw [← hr]
  unfold chkV at hr
  have HR := Lib.hid hr
  have HC := Lib.hid (check_calls c)
  have HS := Lib.hid hs
  have HB := Lib.hid (BoxConf.mk w c)
  obtain ⟨cs, hcs, hrow⟩ := h.ex
  have HCS := Lib.hid hcs
  have HROW := Lib.hid hrow
  have HLEN := Lib.hid h.len
  have hcap := h.cap
  clear hr hs h hcs hrow
  by_cases hf : c.Fine
  · have hck : c.chk = 0 := Conf.chk_yes hf
    rw [hck] at HC
    have HFINE := Lib.hid hf
    clear hck hf
    unfold Conf.val at *
    by_cases hn : 60 < n
    · have hd : decide ((60 : Int) < n) = true := by simp; omega
      have HX := Lib.hid (show progOk c p = false by
        have := HLEN.out
        unfold progOk; simp; omega)
      go_enter Try.func41, Try.ntmps41
      go_wp2_with (go_at_call 56; (with_reducible refine (HC.out _).mono ?_); rintro ex w1 ⟨rfl, hf1⟩)
      go_ret
      exact ⟨by rw [HR.out, HX.out]; rfl, ((Fr.refl _ _).alloc _).trans hf1⟩
    · have hd : decide ((60 : Int) < n) = false := by simp; omega
      go_enter Try.func41, Try.ntmps41
      go_wp2_with (go_at_call 56; (with_reducible refine (HC.out _).mono ?_); rintro ex w1 ⟨rfl, hf1⟩; have HBX := Lib.hid (HB.out.frame hf1 (fun x => x)); have HF1 := Lib.hid (((Fr.refl _ w).alloc _).trans hf1); clear hf1)
      go_loopw [5, 17] (fun _ v17 wr => ∃ j : Nat, j ≤ n ∧ v17 = .int .i64 j ∧ (∀ i, i < j → mayB c (p.getD i default) i n = true) ∧ BoxConf wr w.heap.size c ∧ Fr (fun _ => False) w wr) (fun _ v17 _ => n - (intOf v17).toNat)
      case atStart => exact ⟨0, Nat.zero_le _, rfl, fun i hi => absurd hi (Nat.not_lt_zero _), HBX.out, HF1.out⟩
      case round =>
        obtain ⟨j, hj, rfl, hb, hbx, hf⟩ := hrel
        have HBJ := Lib.hid hb
        have HBX2 := Lib.hid hbx
        have HF := Lib.hid hf
        clear hb hbx hf
        by_cases hlt : j < n
        · obtain ⟨ad, rfl, _, h1⟩ := HCS.out (by omega)
          obtain ⟨A1, n1, k1, hrw, _, hfl⟩ := HROW.out j hlt
          obtain ⟨q0, q1, q2, q3, q4⟩ := ins_cells (fun t u ht => HF.out.cell (h1 t u ht) (fun x => x)) hrw
          have hsl := HS.out.at_ j (by rw [HLEN.out]; exact hlt)
          have hln := hfl.len
          have HM := fun w' (hw' : Fr (fun _ => False) w w') => may_calls c (p.getD j default) A1 n1 k1 F j n w' (hfl.frame hw' (fun _ _ x => x.elim)) (by omega)
          generalize hx : p.getD j default = x at *
          have HX := Lib.hid hx
          have HF2 := Lib.hid (HF.out.alloc (.cells #[.int .i64 x.k, .int .i64 x.a, .int .i64 x.b, .int .i64 x.c, .slice A1 n1 k1] 67))
          unfold Conf.val at HM
          obtain ⟨c0, c1, c2, c3, c4, c5, c6, c7, c8, c9, c10, c11⟩ := (alloc_conf' _ _ _ HBX2.out (.cells #[.int .i64 x.k, .int .i64 x.a, .int .i64 x.b, .int .i64 x.c, .slice A1 n1 k1] 67)).all
          clear h1 hrw hfl hsl hln hx
          cases hm : mayB c x j n with
          | true =>
            rw [hm] at HM
            have HMM := Lib.hid HM
            have HQ := Lib.hid hm
            clear HM hm
            go_wp2_with (go_at_call 57; (with_reducible refine (HMM.out _ HF2.out).mono ?_); rintro ex w2 ⟨rfl, hf2⟩)
            go_roundw
            case rel => exact ⟨j + 1, by omega, by go_num, fun i hi => by
              by_cases hij : i < j
              · exact HBJ.out i hij
              · obtain rfl : i = j := by omega
                rw [HX.out]; exact HQ.out, (alloc_conf' _ _ _ HBX2.out _).frame hf2 (fun x => x), HF2.out.trans hf2⟩
            case measure => simp [intOf]; omega
          | false =>
            rw [hm] at HM
            have HMM := Lib.hid HM
            have HQ := Lib.hid (show progOk c p = false by
              cases hp : progOk c p with
              | false => rfl
              | true =>
                have := (progOk_iff.1 hp).2.2 j (by rw [HLEN.out]; exact hlt)
                rw [HX.out, HLEN.out, hm] at this
                cases this)
            clear HM hm
            go_wp2_with (go_at_call 57; (with_reducible refine (HMM.out _ HF2.out).mono ?_); rintro ex w2 ⟨rfl, hf2⟩)
            go_ret
            exact ⟨by rw [HR.out, HQ.out]; rfl, HF2.out.trans hf2⟩
        · obtain rfl : j = n := by omega
          have HQ := Lib.hid (show progOk c p = true from progOk_iff.2 ⟨HFINE.out, by rw [HLEN.out]; omega, by rw [HLEN.out]; exact HBJ.out⟩)
          go_wp2
          go_ret
          exact ⟨by rw [HR.out, HQ.out]; rfl, HF.out⟩
  · have hck : c.chk = 1 := Conf.chk_no hf
    rw [hck] at HC
    have HX := Lib.hid (show progOk c p = false by unfold progOk; simp [hf])
    clear hck hf
    unfold Conf.val at *
    go_enter Try.func41, Try.ntmps41
    go_wp2_with (go_at_call 56; (with_reducible refine (HC.out _).mono ?_); rintro ex w1 ⟨rfl, hf1⟩)
    go_ret
    exact ⟨by rw [HR.out, HX.out]; rfl, ((Fr.refl _ _).alloc _).trans hf1⟩
end Go.Proofs.Ytkaokhpaabfhmaa
