/- ltkref.Copy; ltklaw7.PlainOwn answers true. -/
import Derived.Test.YtfbdfboekgjbcaaPC
import Derived.Test.YtfbdfboekgjbcaaPE
namespace Go.Proofs.Ytfbdfboekgjbcaa
open Go.RowKit

set_option maxRecDepth 100000 in
theorem copyOwn_calls (ad : Addr) (n c : Nat) (xs : List Int) (F : Nat → Prop) (w : World) (hx : Flat w F (some ad) n xs) (hn : n ≤ 20000) (h0 : 0 < n) :
    Calls Try.prog 13 #[.slice (some ad) n c] w fun e w' => ∃ hb hc, e = .returned (.slice (some ⟨hb, 0, none⟩) n hc) ∧ w'.ownsRow w.heap.size 3 1 (.slice (some ⟨hb, 0, none⟩) n hc) n (xs.map (Value.int .i64)) ∧ Fr (fun _ => False) w w' := by
  have hc := Lib.hid (show ∀ j u, (xs.map (Value.int .i64))[j]? = some u → w.cell? (ad.add j) = some u by
    obtain ⟨ad', h1, _, h2⟩ := hx.at_ (by omega)
    cases h1
    exact cells_ints hx.len h2)
  obtain ⟨i0, hi, hz0, hz1, hz2⟩ := info_parts infoInt
  have hl := Lib.hid hx.len
  clear hx
  go_enter Try.func13, Try.ntmps13
  go_wp2_with (at_builtin; refine wpList_append_own _ rfl _ _ 24 rfl w.heap.size 3 i0 (.int .i64 0) 1 8 Try.underlying24 hi hz0 hz1 hz2 rfl (by decide) _ _ _ rfl (World.ownsRow_made w #[] 0 (Nat.le_refl _) (Nat.zero_le _) (by simp)) ad n c (xs.map (Value.int .i64)) rfl ?qc1 ?qc2 ?qc3 ?qc4 ?qc5 ?qc6 ?_)
  case qc1 => rw [List.length_map, hl.out, Nat.mul_one]
  case qc2 => exact fun j u hj => ((Fr.refl (fun _ => False) w).alloc _).cell (hc.out j u hj) (fun x => x)
  case qc3 => exact one_ints xs
  case qc4 => unfold maxLen; omega
  case qc5 => omega
  case qc6 => simp
  intro v' w1 hown hgrow hnil
  go_wp2
  go_ret
  have ho : w1.ownsRow w.heap.size 3 1 v' n (xs.map (Value.int .i64)) := by simpa using hown
  have hf : Fr (fun _ => False) w w1 := ((Fr.refl _ w).alloc _).grown hgrow (fun k hk => .inr (by simp [Value.ownBlock] at hk; omega))
  rcases id ho.2 with ⟨rfl, h00⟩ | ⟨g, cap, cur, rfl, _⟩
  · omega
  · exact ⟨g, cap, rfl, ho, hf⟩

set_option maxRecDepth 100000 in
set_option maxHeartbeats 1000000 in
theorem own_many (c : Conf) (H : Option Addr) (hn hcap : Nat) (A : Option Addr) (n cap : Nat) (p : List Ins) (w : World) (h : ProgAt w (fun _ => True) A n cap p) (hb : fewP p = false ∨ (fewP p = true ∧ 5000 < hn)) :
    Calls Try.prog 3 #[c.val, .slice H hn hcap, .slice A n cap] w fun e w' => e = .returned (.bool true) ∧ Fr (fun _ => False) w w' := by
  have HF := Lib.hid (fun w' (hf : Fr (fun _ => False) w w') => few6_calls A n cap p _ w' (h.frame hf (fun _ _ x => x.elim)))
  rcases hb with hb | ⟨hb, hg⟩
  all_goals
    rw [hb] at HF
    clear h hb
    unfold Conf.val
    have hk := (Fr.refl (fun _ => False) w).alloc (.cells #[.int .i64 c.r, .int .i64 c.o, .int .i64 c.s, .int .i64 c.wd, .int .i64 c.th, .int .i64 c.sl, .int .i64 c.rg, .int .i64 c.lk, .int .i64 c.un, .int .i64 c.es, .int .i64 c.tk, .int .i64 c.po] 23)
    go_enter Try.func3, Try.ntmps3
    go_wp2_with (first
      | (go_at_call 10
         (with_reducible refine (HF.out _ hk).mono ?_)
         rintro ex w2 ⟨rfl, hf2⟩
         replace hk := hk.trans hf2)
      | (go_at_call 9
         (with_reducible refine (first7_calls _).mono ?_)
         rintro ex w1 ⟨rfl, hf1⟩
         replace hk := hk.trans hf1
         clear hf1))
    go_ret
    exact ⟨rfl, hk⟩

set_option maxRecDepth 100000 in
set_option maxHeartbeats 2000000 in
theorem own_not (c : Conf) (H : Option Addr) (hn hcap : Nat) (heap : List Int) (A : Option Addr) (n cap : Nat) (p : List Ins) (w : World) (hI : IntsW w H hn heap) (h : ProgAt w (fun _ => True) A n cap p) (hb : fewP p = true) (hs : hn ≤ 5000) (hr : ¬ (progOk c p = true ∧ (heap.length : Int) = c.words)) :
    Calls Try.prog 3 #[c.val, .slice H hn hcap, .slice A n cap] w fun e w' => e = .returned (.bool true) ∧ Fr (fun _ => False) w w' := by
  have HF := Lib.hid (fun w' (hf : Fr (fun _ => False) w w') => few6_calls A n cap p _ w' (h.frame hf (fun _ _ x => x.elim)))
  rw [hb] at HF
  have hRUN := fun w' (hf : Fr (fun _ => False) w w') => run_calls c H hn hcap heap A n cap p _ _ w' (h.frame hf (fun _ _ x => x.elim)) (fewP_short hb) (hI.flat.frame hf (fun _ _ x => x.elim)) hI.i64
  obtain ⟨e1, e2, e3⟩ := runs_not hr
  rw [e1, e2] at hRUN
  have hE : (resE c heap p != 0) = true := by
    rw [e3]; split <;> rfl
  generalize resE c heap p = E at *
  have HBX := Lib.hid (box_all w c)
  unfold Conf.val at *
  have HRUN := Lib.hid hRUN
  clear hRUN h hb hI e1 e2 e3 hr
  have hk := (Fr.refl (fun _ => False) w).alloc (.cells #[.int .i64 c.r, .int .i64 c.o, .int .i64 c.s, .int .i64 c.wd, .int .i64 c.th, .int .i64 c.sl, .int .i64 c.rg, .int .i64 c.lk, .int .i64 c.un, .int .i64 c.es, .int .i64 c.tk, .int .i64 c.po] 23)
  have hbk := Fr.refl (fun _ => False) (w.alloc (.cells #[.int .i64 c.r, .int .i64 c.o, .int .i64 c.s, .int .i64 c.wd, .int .i64 c.th, .int .i64 c.sl, .int .i64 c.rg, .int .i64 c.lk, .int .i64 c.un, .int .i64 c.es, .int .i64 c.tk, .int .i64 c.po] 23))
  have hg : ¬ 5000 < hn := by omega
  go_enter Try.func3, Try.ntmps3
  go_wp2_with (first
    | (go_at_call 9
       (with_reducible refine (first7_calls _).mono ?_)
       rintro ex w1 ⟨rfl, hf1⟩
       replace hk := hk.trans hf1
       replace hbk := hbk.trans hf1
       clear hf1)
    | (go_at_call 10
       (with_reducible refine (HF.out _ hk).mono ?_)
       rintro ex w2 ⟨rfl, hf2⟩
       replace hk := hk.trans hf2
       replace hbk := hbk.trans hf2
       clear hf2
       obtain ⟨c0, c1, c2, c3, c4, c5, c6, c7, c8, c9, c10, c11⟩ := HBX.out _ hbk)
    | (go_at_call 11
       (with_reducible refine (HRUN.out _ hk).mono ?_)
       rintro ex w3 ⟨A1, n1, k1, A2, n2, k2, A3, n3, k3, A4, n4, k4, rfl, ho, hf3⟩
       replace hk := (hk.trans hf3).alloc (.cells #[.int .i64 0, .slice A1 n1 k1, .slice A2 n2 k2, .slice A3 n3 k3] 30)
       replace hbk := (hbk.trans hf3).alloc (.cells #[.int .i64 0, .slice A1 n1 k1, .slice A2 n2 k2, .slice A3 n3 k3] 30)
       clear hf3
       have hn4 : n4 = 0 := ho.h.len.symm
       clear c0 c1 c2 c3 c4 c5 c6 c7 c8 c9 c10 c11))
  go_ret
  exact ⟨by simp_all, hk⟩
/-- Does the loop find that it was written? -/
def okB (b : Bool) (a v : Int) (ws : List Int) : Nat → Bool
  | 0 => b
  | k + 1 => okB b a v ws k || (ws.getD (k * 2) 0 == a && ws.getD (k * 2 + 1) 0 == v)
theorem okB_first {a v : Int} {ws : List Int} : ∀ k, okB true a v ws k = true
  | 0 => rfl
  | k + 1 => by unfold okB; rw [okB_first k]; rfl
theorem okB_wrote {b : Bool} {a v : Int} {ws : List Int} {k : Nat} (h1 : ws.getD (k * 2) 0 = a) (h2 : ws.getD (k * 2 + 1) 0 = v) : ∀ m, k < m → okB b a v ws m = true
  | 0, h => absurd h (Nat.not_lt_zero _)
  | m + 1, h => by
    unfold okB
    by_cases hk : k = m
    · subst hk; rw [h1, h2]; simp
    · rw [okB_wrote h1 h2 m (by omega)]; rfl
theorem Own7.okB {heap : List Int} {s : PS} (h : Own7 heap s) {i : Nat} (hi : i < s.rs.length / 2) {a v : Int} (ha : s.rs.getD (i * 2) 0 = a) (hv : s.rs.getD (i * 2 + 1) 0 = v) : okB (v == heap.getD a.toNat 0) a v s.ws (s.ws.length / 2) = true := by
  obtain ⟨_, _, h1⟩ := h.ra i hi
  rw [show 2 * i = i * 2 by omega, ha, hv] at h1
  rcases h1 with h1 | ⟨k, hk, h2, h3⟩
  · rw [show (v == heap.getD a.toNat 0) = true by simpa using h1]
    exact okB_first _
  · exact okB_wrote (by rw [show k * 2 = 2 * k by omega]; exact h2) (by rw [show k * 2 = 2 * k by omega]; exact h3) _ hk

set_option maxRecDepth 100000 in
set_option maxHeartbeats 8000000 in
theorem own_few (c : Conf) (H : Option Addr) (hn hcap : Nat) (heap : List Int) (A : Option Addr) (n cap : Nat) (p : List Ins) (w : World) (hI : IntsW w H hn heap) (h : ProgAt w (fun _ => True) A n cap p) (hb : fewP p = true) (hs : hn ≤ 5000) (hr : progOk c p = true) (hwd : (heap.length : Int) = c.words) :
    Calls Try.prog 3 #[c.val, .slice H hn hcap, .slice A n cap] w fun e w' => e = .returned (.bool true) ∧ Fr (fun _ => False) w w' := by
  have HF := Lib.hid (fun w' (hf : Fr (fun _ => False) w w') => few6_calls A n cap p _ w' (h.frame hf (fun _ _ x => x.elim)))
  rw [hb] at HF
  have hwp := words_pos (progOk_iff.1 hr).1
  have hlh := hI.flat.len
  obtain ⟨had, rfl, _, hcells⟩ := hI.flat.at_ (by omega)
  obtain ⟨l1, l2, l3, l4⟩ := res_small c heap p (by omega)
  have hRUN := fun w' (hf : Fr (fun _ => False) w w') => run_calls c (some had) hn hcap heap A n cap p _ _ w' (h.frame hf (fun _ _ x => x.elim)) (fewP_short hb) (hI.flat.frame hf (fun _ _ x => x.elim)) hI.i64
  obtain ⟨e1, e2, e3⟩ := runs_full hr hwd
  rw [e1] at l1 l2 l3
  rw [e2] at l4
  rw [e1, e2, e3] at hRUN
  have HOW := Lib.hid (Own7.full hr hwd)
  have HAF := Lib.hid (show (fullP c heap p).after heap = if (fullP c heap p).e = 1 then (fullP c heap p).heap else heap from rfl)
  generalize hS : fullP c heap p = S at *
  generalize hR : S.after heap = R at *
  have HIN := Lib.hid (fun w' (hf : Fr (fun _ => False) w w') => hI.flat.frame hf (fun _ _ x => x.elim))
  have HCO := Lib.hid (fun w' (hf : Fr (fun _ => False) w w') => copyOwn_calls had hn hcap heap _ w' (hI.flat.frame hf (fun _ _ x => x.elim)) (by omega) (by omega))
  have HCE := Lib.hid (fun w' (hf : Fr (fun _ => False) w w') (t : Nat) (ht : t < hn) => hf.cell (hcells t ht) (fun x => x))
  have HBX := Lib.hid (box_all w c)
  have HW := Lib.hid (words_calls c)
  have hd : ((hn : Int) != c.words) = false := by simp; omega
  unfold Conf.val at *
  have HRUN := Lib.hid hRUN
  have HL := Lib.hid hlh
  have L2 := Lib.hid l2
  have L3 := Lib.hid l3
  have L4 := Lib.hid l4
  have hn0 : 0 < hn := by omega
  have HRL := Lib.hid (show R.length = hn by
    rw [HAF.out]
    split
    · rw [HOW.out.len]; exact hlh
    · exact hlh)
  clear hRUN h hb hI e1 e2 e3 hr hS hR hcells l1 l2 l3 l4 hwd hwp hlh
  have hk := (Fr.refl (fun _ => False) w).alloc (.cells #[.int .i64 c.r, .int .i64 c.o, .int .i64 c.s, .int .i64 c.wd, .int .i64 c.th, .int .i64 c.sl, .int .i64 c.rg, .int .i64 c.lk, .int .i64 c.un, .int .i64 c.es, .int .i64 c.tk, .int .i64 c.po] 23)
  have hbk := Fr.refl (fun _ => False) (w.alloc (.cells #[.int .i64 c.r, .int .i64 c.o, .int .i64 c.s, .int .i64 c.wd, .int .i64 c.th, .int .i64 c.sl, .int .i64 c.rg, .int .i64 c.lk, .int .i64 c.un, .int .i64 c.es, .int .i64 c.tk, .int .i64 c.po] 23))
  have hg : ¬ 5000 < hn := by omega
  go_enter Try.func3, Try.ntmps3
  go_wp2_with (first
    | (go_at_call 9
       (with_reducible refine (first7_calls _).mono ?_)
       rintro ex w1 ⟨rfl, hf1⟩
       replace hk := hk.trans hf1
       replace hbk := hbk.trans hf1
       clear hf1)
    | (go_at_call 10
       (with_reducible refine (HF.out _ hk).mono ?_)
       rintro ex w2 ⟨rfl, hf2⟩
       replace hk := hk.trans hf2
       replace hbk := hbk.trans hf2
       clear hf2
       obtain ⟨c0, c1, c2, c3, c4, c5, c6, c7, c8, c9, c10, c11⟩ := HBX.out _ hbk)
    | (go_at_call 11
       (with_reducible refine (HRUN.out _ hk).mono ?_)
       rintro ex w3 ⟨A1, n1, k1, A2, n2, k2, A3, n3, k3, A4, n4, k4, rfl, ho, hf3⟩
       have hn4 : hn = n4 := by have := ho.h.len; have := HRL.out; omega
       subst hn4
       replace hk := (hk.trans hf3).alloc (.cells #[.int .i64 S.e, .slice A1 n1 k1, .slice A2 n2 k2, .slice A3 n3 k3] 30)
       replace hbk := (hbk.trans hf3).alloc (.cells #[.int .i64 S.e, .slice A1 n1 k1, .slice A2 n2 k2, .slice A3 n3 k3] 30)
       clear hf3
       have HO1 := Lib.hid (heap_alloc_new w3 (.cells #[.int .i64 S.e, .slice A1 n1 k1, .slice A2 n2 k2, .slice A3 n3 k3] 30))
       have HR1 := Lib.hid (ho.frame ((Fr.refl (fun _ => False) w3).alloc (.cells #[.int .i64 S.e, .slice A1 n1 k1, .slice A2 n2 k2, .slice A3 n3 k3] 30)) (fun _ _ x => x.elim))
       have hwk := Fr.refl (fun _ => False) (w3.alloc (.cells #[.int .i64 S.e, .slice A1 n1 k1, .slice A2 n2 k2, .slice A3 n3 k3] 30))
       have HKO := Lib.hid hk
       clear c0 c1 c2 c3 c4 c5 c6 c7 c8 c9 c10 c11 ho
       obtain ⟨c0, c1, c2, c3, c4, c5, c6, c7, c8, c9, c10, c11⟩ := HBX.out _ hbk)
    | (go_at_call 12
       (with_reducible refine (HW.out _).mono ?_)
       rintro ex w4 ⟨rfl, hf4⟩
       replace hk := hk.trans hf4
       replace hwk := hwk.trans hf4
       clear hf4 c0 c1 c2 c3 c4 c5 c6 c7 c8 c9 c10 c11)
    | (go_at_call 13
       (with_reducible refine (HCO.out _ hk).mono ?_)
       rintro ex w5 ⟨g, cg, rfl, hog, hf5⟩
       have hgb := hog.lt g rfl
       replace hk := hk.trans hf5
       have HWK := Lib.hid hwk
       have HHF := Lib.hid hf5
       have HOG := Lib.hid hog
       clear hwk hf5 hog))
  clear hk
  have hbk3 := blk_lt HO1.out
  generalize hwo : w3.alloc (.cells #[.int .i64 S.e, .slice A1 n1 k1, .slice A2 n2 k2, .slice A3 n3 k3] 30) = wo at *
  have hsz1 := HWK.out.size
  have hsz0 := HKO.out.size
  generalize hbs : wo.heap.size = bs at *
  have HBS := Lib.hid hbs
  clear hbs hwo
  have HN3 := Lib.hid HR1.out.w_.len
  have HN2 := Lib.hid HR1.out.r.len
  have HBASE := Lib.hid (show Fr (fun k => bs ≤ k) wo w5 from (HWK.out.trans HHF.out).mono (fun _ x => x.elim))
  have HOC := Lib.hid (fun w' (hf : Fr (fun k => bs ≤ k) wo w') => out_box (hf.heap HO1.out (fun x => by omega)) rfl)
  have HWS := Lib.hid (fun w' (hf : Fr (fun k => bs ≤ k) wo w') => HR1.out.w_.frame hf (fun k _ x => by rw [HBS.out]; exact x))
  have HRS := Lib.hid (fun w' (hf : Fr (fun k => bs ≤ k) wo w') => HR1.out.r.frame hf (fun k _ x => by rw [HBS.out]; exact x))
  have HHS := Lib.hid (fun w' (hf : Fr (fun k => bs ≤ k) wo w') => HR1.out.h.frame hf (fun k _ x => by rw [HBS.out]; exact x))
  have HKW := Lib.hid (fun w' (hf : Fr (fun k => bs ≤ k) wo w') => show Fr (fun _ => False) w w' from HKO.out.trans' hf (fun k x y => by omega))
  have HG := Lib.hid (show bs ≤ g by omega)
  have hm3 : n3 ≤ 20000 := by have := HN3.out; have := L3.out; omega
  have hm2 : n2 ≤ 20000 := by have := HN2.out; have := L2.out; omega
  clear hsz0 hgb hbk3
  go_loopw [11] (fun v11 wr => ∃ i : Nat, i ≤ n3 ∧ v11 = .int .i64 i ∧ wr.ownsRow bs 3 1 (.slice (some ⟨g, 0, none⟩) hn cg) hn ((putW heap S.ws i).map (Value.int .i64)) ∧ Fr (fun k => bs ≤ k) wo wr) (fun v11 _ => n3 - (intOf v11).toNat)
  case atStart => exact ⟨0, Nat.zero_le _, rfl, ownsRow_base HOG.out (by omega), HBASE.out⟩
  case round =>
    obtain ⟨i, hi, rfl, ho, hf⟩ := hrel
    obtain ⟨p0, p1, p2, p3⟩ := HOC.out _ hf
    by_cases hlt : i < n3
    · obtain ⟨ad3, rfl, _, h3⟩ := (HWS.out _ hf).at_ (by omega)
      have q0 := h3 (i * 2 + 0) (by omega)
      have q1 := h3 (i * 2 + 1) (by omega)
      rw [add_past _ _ _ (by omega)] at q1
      simp only [Nat.add_zero] at q0
      obtain ⟨a0, a1⟩ := HOW.out.wa i (by have := HN3.out; omega)
      rw [show 2 * i = i * 2 by omega] at a0 a1
      have hput : putW heap S.ws (i + 1) = (putW heap S.ws i).set (S.ws.getD (i * 2) 0).toNat (S.ws.getD (i * 2 + 1) 0) := by
        rw [show i * 2 = 2 * i by omega]; rfl
      obtain ⟨t, ht⟩ : ∃ t : Nat, S.ws.getD (i * 2) 0 = t := ⟨(S.ws.getD (i * 2) 0).toNat, by omega⟩
      rw [ht] at q0 a1 hput
      generalize S.ws.getD (i * 2 + 1) 0 = v at q1 hput
      have htn : t < hn := by have := HL.out; omega
      have htn' : ¬ hn ≤ t := by omega
      have x0 := ho.cellAt t (by omega)
      rw [List.getElem?_eq_getElem (by rw [List.length_map, putW_len, HL.out]; exact htn)] at x0
      have z0 := ho.frozenAt t
      have HST := Lib.hid (ho.stored t (.int .i64 v)).1
      have HPUT := Lib.hid hput
      have HFR := Lib.hid hf
      clear h3 a0 a1 ht hput ho hf
      go_wp2
      go_roundw
      case rel => exact ⟨i + 1, by omega, by go_num, by rw [HPUT.out, List.map_set]; exact HST.out, HFR.out.setCell (.inl HG.out) _⟩
      case measure => simp [intOf]; omega
    · obtain rfl : i = n3 := by omega
      have HOW2 := Lib.hid ho
      have HFR := Lib.hid hf
      clear ho hf
      go_wp2
      go_loopw [13] (fun v13 wq => ∃ j : Nat, j ≤ n2 ∧ v13 = .int .i64 j ∧ wq.ownsRow bs 3 1 (.slice (some ⟨g, 0, none⟩) hn cg) hn ((putW heap S.ws i).map (Value.int .i64)) ∧ Fr (fun k => bs ≤ k) wo wq) (fun v13 _ => n2 - (intOf v13).toNat)
      case atStart => exact ⟨0, Nat.zero_le _, rfl, HOW2.out, HFR.out⟩
      case round =>
        obtain ⟨j, hj, rfl, ho, hf⟩ := hrel
        obtain ⟨p0, p1, p2, p3⟩ := HOC.out _ hf
        by_cases hlt : j < n2
        · obtain ⟨ad2, rfl, _, h3⟩ := (HRS.out _ hf).at_ (by omega)
          have q0 := h3 (j * 2 + 0) (by omega)
          have q1 := h3 (j * 2 + 1) (by omega)
          rw [add_past _ _ _ (by omega)] at q1
          simp only [Nat.add_zero] at q0
          obtain ⟨a0, a1, _⟩ := HOW.out.ra j (by have := HN2.out; omega)
          rw [show 2 * j = j * 2 by omega] at a0 a1
          obtain ⟨t, ht⟩ : ∃ t : Nat, S.rs.getD (j * 2) 0 = t := ⟨(S.rs.getD (j * 2) 0).toNat, by omega⟩
          obtain ⟨v, hv⟩ : ∃ v, S.rs.getD (j * 2 + 1) 0 = v := ⟨_, rfl⟩
          have hokk : okB (v == heap.getD t 0) t v S.ws i = true := by
            have h1 := HOW.out.okB (i := j) (by have := HN2.out; omega) ht hv
            rw [Int.toNat_natCast, show S.ws.length / 2 = i by have := HN3.out; omega] at h1
            exact h1
          rw [ht] at q0 a1
          rw [hv] at q1
          have htn : t < hn := by have := HL.out; omega
          have htn' : ¬ hn ≤ t := by omega
          have hx := HCE.out _ (HKW.out _ hf) t htn
          have HO2 := Lib.hid ho
          have HFR2 := Lib.hid hf
          clear h3 a0 a1 ht hv ho hf
          generalize heap.getD t 0 = u at hx hokk
          have HOK := Lib.hid hokk
          clear hokk
          go_wp2
          go_quiet (fail)
          go_wp2
          go_loopw [16, 17] (fun v16 v17 wx => ∃ k : Nat, k ≤ i ∧ v17 = .int .i64 k ∧ v16 = .bool (okB (v == u) t v S.ws k) ∧ wx.ownsRow bs 3 1 (.slice (some ⟨g, 0, none⟩) hn cg) hn ((putW heap S.ws i).map (Value.int .i64)) ∧ Fr (fun k => bs ≤ k) wo wx) (fun _ v17 _ => i - (intOf v17).toNat)
          case atStart => exact ⟨0, Nat.zero_le _, rfl, rfl, by first | exact HO2.out | exact ownsRow_frame HO2.out ((Fr.refl (fun _ => False) _).drew) (fun _ _ x => x), by first | exact HFR2.out | exact HFR2.out.drewN _ | exact HFR2.out.drew⟩
          case round =>
            obtain ⟨k, hk, rfl, rfl, ho, hf⟩ := hrel
            obtain ⟨p0, p1, p2, p3⟩ := HOC.out _ hf
            by_cases hlt3 : k < i
            · obtain ⟨ad3, rfl, _, h3⟩ := (HWS.out _ hf).at_ (by omega)
              have q0 := h3 (k * 2 + 0) (by omega)
              have q1 := h3 (k * 2 + 1) (by omega)
              rw [add_past _ _ _ (by omega)] at q1
              simp only [Nat.add_zero] at q0
              have hst : okB (v == u) t v S.ws (k + 1) = (okB (v == u) t v S.ws k || (S.ws.getD (k * 2) 0 == t && S.ws.getD (k * 2 + 1) 0 == v)) := rfl
              generalize S.ws.getD (k * 2) 0 = x0 at q0 hst
              generalize S.ws.getD (k * 2 + 1) 0 = x1 at q1 hst
              generalize okB (v == u) t v S.ws k = b at *
              have HST := Lib.hid hst
              have HO3 := Lib.hid ho
              have HFR3 := Lib.hid hf
              clear hst h3 ho hf
              obtain ⟨d0, hd0⟩ : ∃ d0, (x0 == (t : Int)) = d0 := ⟨_, rfl⟩
              obtain ⟨d1, hd1⟩ : ∃ d1, (x1 == v) = d1 := ⟨_, rfl⟩
              rw [hd0, hd1] at HST
              cases b <;> cases d0 <;> cases d1
              all_goals
                go_wp2
                go_roundw
                case rel => exact ⟨k + 1, by omega, by go_num, by rw [HST.out]; rfl, HO3.out, HFR3.out⟩
                case measure => simp [intOf]; omega
            · obtain rfl : k = i := by omega
              rw [HOK.out]
              have HO3 := Lib.hid ho
              have HFR3 := Lib.hid hf
              clear ho hf
              go_wp2
              go_roundw
              case rel => exact ⟨j + 1, by omega, by go_num, HO3.out, HFR3.out⟩
              case measure => simp [intOf]; omega
        · obtain rfl : j = n2 := by omega
          have HO2 := Lib.hid ho
          have HFR2 := Lib.hid hf
          clear ho hf
          have HT := Lib.hid (fun w' (hw : Fr (fun _ => False) wr w') => And.intro (HHS.out w' (HFR2.out.trans (hw.mono (fun _ x => x.elim)))) (And.intro (HKW.out w' (HFR2.out.trans (hw.mono (fun _ x => x.elim)))) (HOC.out w' (HFR2.out.trans (hw.mono (fun _ x => x.elim)))).1))
          have hkr := HKW.out _ HFR2.out
          have HKR := Lib.hid hkr
          by_cases he : S.e = 1
          · have hR : R = putW heap S.ws i := by
              rw [HAF.out, if_pos he, HOW.out.hp, show S.ws.length / 2 = i by have := HN3.out; omega]
            have HY := Lib.hid (fun w' (hw : Fr (fun _ => False) wr w') => show Flat w' (fun k => bs ≤ k) (some ⟨g, 0, none⟩) hn R from by
              obtain ⟨A', c', e', hfl⟩ := Flat.ofOwn HO2.out
              cases e'
              rw [hR]
              rw [Nat.mul_one] at hfl
              exact hfl.frame hw (fun _ _ x => x.elim))
            rw [he] at p0
            clear he hR
            go_wp2_with (first
              | (go_at_call 9
                 (with_reducible refine (first7_calls _).mono ?_)
                 rintro ex w6 ⟨rfl, hf6⟩)
              | (go_at_call 14
                 (with_reducible refine (ints_eq _ _ _ _ _ _ _ _ _ _ (HT.out _ hf6).1 L4.out (HY.out _ hf6)).mono ?_)
                 rintro ex w7 ⟨rfl, hf7⟩))
            go_ret
            exact ⟨rfl, (HKR.out.trans hf6).trans hf7⟩
          · have hR : R = heap := by rw [HAF.out, if_neg he]
            have HY := Lib.hid (fun w' (hw : Fr (fun _ => False) wr w') => show Flat w' (fun _ => True) (some had) hn R from by
              rw [hR]
              exact HIN.out _ (HT.out _ hw).2.1)
            have hen := HOW.out.en
            rcases hen with h1 | h2 | h2
            · exact absurd h1 he
            all_goals
              rw [h2] at p0 HT
              clear he hR h2
              go_wp2_with (first
                | (go_at_call 9
                   (with_reducible refine (first7_calls _).mono ?_)
                   rintro ex w6 ⟨rfl, hf6⟩
                   clear p0)
                | (go_at_call 14
                   (with_reducible refine (ints_eq _ _ _ _ _ _ _ _ _ _ (HT.out _ hf6).1 L4.out (HY.out _ hf6)).mono ?_)
                   rintro ex w7 ⟨rfl, hf7⟩
                   have p0 := (HT.out _ (hf6.trans hf7)).2.2))
              go_ret
              exact ⟨rfl, (HKR.out.trans hf6).trans hf7⟩

theorem own_walk (cs : Array Value) (c : Conf) (H : Option Addr) (hn hcap : Nat) (heap : List Int) (A : Option Addr) (n cap : Nat) (p : List Ins) (w : World) (hc : ConfIn cs c) (hI : IntsW w H hn heap) (h : ProgAt w (fun _ => True) A n cap p) :
    Calls Try.prog 3 #[.agg cs, .slice H hn hcap, .slice A n cap] w fun e w' => e = .returned (.bool true) ∧ Fr (fun _ => False) w w' := by
  rw [hc]
  cases hb : fewP p with
  | false => exact own_many c H hn hcap A n cap p w h (.inl hb)
  | true =>
    by_cases hs : hn ≤ 5000
    · by_cases hr : progOk c p = true ∧ (heap.length : Int) = c.words
      · exact own_few c H hn hcap heap A n cap p w hI h hb hs hr.1 hr.2
      · exact own_not c H hn hcap heap A n cap p w hI h hb hs hr
    · exact own_many c H hn hcap A n cap p w h (.inr ⟨hb, by omega⟩)
end Go.Proofs.Ytfbdfboekgjbcaa
