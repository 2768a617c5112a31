/- ltklaw5.LatchReaders answers true. -/
import Derived.Test.YteopldhcmddokaaLR2
import Derived.Test.YteopldhcmddokaaOpen
import Derived.Deep.DeepCutAuto
namespace Go.Proofs.Yteopldhcmddokaa
open Go.RowKit

def flags (g : Nat → Bool) : Array Value := #[.bool (g 0), .bool (g 1), .bool (g 2), .bool (g 3), .bool (g 4), .bool (g 5), .bool (g 6), .bool (g 7), .bool (g 8), .bool (g 9), .bool (g 10), .bool (g 11), .bool (g 12), .bool (g 13), .bool (g 14), .bool (g 15)]
theorem flags_get (g : Nat → Bool) (t : Nat) (h : t < 16) : (flags g)[t]? = some (.bool (g t)) := by
  have : t = 0 ∨ t = 1 ∨ t = 2 ∨ t = 3 ∨ t = 4 ∨ t = 5 ∨ t = 6 ∨ t = 7 ∨ t = 8 ∨ t = 9 ∨ t = 10 ∨ t = 11 ∨ t = 12 ∨ t = 13 ∨ t = 14 ∨ t = 15 := by omega
  rcases this with rfl | rfl | rfl | rfl | rfl | rfl | rfl | rfl | rfl | rfl | rfl | rfl | rfl | rfl | rfl | rfl <;> rfl
theorem flags_set (g : Nat → Bool) (t : Nat) (_ : t < 16) (b : Bool) : (flags g).setIfInBounds t (.bool b) = flags (setAt g t b) := by
  have : t = 0 ∨ t = 1 ∨ t = 2 ∨ t = 3 ∨ t = 4 ∨ t = 5 ∨ t = 6 ∨ t = 7 ∨ t = 8 ∨ t = 9 ∨ t = 10 ∨ t = 11 ∨ t = 12 ∨ t = 13 ∨ t = 14 ∨ t = 15 := by omega
  rcases this with rfl | rfl | rfl | rfl | rfl | rfl | rfl | rfl | rfl | rfl | rfl | rfl | rfl | rfl | rfl | rfl <;> rfl
/-- Who reads still. -/
def still (r : Nat) (g : Nat → Bool) : Nat → Bool := fun u => decide (u < r) && !g u
theorem still_set {r t : Nat} {g : Nat → Bool} (h : t < r) : still r (setAt g t true) = setAt (still r g) t false := by
  funext u
  unfold still setAt
  by_cases e : u = t
  · rw [if_pos e, if_pos e]; simp
  · rw [if_neg e, if_neg e]
/-- Where the writer stands. -/
structure Wr (l : LM) (s : CM) (th sl tw r : Nat) (g : Nat → Bool) (left : Nat) : Prop where
  rep : Rep s sl (still r g) (th : Int)
  cnt : left = cntTo (still r g) 0 16
  word : 0 ≤ l.word ∧ l.word ≤ 7
  on : left ≠ 0 → ∃ wd, DW l th sl tw wd ∧ 1 ≤ wd ∧ wd ≤ 7 ∧ ∀ u, u < 16 → still r g u = true → wd ≤ wordOf sl u
  out : left = 0 → l.at_ = 6 ∧ l.got = true
theorem some_left {P : Nat → Bool} (h : cntTo P 0 16 ≠ 0) : ∃ u, u < 16 ∧ P u = true := by
  by_cases h1 : ∀ t, t < 16 → 0 ≤ t → P t = false
  · exact absurd ((cntTo_zero P 0 16).2 h1) h
  · simp only [Classical.not_forall] at h1
    obtain ⟨t, ht, _, hp⟩ := h1
    exact ⟨t, ht, by simpa using hp⟩
theorem none_left {P : Nat → Bool} (h : cntTo P 0 16 = 0) (hP : ∀ u, 16 ≤ u → P u = false) : ∀ u, P u = false := fun u => by
  by_cases hu : u < 16
  · exact (cntTo_zero P 0 16).1 h u hu (Nat.zero_le _)
  · exact hP u (by omega)
theorem still_far {r : Nat} {g : Nat → Bool} (hr : r ≤ 16) : ∀ u, 16 ≤ u → still r g u = false := fun u hu => by unfold still; simp; omega
/-- Twelve steps more, behind one who went. -/
theorem Wr.twelve {l : LM} {s : CM} {th sl tw r t left : Nat} {g : Nat → Bool} (h : Wr l s th sl tw r g left) (hr : r ≤ 15) (ht : t < r) (hg : g t = false) {s' : CM} (hs' : Rep s' sl (setAt (still r g) t false) (th : Int)) :
    left ≠ 0 ∧ Wr (runLM 12 l s').1 (runLM 12 l s').2 th sl tw r (setAt g t true) (left - 1) := by
  have hst : still r g t = true := by unfold still; simp [ht, hg]
  have hc := cntTo_set (still r g) 0 t false 16
  rw [if_pos ⟨by omega, Nat.zero_le _, hst⟩, if_neg (by simp), ← h.cnt] at hc
  have hne : left ≠ 0 := by omega
  rw [← still_set ht] at hc hs'
  obtain ⟨wd, hd, h1, h7, hw⟩ := h.on hne
  have hw' : ∀ u, u < 16 → still r (setAt g t true) u = true → wd ≤ wordOf sl u := fun u hu hp => by
    refine hw u hu ?_
    rw [still_set ht] at hp
    unfold setAt at hp
    split at hp
    · cases hp
    · exact hp
  refine ⟨hne, ?_⟩
  by_cases h0 : left - 1 = 0
  · have hnone := none_left (show cntTo (still r (setAt g t true)) 0 16 = 0 by omega) (still_far (by omega))
    obtain ⟨x1, x2, x3⟩ := drain_out hnone 12 l s' wd hd h1 h7 hs' (by omega)
    exact ⟨x3, by omega, runLM_word 12 l s' h.word, fun h => absurd h0 h, fun _ => ⟨x1, x2⟩⟩
  · have hsome := some_left (show cntTo (still r (setAt g t true)) 0 16 ≠ 0 by omega)
    obtain ⟨wd', x1, x2, x3, x4, x5⟩ := drain_on (still_far (by omega)) hsome 12 l s' wd hd h1 h7 hw' hs'
    exact ⟨x5, by omega, runLM_word 12 l s' h.word, fun _ => ⟨wd', x1, x2, x3, x4⟩, fun h => absurd h h0⟩
/-- Twelve steps of the new writer. -/
theorem Wr.begins {th sl tw r : Nat} {s : CM} (h1 : th = tw + 1) (h2 : th ≤ 16) (h3 : sl ≤ 48) (hr : r ≤ 15) (hs : Rep s sl (fun u => decide (u < r)) 0) :
    Wr (runLM 12 (LM.write (oneC th sl) 2 tw false) s).1 (runLM 12 (LM.write (oneC th sl) 2 tw false) s).2 th sl tw r (fun _ => false) r := by
  have hs0 : still r (fun _ => false) = fun u => decide (u < r) := by funext u; unfold still; simp
  have hto : ((tw : Int) + 1) = (th : Int) := by omega
  obtain ⟨y1, y2⟩ := write_twelve (t := tw) (th := th) (by omega) h2 h3 hs (fun u hu => by simp; omega)
  have hcnt := cnt_below r 16
  rw [hto] at y1 y2
  have hwd := runLM_word 12 (LM.write (oneC th sl) 2 tw false) s ⟨by show (0 : Int) ≤ 1; omega, by show (1 : Int) ≤ 7; omega⟩
  by_cases h0 : r = 0
  · have hnone : ∀ u, decide (u < r) = false := fun u => by simp; omega
    obtain ⟨x1, x2, x3⟩ := y2 hnone
    exact ⟨by rw [hs0]; exact x3, by rw [hs0]; omega, hwd, fun h => absurd h0 h, fun _ => ⟨x1, x2⟩⟩
  · obtain ⟨wd, x1, x2, x3, x4, x5⟩ := y1 ⟨0, by omega, by simp; omega⟩
    exact ⟨by rw [hs0]; exact x5, by rw [hs0]; omega, hwd, fun _ => ⟨wd, x1, x2, x3, by rw [hs0]; exact x4⟩, fun h => absurd h h0⟩

set_option maxRecDepth 100000 in
set_option maxHeartbeats 2000000 in
theorem readers_bad (th sl r : Int) (A : Option Addr) (n c : Nat) (w : World) (h : th < 2 ∨ 16 < th ∨ sl < 0 ∨ 16 < sl ∨ r < 0 ∨ th ≤ r ∨ 100 < n) :
    Calls Try.prog 3 #[.int .i64 th, .int .i64 sl, .int .i64 r, .slice A n c] w fun e w' => e = .returned (.bool true) ∧ Fr (fun _ => False) w w' := by
  have hh : (decide (th < 2) = true) ∨ (decide (th < 2) = false ∧ decide (16 < th) = true) ∨ (decide (th < 2) = false ∧ decide (16 < th) = false ∧ decide (sl < 0) = true) ∨ (decide (th < 2) = false ∧ decide (16 < th) = false ∧ decide (sl < 0) = false ∧ decide (16 < sl) = true) ∨
      (decide (th < 2) = false ∧ decide (16 < th) = false ∧ decide (sl < 0) = false ∧ decide (16 < sl) = false ∧ decide (r < 0) = true) ∨ (decide (th < 2) = false ∧ decide (16 < th) = false ∧ decide (sl < 0) = false ∧ decide (16 < sl) = false ∧ decide (r < 0) = false ∧ decide (th ≤ r) = true) ∨
      (decide (th < 2) = false ∧ decide (16 < th) = false ∧ decide (sl < 0) = false ∧ decide (16 < sl) = false ∧ decide (r < 0) = false ∧ decide (th ≤ r) = false ∧ decide ((100 : Int) < n) = true) := by simp; omega
  clear h
  rcases hh with d1 | ⟨d1, d2⟩ | ⟨d1, d2, d3⟩ | ⟨d1, d2, d3, d4⟩ | ⟨d1, d2, d3, d4, d5⟩ | ⟨d1, d2, d3, d4, d5, d6⟩ | ⟨d1, d2, d3, d4, d5, d6, d7⟩
  all_goals
    go_enter Try.func3, Try.ntmps3
    go_wp2_with (first
      | (go_at_call 9; refine (first5_calls _).mono ?_; rintro e w0 ⟨rfl, hf0⟩))
    all_goals go_ret
    all_goals exact ⟨rfl, by repeat (first | exact Fr.refl _ _ | assumption | refine Fr.trans ?_ (by assumption))⟩

set_option maxRecDepth 100000 in
set_option maxHeartbeats 4000000 in
theorem readers_main (th tw tl sl r : Nat) (A : Option Addr) (n c : Nat) (xs : List Int) (w : World) (h : IntsIn w A n xs) (e1 : th = tw + 1) (e2 : tw = tl + 1) (h2 : th ≤ 16) (h3 : sl ≤ 16) (h4 : r ≤ tw) (h5 : n ≤ 100) :
    Calls Try.prog 3 #[.int .i64 th, .int .i64 sl, .int .i64 r, .slice A n c] w fun e w' => e = .returned (.bool true) ∧ Fr (fun _ => False) w w' := by
  have H := Lib.hid h
  have E1 := Lib.hid e1
  have E2 := Lib.hid e2
  have s1 : IntKind.i64.wrap ((th : Int) - 1) = (tw : Int) := by rw [IntKind.wrap_i64]; omega
  have s2 : IntKind.i64.wrap ((tw : Int) - 1) = (tl : Int) := by rw [IntKind.wrap_i64]; omega
  have hth1 : 1 ≤ th := by omega
  have htw : tw < th := by omega
  have htl : tl < tw := by omega
  have hr15 : r ≤ 15 := by omega
  have h48 : sl ≤ 48 := by omega
  clear h e1 e2
  have d1 : decide ((th : Int) < 2) = false := by simp; omega
  have d2 : decide ((16 : Int) < th) = false := by simp; omega
  have d3 : decide ((sl : Int) < 0) = false := by simp
  have d4 : decide ((16 : Int) < sl) = false := by simp; omega
  have d5 : decide ((r : Int) < 0) = false := by simp
  have d6 : decide ((th : Int) ≤ r) = false := by simp; omega
  have d7 : decide ((100 : Int) < n) = false := by simp; omega
  have HO := Lib.hid (fun (w : World) => (show Calls Try.prog 10 #[.int .i64 th, .int .i64 sl] w fun e w' => e = .returned (.agg #[.int .i64 1, .int .i64 1, .int .i64 1, .int .i64 1, .int .i64 th, .int .i64 sl, .int .i64 1, .int .i64 1, .int .i64 1, .int .i64 0, .int .i64 1, .int .i64 0]) ∧ Fr (fun _ => False) w w' from one_calls th sl w))
  have HC := Lib.hid (fun (w : World) => (show Calls Try.prog 12 #[.agg #[.int .i64 1, .int .i64 1, .int .i64 1, .int .i64 1, .int .i64 th, .int .i64 sl, .int .i64 1, .int .i64 1, .int .i64 1, .int .i64 0, .int .i64 1, .int .i64 0]] w fun e w' => e = .returned (.int .i64 9) ∧ Fr (fun _ => False) w w' from by have := cells_calls (oneC th sl) w; rw [cells_one th sl hth1 h2 h48] at this; exact this))
  have HB := Lib.hid (fun (w : World) => (show BoxConf (w.alloc (.cells #[.int .i64 1, .int .i64 1, .int .i64 1, .int .i64 1, .int .i64 th, .int .i64 sl, .int .i64 1, .int .i64 1, .int .i64 1, .int .i64 0, .int .i64 1, .int .i64 0] 25)) w.heap.size (oneC th sl) from BoxConf.mk w (oneC th sl)))
  have HALL := Lib.hid (fun (w : World) (b : Nat) (h : BoxConf w b (oneC th sl)) => (show w.cell? ⟨b, 0, none⟩ = some (.int .i64 1) ∧ w.cell? ⟨b, 1, none⟩ = some (.int .i64 1) ∧ w.cell? ⟨b, 2, none⟩ = some (.int .i64 1) ∧ w.cell? ⟨b, 3, none⟩ = some (.int .i64 1) ∧ w.cell? ⟨b, 4, none⟩ = some (.int .i64 th) ∧ w.cell? ⟨b, 5, none⟩ = some (.int .i64 sl) ∧ w.cell? ⟨b, 6, none⟩ = some (.int .i64 1) ∧ w.cell? ⟨b, 7, none⟩ = some (.int .i64 1) ∧ w.cell? ⟨b, 8, none⟩ = some (.int .i64 1) ∧ w.cell? ⟨b, 9, none⟩ = some (.int .i64 0) ∧ w.cell? ⟨b, 10, none⟩ = some (.int .i64 1) ∧ w.cell? ⟨b, 11, none⟩ = some (.int .i64 0) from h.all))
  have HNEW := Lib.hid (fun (w : World) => new_calls 9 w (by omega) (by omega))
  have HWR := Lib.hid (fun (node t : Int) (rd : Bool) (w : World) => (show Calls Try.prog 15 #[.agg #[.int .i64 1, .int .i64 1, .int .i64 1, .int .i64 1, .int .i64 th, .int .i64 sl, .int .i64 1, .int .i64 1, .int .i64 1, .int .i64 0, .int .i64 1, .int .i64 0], .int .i64 node, .int .i64 t, .bool rd] w fun e w' => e = .returned (.pointer (some ⟨w.heap.size + 1, 0, none⟩)) ∧ LatchAt w' (w.heap.size + 1) (LM.write (oneC th sl) node t rd) ∧ Fr (fun _ => False) w w' from write_calls (oneC th sl) node t rd w))
  have HRD := Lib.hid (fun (node t : Int) (w : World) => (show Calls Try.prog 14 #[.agg #[.int .i64 1, .int .i64 1, .int .i64 1, .int .i64 1, .int .i64 th, .int .i64 sl, .int .i64 1, .int .i64 1, .int .i64 1, .int .i64 0, .int .i64 1, .int .i64 0], .int .i64 node, .int .i64 t] w fun e w' => e = .returned (.pointer (some ⟨w.heap.size + 1, 0, none⟩)) ∧ LatchAt w' (w.heap.size + 1) (LM.read (oneC th sl) node t) ∧ Fr (fun _ => False) w w' from read_calls (oneC th sl) node t w))
  have HER := Lib.hid (fun (node t : Int) (w : World) => (show Calls Try.prog 18 #[.agg #[.int .i64 1, .int .i64 1, .int .i64 1, .int .i64 1, .int .i64 th, .int .i64 sl, .int .i64 1, .int .i64 1, .int .i64 1, .int .i64 0, .int .i64 1, .int .i64 0], .int .i64 node, .int .i64 t] w fun e w' => e = .returned (.pointer (some ⟨w.heap.size + 1, 0, none⟩)) ∧ LatchAt w' (w.heap.size + 1) (LM.endRead (oneC th sl) node t) ∧ Fr (fun _ => False) w w' from endRead_calls (oneC th sl) node t w))
  have HLA := Lib.hid (fun (w : World) => (show Calls Try.prog 21 #[.agg #[.int .i64 1, .int .i64 1, .int .i64 1, .int .i64 1, .int .i64 th, .int .i64 sl, .int .i64 1, .int .i64 1, .int .i64 1, .int .i64 0, .int .i64 1, .int .i64 0], .int .i64 2] w fun e w' => e = .returned (.int .i64 1) ∧ Fr (fun _ => False) w w' from by have := latch_calls (oneC th sl) 2 w; rw [latch_one th sl hth1 h2 h48] at this; exact this))
  go_enter Try.func3, Try.ntmps3
  go_wp2_with (first
    | (go_at_call 9; refine (first5_calls w).mono ?_; rintro e w0 ⟨rfl, hf0⟩)
    | (go_at_call 10; (with_reducible refine (HO.out _).mono ?_); rintro e w1 ⟨rfl, hf1⟩; have hb1 := HB.out w1)
    | (go_at_call 12; (with_reducible refine (HC.out _).mono ?_); rintro e w2 ⟨rfl, hf2⟩; have hb2 := hb1.frame hf2 (fun x => x))
    | (go_at_call 11; (with_reducible refine (HNEW.out _).mono ?_); rintro e w3 ⟨rfl, hc3, hf3⟩; have hb := hb2.frame hf3 (fun x => x); have hF0 := Lib.hid (((hf0.trans hf1).alloc _ |>.trans hf2).trans hf3); have hq : w.heap.size ≤ w2.heap.size := (((hf0.trans hf1).alloc _).trans hf2).size; have hz : w1.heap.size < w2.heap.size := blk_lt hb2; have hp3 : w2.heap.size + 1 < w3.heap.size := blk_lt hc3.hp; have hC0 := Lib.hid hc3; have hBx0 := Lib.hid hb; clear hf0 hf1 hf2 hf3 hb1 hb2 hc3 hb))
  generalize hgp : w2.heap.size = ab at *
  generalize hgb : w1.heap.size = b1 at *
  clear hgp hgb
  go_loopw [12] (fun v12 wr => ∃ (i : Nat) (s : CM), i ≤ r ∧ v12 = .int .i64 i ∧ CellsAt wr (ab + 1) ab s ∧ Rep s sl (fun u => decide (u < i)) 0 ∧ BoxConf wr b1 (oneC th sl) ∧ Fr (fun _ => False) w wr) (fun v12 _ => r - (intOf v12).toNat)
  case atStart => exact ⟨0, CM.zero 9, Nat.zero_le _, rfl, hC0.out, by have := rep_zero sl; rw [show (fun u : Nat => decide (u < 0)) = fun _ => false from by funext u; simp]; exact this, hBx0.out, hF0.out⟩
  case round =>
    obtain ⟨i, s, hi, rfl, hc, hr, hbx, hf⟩ := hrel
    have HCS := Lib.hid hc
    have HBX := Lib.hid hbx
    have HF := Lib.hid hf
    have hwr := hf.size
    have hpl : ab + 1 < wr.heap.size := blk_lt hc.hp
    obtain ⟨c0, c1, c2, c3, c4, c5, c6, c7, c8, c9, c10, c11⟩ := HALL.out _ _ hbx
    have HR := Lib.hid hr
    clear hc hr hbx hf
    by_cases hlt : i < r
    · obtain ⟨t1, t2⟩ := thru_read (th := th) (t := i) (by omega) h2 h48 HR.out (by simp)
      have HT := Lib.hid t2
      go_wp2_with (first
        | (go_at_call 14; (with_reducible refine (HRD.out 2 i _).mono ?_); rintro e w4 ⟨rfl, hl4, hf4⟩
           have hlc := LC.of hl4 (HCS.out.frame hf4 (fun x => x) (fun x => x))
           have HTH := through_calls _ _ _ _ s w4 hlc ⟨by show (0 : Int) ≤ 0; omega, by show (0 : Int) ≤ 7; omega⟩
           rw [t1] at HTH
           have HTT := Lib.hid HTH
           clear hlc hl4 HTH c0 c1 c2 c3 c4 c5 c6 c7 c8 c9 c10 c11)
        | (go_at_call 13; (with_reducible refine HTT.out.mono ?_); rintro e w5 ⟨rfl, hlc5, hf5⟩))
      go_roundw
      case rel =>
        refine ⟨i + 1, _, by omega, by go_num, hlc5.s, ?_, (HBX.out.frame hf4 (fun x => x)).frame hf5 (by unfold trio; omega), (HF.out.trans hf4).trans' hf5 (fun k hk hl => by unfold trio at hk; omega)⟩
        have : (fun u => decide (u < i + 1)) = setAt (fun u => decide (u < i)) i true := by
          funext u
          unfold setAt
          by_cases e : u = i
          · simp [e]
          · rw [if_neg e]; congr 1; simp; omega
        rw [this]
        exact HT.out
      case measure => simp [intOf]; omega
    · obtain rfl : r = i := by omega
      have HW0 := Lib.hid (Wr.begins E1.out h2 h48 hr15 HR.out)
      go_wp2_with (first
        | (go_at_call 15; (with_reducible refine (HWR.out 2 tw false _).mono ?_); rintro e w4 ⟨rfl, hl4, hf4⟩
           have hlc4 := LC.of hl4 (HCS.out.frame hf4 (fun x => x) (fun x => x))
           have HLC := Lib.hid hlc4
           have HB4 := Lib.hid (HBX.out.frame hf4 (fun x => x))
           have HF4 := Lib.hid (HF.out.trans hf4)
           clear hl4 hf4 hlc4 c0 c1 c2 c3 c4 c5 c6 c7 c8 c9 c10 c11))
      generalize hgw : wr.heap.size + 1 = bw at *
      have hbw : ab + 1 < bw := by omega
      have hbw4 : bw < w4.heap.size := HLC.out.l.lt
      clear hgw
      go_loopw [14] (fun v14 wq => ∃ k : Nat, k ≤ 12 ∧ v14 = .int .i64 k ∧ LC wq bw (ab + 1) ab (runLM k (LM.write (oneC th sl) 2 tw false) s).1 (runLM k (LM.write (oneC th sl) 2 tw false) s).2 ∧ Fr (trio bw (ab + 1) ab) w4 wq) (fun v14 _ => 12 - (intOf v14).toNat)
      case atStart => exact ⟨0, Nat.zero_le _, rfl, HLC.out, Fr.refl _ _⟩
      case round =>
        obtain ⟨k, hk, rfl, hlk, hfk⟩ := hrel
        have HLK := Lib.hid hlk
        have HFK := Lib.hid hfk
        have HWD := Lib.hid (runLM_word k (LM.write (oneC th sl) 2 tw false) s ⟨by show (0 : Int) ≤ 1; omega, by show (1 : Int) ≤ 7; omega⟩)
        have HSU := Lib.hid (runLM_succ k (LM.write (oneC th sl) 2 tw false) s)
        clear hlk hfk
        by_cases hk12 : k < 12
        · generalize (runLM k (LM.write (oneC th sl) 2 tw false) s).1 = lk at *
          generalize (runLM k (LM.write (oneC th sl) 2 tw false) s).2 = sk at *
          go_wp2_with (first
            | (go_at_call 16; (with_reducible refine (step_calls _ _ _ lk sk _ HLK.out HWD.out).mono ?_); rintro e w10 ⟨rfl, h10, hf10⟩))
          go_roundw
          case rel => exact ⟨k + 1, by omega, by go_num, by rw [HSU.out]; exact h10, HFK.out.trans hf10⟩
          case measure => simp [intOf]; omega
        · obtain rfl : k = 12 := by omega
          generalize (runLM 12 (LM.write (oneC th sl) 2 tw false) s).1 = l1 at *
          generalize (runLM 12 (LM.write (oneC th sl) 2 tw false) s).2 = s1' at *
          have hov : l1.over = ((r : Int) == 0) := by
            by_cases h0 : r = 0
            · rw [show l1.over = true from by unfold LM.over; rw [(HW0.out.out h0).1]; rfl]; simp [h0]
            · obtain ⟨wd, hdw, _⟩ := HW0.out.on h0
              rw [over_of hdw.at_ (by omega)]
              symm
              simpa using h0
          have hBq := HB4.out.frame HFK.out (by unfold trio; omega)
          have HBQ := Lib.hid hBq
          have HFQ := Lib.hid (HF4.out.trans' HFK.out (fun k hk hl => by unfold trio at hk; omega))
          have hwq4 := HFK.out.size
          have HDN := done_calls bw l1 _ HLK.out.l
          rw [hov] at HDN
          have HDD := Lib.hid HDN
          obtain ⟨c0, c1, c2, c3, c4, c5, c6, c7, c8, c9, c10, c11⟩ := HALL.out _ _ hBq
          clear HDN hov hBq
          by_cases hrt : r < tw
          · have hrt' : decide ((r : Int) < tw) = true := by simp; exact hrt
            obtain ⟨t1, t2⟩ := thru_late (th := th) (t := tl) (by omega) h2 h48 HW0.out.rep (by have := E2.out; unfold still; simp; omega) (by omega) (by have := E2.out; have := E1.out; omega)
            have HT2 := Lib.hid t2
            clear t2
            go_upto_region 26 with (first
              | (go_at_call 17; (with_reducible refine HDD.out.mono ?_); rintro e w5 ⟨rfl, rfl⟩)
              | (go_at_call 14; (with_reducible refine (HRD.out 2 tl _).mono ?_); rintro e w5 ⟨rfl, hl5, hf5⟩
                 have hlc5 := LC.of hl5 (HLK.out.s.frame hf5 (fun x => x) (fun x => x))
                 have HTH := through_calls _ _ _ _ s1' w5 hlc5 ⟨by show (0 : Int) ≤ 0; omega, by show (0 : Int) ≤ 7; omega⟩
                 rw [t1] at HTH
                 have HTT := Lib.hid HTH
                 clear hlc5 hl5 HTH c0 c1 c2 c3 c4 c5 c6 c7 c8 c9 c10 c11)
              | (go_at_call 13; (with_reducible refine HTT.out.mono ?_); rintro e w6 ⟨rfl, hlc6, hf6⟩
                 have hsz5 := hf5.size
                 have HL6 := Lib.hid (LC.of ((HLK.out.l.frame hf5 (fun x => x)).frame hf6 (by unfold trio; have := HLK.out.d1; have := HLK.out.d2; have := HLK.out.l.lt; omega)) hlc6.s)
                 have HB6 := Lib.hid ((HBQ.out.frame hf5 (fun x => x)).frame hf6 (by unfold trio; omega))
                 have HF6 := Lib.hid ((HFQ.out.trans hf5).trans' hf6 (fun k hk hl => by unfold trio at hk; omega))
                 have HW6 := Lib.hid (show Wr l1 (thru 20 (LM.read (oneC th sl) 2 tl) s1').2.1 th sl tw r (fun _ => false) r from ⟨HT2.out, HW0.out.cnt, HW0.out.word, HW0.out.on, HW0.out.out⟩)
                 generalize (thru 20 (LM.read (oneC th sl) 2 tl) s1').2.1 = s6 at *
                 clear hlc6 hf6 hf5 HTT HT2 t1))
            have hw6 : bw < w6.heap.size := HL6.out.l.lt
            go_wp2
            have halloc := (Fr.refl (fun _ => False) w6).alloc (.cells (flags (fun _ => false)) 37)
            have HG0 := Lib.hid (show (w6.alloc (.cells (flags (fun _ => false)) 37)).heap[w6.heap.size]? = some (.cells (flags (fun _ => false)) 37 (0, 0)) from heap_alloc_new w6 _)
            have HL0 := Lib.hid (HL6.out.frame halloc (fun x => x) (fun x => x) (fun x => x))
            have HB0 := Lib.hid (HB6.out.frame halloc (fun x => x))
            have HFA := Lib.hid (HF6.out.trans halloc)
            clear halloc
            generalize hgg : w6.heap.size = gb at *
            clear hgg
            go_loopw [16, 18, 19, 20] (fun v16 v18 _ _ wr => ∃ (i left : Nat) (g : Nat → Bool) (l : LM) (s : CM), i ≤ n + r ∧ v18 = .int .i64 i ∧ v16 = .int .i64 left ∧ wr.heap[gb]? = some (.cells (flags g) 37 (0, 0)) ∧ LC wr bw (ab + 1) ab l s ∧ Wr l s th sl tw r g left ∧
              (∀ u, u < r → u + n < i → g u = true) ∧ BoxConf wr b1 (oneC th sl) ∧ Fr (fun _ => False) w wr) (fun _ v18 _ _ _ => n + r - (intOf v18).toNat)
            case atStart => exact ⟨0, r, fun _ => false, l1, s6, Nat.zero_le _, rfl, rfl, HG0.out, HL0.out, HW6.out, fun u _ h => absurd h (Nat.not_lt_zero _), HB0.out, HFA.out⟩
            case round =>
              obtain ⟨i, left, g, l, s, hi, rfl, rfl, hg, hlc, hw, hgn, hbx, hf⟩ := hrel
              have HG := Lib.hid hg
              have HLC := Lib.hid hlc
              have HW := Lib.hid hw
              have HGN := Lib.hid hgn
              have HBX := Lib.hid hbx
              have HF := Lib.hid hf
              have hgl : gb < wr.heap.size := blk_lt hg
              have hwsz := hf.size
              have hleft16 : left ≤ 16 := by rw [hw.cnt]; exact cntTo_le _ _ _
              obtain ⟨c0, c1, c2, c3, c4, c5, c6, c7, c8, c9, c10, c11⟩ := HALL.out _ _ hbx
              clear hg hlc hw hgn hbx hf
              by_cases hl0 : left = 0
              · subst hl0
                have hgot : l.got = true := (HW.out.out rfl).2
                have hown : s.word 1 = (th : Int) := HW.out.rep.owner
                have sn : IntKind.i64.wrap ((n : Int) + r) = (n : Int) + r := by rw [IntKind.wrap_i64]; omega
                have HFI := Lib.hid (first5_calls wr)
                clear c0 c1 c2 c3 c4 c5 c6 c7 c8 c9 c10 c11
                have HEND := fun w' (hf : Fr (fun _ => False) wr w') => And.intro (got_calls bw l w' (HLC.out.l.frame hf (fun x => x))) (peek_calls (ab + 1) ab s 1 w' (HLC.out.s.frame hf (fun x => x) (fun x => x)))
                rw [hgot, hown] at HEND
                have HED := Lib.hid HEND
                clear HEND hgot hown
                go_wp2_with (first
                  | (go_at_call 9; (with_reducible refine HFI.out.mono ?_); rintro e w11 ⟨rfl, hf11⟩
                     obtain ⟨c0, c1, c2, c3, c4, c5, c6, c7, c8, c9, c10, c11⟩ := HALL.out _ _ (HBX.out.frame hf11 (fun x => x)))
                  | (go_at_call 19; (with_reducible refine (HED.out _ hf11).1.mono ?_); rintro e w12 ⟨rfl, rfl⟩)
                  | (go_at_call 21; (with_reducible refine (HLA.out _).mono ?_); rintro e w13 ⟨rfl, hf13⟩; have hf14 := hf11.trans hf13)
                  | (go_at_call 20; (with_reducible refine (HED.out _ hf14).2.mono ?_); rintro e w15 ⟨rfl, rfl⟩))
                all_goals go_ret
                all_goals exact ⟨rfl, HF.out.trans hf14⟩
              · by_cases hin : i < n + r
                · have hlpos : decide ((0 : Int) < left) = true := by simp; omega
                  have hinn : decide ((i : Int) < (n : Int) + r) = true := by simp; omega
                  have sn : IntKind.i64.wrap ((n : Int) + r) = (n : Int) + r := by rw [IntKind.wrap_i64]; omega
                  by_cases hn : i < n
                  · obtain ⟨ad, rfl, hcell⟩ := H.out.at_ (by omega)
                    have q0 := HF.out.cell (hcell i hn) (fun x => x)
                    have sx : IntKind.i64.wrap ((i : Int) - n) = (i : Int) - n := by rw [IntKind.wrap_i64]; omega
                    clear hcell
                    generalize xs.getD i 0 = x at q0
                    by_cases hx0 : x < 0
                    · have x0 : decide (x < 0) = true := by simpa using hx0
                      clear hx0
                      have hskip : True := trivial
                      go_wp2
                      go_roundw
                      case rel => exact ⟨i + 1, left, g, l, s, by omega, by go_num, rfl, HG.out, HLC.out, HW.out, fun u hu hui => HGN.out u hu (by omega), HBX.out, HF.out⟩
                      case measure => simp [intOf]; omega
                    · by_cases hxr : (r : Int) ≤ x
                      · have x0 : decide (x < 0) = false := by simpa using hx0
                        have x1 : decide ((r : Int) ≤ x) = true := by simpa using hxr
                        clear hx0 hxr
                        have hskip : True := trivial
                        go_wp2
                        go_roundw
                        case rel => exact ⟨i + 1, left, g, l, s, by omega, by go_num, rfl, HG.out, HLC.out, HW.out, fun u hu hui => HGN.out u hu (by omega), HBX.out, HF.out⟩
                        case measure => simp [intOf]; omega
                      · obtain ⟨t, rfl⟩ := Int.eq_ofNat_of_zero_le (show 0 ≤ x by omega)
                        have htr : t < r := by omega
                        have x0 : decide ((t : Int) < 0) = false := by simp
                        have x1 : decide ((r : Int) ≤ t) = false := by simp; omega
                        have HTI := Lib.hid (show n ≤ i → t = i - n from fun h => by omega)
                        clear hx0 hxr
                        cases hgt : g t with
                        | true =>
                          have z0 : wr.cell? ⟨gb, t, none⟩ = some (.bool true) := by rw [blk_cell HG.out, flags_get g t (by omega), hgt]
                          go_wp2
                          go_roundw
                          case rel => exact ⟨i + 1, left, g, l, s, by omega, by go_num, rfl, HG.out, HLC.out, HW.out, fun u hu hui => by
                            by_cases e : u + n < i
                            · exact HGN.out u hu e
                            · have := HTI.out (by omega)
                              obtain rfl : u = t := by omega
                              exact hgt, HBX.out, HF.out⟩
                          case measure => simp [intOf]; omega
                        | false =>
                          have z0 : wr.cell? ⟨gb, t, none⟩ = some (.bool false) := by rw [blk_cell HG.out, flags_get g t (by omega), hgt]
                          have HGT := Lib.hid hgt
                          clear hgt
                          have hst : still r g t = true := by unfold still; simp [htr, HGT.out]
                          obtain ⟨t1, t2⟩ := thru_endRead (th := th) (t := t) (by omega) h2 h48 HW.out.rep hst
                          obtain ⟨hne, htw12⟩ := HW.out.twelve hr15 htr HGT.out t2
                          have HTW := Lib.hid htw12
                          obtain ⟨wd, hdw, _⟩ := HW.out.on hne
                          have hov : l.over = false := over_of hdw.at_ (by omega)
                          have HDN := Lib.hid (show Calls Try.prog 17 #[.pointer (some ⟨bw, 0, none⟩)] wr fun e w' => e = .returned (.bool false) ∧ w' = wr from by have := done_calls bw l wr HLC.out.l; rw [hov] at this; exact this)
                          have sl1 : IntKind.i64.wrap ((left : Int) - 1) = ((left - 1 : Nat) : Int) := by rw [IntKind.wrap_i64]; omega
                          clear hst t2 hne htw12 hdw hov
                          go_wp2_with (first
                            | (go_at_call 17; (with_reducible refine HDN.out.mono ?_); rintro e w7 ⟨rfl, rfl⟩)
                            | (go_at_call 18; (with_reducible refine (HER.out 2 t _).mono ?_); rintro e w7 ⟨rfl, hl7, hf7⟩
                               have hlc7 := LC.of hl7 (HLC.out.s.frame hf7 (fun x => x) (fun x => x))
                               have HTH := through_calls _ _ _ _ s w7 hlc7 ⟨by show (0 : Int) ≤ 0; omega, by show (0 : Int) ≤ 7; omega⟩
                               rw [t1] at HTH
                               have HTT := Lib.hid HTH
                               clear hlc7 hl7 HTH t1 c0 c1 c2 c3 c4 c5 c6 c7 c8 c9 c10 c11)
                            | (go_at_call 13; (with_reducible refine HTT.out.mono ?_); rintro e w8 ⟨rfl, hlc8, hf8⟩
                               have hwr7 := hf7.size
                               have HG8 := Lib.hid ((hf7.heap HG.out (fun x => x) |> fun h => hf8.heap h (by unfold trio; omega) : w8.heap[gb]? = _))
                               have z8 : w8.frozen? ⟨gb, t, none⟩ = false := by rw [blk_free HG8.out]
                               have z9 : w8.cell? ⟨gb, t, none⟩ = some (.bool false) := by rw [blk_cell HG8.out, flags_get g t (by omega), HGT.out]
                               have HL8 := Lib.hid ((HLC.out.l.frame hf7 (fun x => x)).frame hf8 (by unfold trio; have := HLC.out.d1; have := HLC.out.d2; omega))
                               have HC8 := Lib.hid hlc8.s
                               have HB8 := Lib.hid ((HBX.out.frame hf7 (fun x => x)).frame hf8 (by unfold trio; omega))
                               have HF8 := Lib.hid ((HF.out.trans hf7).trans' hf8 (fun k hk hl => by unfold trio at hk; omega))
                               have hw8 := hf8.size
                               clear hlc8 hf8 hf7 HTT))
                          have hset := fr_set w8 gb t (.bool true)
                          have HGS := Lib.hid (show (w8.setCell ⟨gb, t, none⟩ (.bool true)).heap[gb]? = some (.cells (flags (setAt g t true)) 37 (0, 0)) from by rw [blk_set HG8.out, flags_set g t (by omega)])
                          have HLS := Lib.hid (LC.of (HL8.out.frame hset (by unfold lone1; omega)) (HC8.out.frame hset (by unfold lone1; omega) (by unfold lone1; omega)))
                          have HBS := Lib.hid (HB8.out.frame hset (by unfold lone1; omega))
                          have HFS := Lib.hid (HF8.out.trans' hset (fun k hk hl => by unfold lone1 at hk; omega))
                          have hws := hset.size
                          clear hset
                          generalize w8.setCell ⟨gb, t, none⟩ (.bool true) = w9 at *
                          generalize (thru 20 (LM.endRead (oneC th sl) 2 t) s).2.1 = s9 at *
                          go_loopw [20] (fun v20 wk => ∃ k : Nat, k ≤ 12 ∧ v20 = .int .i64 k ∧ LC wk bw (ab + 1) ab (runLM k l s9).1 (runLM k l s9).2 ∧ Fr (trio bw (ab + 1) ab) w9 wk) (fun v20 _ => 12 - (intOf v20).toNat)
                          case atStart => exact ⟨0, Nat.zero_le _, rfl, HLS.out, Fr.refl _ _⟩
                          case round =>
                            obtain ⟨k, hk, rfl, hlk, hfk⟩ := hrel
                            have HLK := Lib.hid hlk
                            have HFK := Lib.hid hfk
                            have HWD := Lib.hid (runLM_word k l s9 HW.out.word)
                            have HSU := Lib.hid (runLM_succ k l s9)
                            clear hlk hfk
                            by_cases hk12 : k < 12
                            · generalize (runLM k l s9).1 = lk at *
                              generalize (runLM k l s9).2 = sk at *
                              go_wp2_with (first
                                | (go_at_call 16; (with_reducible refine (step_calls _ _ _ lk sk _ HLK.out HWD.out).mono ?_); rintro e w10 ⟨rfl, h10, hf10⟩))
                              go_roundw
                              case rel => exact ⟨k + 1, by omega, by go_num, by rw [HSU.out]; exact h10, HFK.out.trans hf10⟩
                              case measure => simp [intOf]; omega
                            · obtain rfl : k = 12 := by omega
                              go_wp2
                              go_roundw
                              case rel => exact ⟨i + 1, left - 1, setAt g t true, _, _, by omega, by go_num, rfl, HFK.out.heap HGS.out (by unfold trio; omega), HLK.out, HTW.out, fun u hu hui => by
                                unfold setAt
                                by_cases e : u = t
                                · rw [if_pos e]
                                · rw [if_neg e]
                                  by_cases e2 : u + n < i
                                  · exact HGN.out u hu e2
                                  · have := HTI.out (by omega)
                                    omega, HBS.out.frame HFK.out (by unfold trio; omega), HFS.out.trans' HFK.out (fun k hk hl => by unfold trio at hk; omega)⟩
                              case measure => simp [intOf]; omega
                  · obtain ⟨t, ht⟩ : ∃ t, t = i - n := ⟨_, rfl⟩
                    have sx : IntKind.i64.wrap ((i : Int) - n) = (t : Int) := by rw [IntKind.wrap_i64]; omega
                    have hnn : decide ((i : Int) < n) = false := by simp; omega
                    have htr : t < r := by omega
                    have x0 : decide ((t : Int) < 0) = false := by simp
                    have x1 : decide ((r : Int) ≤ t) = false := by simp; omega
                    have HTI := Lib.hid (show n ≤ i → t = i - n from fun _ => ht)
                    clear ht
                    cases hgt : g t with
                    | true =>
                      have z0 : wr.cell? ⟨gb, t, none⟩ = some (.bool true) := by rw [blk_cell HG.out, flags_get g t (by omega), hgt]
                      go_wp2
                      go_roundw
                      case rel => exact ⟨i + 1, left, g, l, s, by omega, by go_num, rfl, HG.out, HLC.out, HW.out, fun u hu hui => by
                        by_cases e : u + n < i
                        · exact HGN.out u hu e
                        · have := HTI.out (by omega)
                          obtain rfl : u = t := by omega
                          exact hgt, HBX.out, HF.out⟩
                      case measure => simp [intOf]; omega
                    | false =>
                      have z0 : wr.cell? ⟨gb, t, none⟩ = some (.bool false) := by rw [blk_cell HG.out, flags_get g t (by omega), hgt]
                      have HGT := Lib.hid hgt
                      clear hgt
                      have hst : still r g t = true := by unfold still; simp [htr, HGT.out]
                      obtain ⟨t1, t2⟩ := thru_endRead (th := th) (t := t) (by omega) h2 h48 HW.out.rep hst
                      obtain ⟨hne, htw12⟩ := HW.out.twelve hr15 htr HGT.out t2
                      have HTW := Lib.hid htw12
                      obtain ⟨wd, hdw, _⟩ := HW.out.on hne
                      have hov : l.over = false := over_of hdw.at_ (by omega)
                      have HDN := Lib.hid (show Calls Try.prog 17 #[.pointer (some ⟨bw, 0, none⟩)] wr fun e w' => e = .returned (.bool false) ∧ w' = wr from by have := done_calls bw l wr HLC.out.l; rw [hov] at this; exact this)
                      have sl1 : IntKind.i64.wrap ((left : Int) - 1) = ((left - 1 : Nat) : Int) := by rw [IntKind.wrap_i64]; omega
                      clear hst t2 hne htw12 hdw hov
                      go_wp2_with (first
                        | (go_at_call 17; (with_reducible refine HDN.out.mono ?_); rintro e w7 ⟨rfl, rfl⟩)
                        | (go_at_call 18; (with_reducible refine (HER.out 2 t _).mono ?_); rintro e w7 ⟨rfl, hl7, hf7⟩
                           have hlc7 := LC.of hl7 (HLC.out.s.frame hf7 (fun x => x) (fun x => x))
                           have HTH := through_calls _ _ _ _ s w7 hlc7 ⟨by show (0 : Int) ≤ 0; omega, by show (0 : Int) ≤ 7; omega⟩
                           rw [t1] at HTH
                           have HTT := Lib.hid HTH
                           clear hlc7 hl7 HTH t1 c0 c1 c2 c3 c4 c5 c6 c7 c8 c9 c10 c11)
                        | (go_at_call 13; (with_reducible refine HTT.out.mono ?_); rintro e w8 ⟨rfl, hlc8, hf8⟩
                           have hwr7 := hf7.size
                           have HG8 := Lib.hid ((hf7.heap HG.out (fun x => x) |> fun h => hf8.heap h (by unfold trio; omega) : w8.heap[gb]? = _))
                           have z8 : w8.frozen? ⟨gb, t, none⟩ = false := by rw [blk_free HG8.out]
                           have z9 : w8.cell? ⟨gb, t, none⟩ = some (.bool false) := by rw [blk_cell HG8.out, flags_get g t (by omega), HGT.out]
                           have HL8 := Lib.hid ((HLC.out.l.frame hf7 (fun x => x)).frame hf8 (by unfold trio; have := HLC.out.d1; have := HLC.out.d2; omega))
                           have HC8 := Lib.hid hlc8.s
                           have HB8 := Lib.hid ((HBX.out.frame hf7 (fun x => x)).frame hf8 (by unfold trio; omega))
                           have HF8 := Lib.hid ((HF.out.trans hf7).trans' hf8 (fun k hk hl => by unfold trio at hk; omega))
                           have hw8 := hf8.size
                           clear hlc8 hf8 hf7 HTT))
                      have hset := fr_set w8 gb t (.bool true)
                      have HGS := Lib.hid (show (w8.setCell ⟨gb, t, none⟩ (.bool true)).heap[gb]? = some (.cells (flags (setAt g t true)) 37 (0, 0)) from by rw [blk_set HG8.out, flags_set g t (by omega)])
                      have HLS := Lib.hid (LC.of (HL8.out.frame hset (by unfold lone1; omega)) (HC8.out.frame hset (by unfold lone1; omega) (by unfold lone1; omega)))
                      have HBS := Lib.hid (HB8.out.frame hset (by unfold lone1; omega))
                      have HFS := Lib.hid (HF8.out.trans' hset (fun k hk hl => by unfold lone1 at hk; omega))
                      have hws := hset.size
                      clear hset
                      generalize w8.setCell ⟨gb, t, none⟩ (.bool true) = w9 at *
                      generalize (thru 20 (LM.endRead (oneC th sl) 2 t) s).2.1 = s9 at *
                      go_loopw [20] (fun v20 wk => ∃ k : Nat, k ≤ 12 ∧ v20 = .int .i64 k ∧ LC wk bw (ab + 1) ab (runLM k l s9).1 (runLM k l s9).2 ∧ Fr (trio bw (ab + 1) ab) w9 wk) (fun v20 _ => 12 - (intOf v20).toNat)
                      case atStart => exact ⟨0, Nat.zero_le _, rfl, HLS.out, Fr.refl _ _⟩
                      case round =>
                        obtain ⟨k, hk, rfl, hlk, hfk⟩ := hrel
                        have HLK := Lib.hid hlk
                        have HFK := Lib.hid hfk
                        have HWD := Lib.hid (runLM_word k l s9 HW.out.word)
                        have HSU := Lib.hid (runLM_succ k l s9)
                        clear hlk hfk
                        by_cases hk12 : k < 12
                        · generalize (runLM k l s9).1 = lk at *
                          generalize (runLM k l s9).2 = sk at *
                          go_wp2_with (first
                            | (go_at_call 16; (with_reducible refine (step_calls _ _ _ lk sk _ HLK.out HWD.out).mono ?_); rintro e w10 ⟨rfl, h10, hf10⟩))
                          go_roundw
                          case rel => exact ⟨k + 1, by omega, by go_num, by rw [HSU.out]; exact h10, HFK.out.trans hf10⟩
                          case measure => simp [intOf]; omega
                        · obtain rfl : k = 12 := by omega
                          go_wp2
                          go_roundw
                          case rel => exact ⟨i + 1, left - 1, setAt g t true, _, _, by omega, by go_num, rfl, HFK.out.heap HGS.out (by unfold trio; omega), HLK.out, HTW.out, fun u hu hui => by
                            unfold setAt
                            by_cases e : u = t
                            · rw [if_pos e]
                            · rw [if_neg e]
                              by_cases e2 : u + n < i
                              · exact HGN.out u hu e2
                              · have := HTI.out (by omega)
                                omega, HBS.out.frame HFK.out (by unfold trio; omega), HFS.out.trans' HFK.out (fun k hk hl => by unfold trio at hk; omega)⟩
                          case measure => simp [intOf]; omega
                · exfalso
                  obtain rfl : i = n + r := by omega
                  refine hl0 ?_
                  rw [HW.out.cnt, cntTo_zero]
                  intro u _ _
                  unfold still
                  by_cases hu : u < r
                  · rw [HGN.out u hu (by omega)]; simp
                  · simp [hu]
          · have hrt' : decide ((r : Int) < tw) = false := by simp; omega
            go_upto_region 26 with (first
              | (go_at_call 17; (with_reducible refine HDD.out.mono ?_); rintro e w5 ⟨rfl, rfl⟩)
              | (go_at_call 14; (with_reducible refine (HRD.out 2 tl _).mono ?_); rintro e w6 ⟨rfl, hl6, hf6⟩
                 have HL6 := Lib.hid (LC.of (HLK.out.l.frame hf6 (fun x => x)) (HLK.out.s.frame hf6 (fun x => x) (fun x => x)))
                 have HB6 := Lib.hid (HBQ.out.frame hf6 (fun x => x))
                 have HF6 := Lib.hid (HFQ.out.trans hf6)
                 have HW6 := Lib.hid HW0.out
                 generalize s1' = s6 at *
                 clear hl6 hf6 c0 c1 c2 c3 c4 c5 c6 c7 c8 c9 c10 c11))
            have hw6 : bw < w6.heap.size := HL6.out.l.lt
            go_wp2
            have halloc := (Fr.refl (fun _ => False) w6).alloc (.cells (flags (fun _ => false)) 37)
            have HG0 := Lib.hid (show (w6.alloc (.cells (flags (fun _ => false)) 37)).heap[w6.heap.size]? = some (.cells (flags (fun _ => false)) 37 (0, 0)) from heap_alloc_new w6 _)
            have HL0 := Lib.hid (HL6.out.frame halloc (fun x => x) (fun x => x) (fun x => x))
            have HB0 := Lib.hid (HB6.out.frame halloc (fun x => x))
            have HFA := Lib.hid (HF6.out.trans halloc)
            clear halloc
            generalize hgg : w6.heap.size = gb at *
            clear hgg
            go_loopw [16, 18, 19, 20] (fun v16 v18 _ _ wr => ∃ (i left : Nat) (g : Nat → Bool) (l : LM) (s : CM), i ≤ n + r ∧ v18 = .int .i64 i ∧ v16 = .int .i64 left ∧ wr.heap[gb]? = some (.cells (flags g) 37 (0, 0)) ∧ LC wr bw (ab + 1) ab l s ∧ Wr l s th sl tw r g left ∧
              (∀ u, u < r → u + n < i → g u = true) ∧ BoxConf wr b1 (oneC th sl) ∧ Fr (fun _ => False) w wr) (fun _ v18 _ _ _ => n + r - (intOf v18).toNat)
            case atStart => exact ⟨0, r, fun _ => false, l1, s6, Nat.zero_le _, rfl, rfl, HG0.out, HL0.out, HW6.out, fun u _ h => absurd h (Nat.not_lt_zero _), HB0.out, HFA.out⟩
            case round =>
              obtain ⟨i, left, g, l, s, hi, rfl, rfl, hg, hlc, hw, hgn, hbx, hf⟩ := hrel
              have HG := Lib.hid hg
              have HLC := Lib.hid hlc
              have HW := Lib.hid hw
              have HGN := Lib.hid hgn
              have HBX := Lib.hid hbx
              have HF := Lib.hid hf
              have hgl : gb < wr.heap.size := blk_lt hg
              have hwsz := hf.size
              have hleft16 : left ≤ 16 := by rw [hw.cnt]; exact cntTo_le _ _ _
              obtain ⟨c0, c1, c2, c3, c4, c5, c6, c7, c8, c9, c10, c11⟩ := HALL.out _ _ hbx
              clear hg hlc hw hgn hbx hf
              by_cases hl0 : left = 0
              · subst hl0
                have hgot : l.got = true := (HW.out.out rfl).2
                have hown : s.word 1 = (th : Int) := HW.out.rep.owner
                have sn : IntKind.i64.wrap ((n : Int) + r) = (n : Int) + r := by rw [IntKind.wrap_i64]; omega
                have HFI := Lib.hid (first5_calls wr)
                clear c0 c1 c2 c3 c4 c5 c6 c7 c8 c9 c10 c11
                have HEND := fun w' (hf : Fr (fun _ => False) wr w') => And.intro (got_calls bw l w' (HLC.out.l.frame hf (fun x => x))) (peek_calls (ab + 1) ab s 1 w' (HLC.out.s.frame hf (fun x => x) (fun x => x)))
                rw [hgot, hown] at HEND
                have HED := Lib.hid HEND
                clear HEND hgot hown
                go_wp2_with (first
                  | (go_at_call 9; (with_reducible refine HFI.out.mono ?_); rintro e w11 ⟨rfl, hf11⟩
                     obtain ⟨c0, c1, c2, c3, c4, c5, c6, c7, c8, c9, c10, c11⟩ := HALL.out _ _ (HBX.out.frame hf11 (fun x => x)))
                  | (go_at_call 19; (with_reducible refine (HED.out _ hf11).1.mono ?_); rintro e w12 ⟨rfl, rfl⟩)
                  | (go_at_call 21; (with_reducible refine (HLA.out _).mono ?_); rintro e w13 ⟨rfl, hf13⟩; have hf14 := hf11.trans hf13)
                  | (go_at_call 20; (with_reducible refine (HED.out _ hf14).2.mono ?_); rintro e w15 ⟨rfl, rfl⟩))
                all_goals go_ret
                all_goals exact ⟨rfl, HF.out.trans hf14⟩
              · by_cases hin : i < n + r
                · have hlpos : decide ((0 : Int) < left) = true := by simp; omega
                  have hinn : decide ((i : Int) < (n : Int) + r) = true := by simp; omega
                  have sn : IntKind.i64.wrap ((n : Int) + r) = (n : Int) + r := by rw [IntKind.wrap_i64]; omega
                  by_cases hn : i < n
                  · obtain ⟨ad, rfl, hcell⟩ := H.out.at_ (by omega)
                    have q0 := HF.out.cell (hcell i hn) (fun x => x)
                    have sx : IntKind.i64.wrap ((i : Int) - n) = (i : Int) - n := by rw [IntKind.wrap_i64]; omega
                    clear hcell
                    generalize xs.getD i 0 = x at q0
                    by_cases hx0 : x < 0
                    · have x0 : decide (x < 0) = true := by simpa using hx0
                      clear hx0
                      have hskip : True := trivial
                      go_wp2
                      go_roundw
                      case rel => exact ⟨i + 1, left, g, l, s, by omega, by go_num, rfl, HG.out, HLC.out, HW.out, fun u hu hui => HGN.out u hu (by omega), HBX.out, HF.out⟩
                      case measure => simp [intOf]; omega
                    · by_cases hxr : (r : Int) ≤ x
                      · have x0 : decide (x < 0) = false := by simpa using hx0
                        have x1 : decide ((r : Int) ≤ x) = true := by simpa using hxr
                        clear hx0 hxr
                        have hskip : True := trivial
                        go_wp2
                        go_roundw
                        case rel => exact ⟨i + 1, left, g, l, s, by omega, by go_num, rfl, HG.out, HLC.out, HW.out, fun u hu hui => HGN.out u hu (by omega), HBX.out, HF.out⟩
                        case measure => simp [intOf]; omega
                      · obtain ⟨t, rfl⟩ := Int.eq_ofNat_of_zero_le (show 0 ≤ x by omega)
                        have htr : t < r := by omega
                        have x0 : decide ((t : Int) < 0) = false := by simp
                        have x1 : decide ((r : Int) ≤ t) = false := by simp; omega
                        have HTI := Lib.hid (show n ≤ i → t = i - n from fun h => by omega)
                        clear hx0 hxr
                        cases hgt : g t with
                        | true =>
                          have z0 : wr.cell? ⟨gb, t, none⟩ = some (.bool true) := by rw [blk_cell HG.out, flags_get g t (by omega), hgt]
                          go_wp2
                          go_roundw
                          case rel => exact ⟨i + 1, left, g, l, s, by omega, by go_num, rfl, HG.out, HLC.out, HW.out, fun u hu hui => by
                            by_cases e : u + n < i
                            · exact HGN.out u hu e
                            · have := HTI.out (by omega)
                              obtain rfl : u = t := by omega
                              exact hgt, HBX.out, HF.out⟩
                          case measure => simp [intOf]; omega
                        | false =>
                          have z0 : wr.cell? ⟨gb, t, none⟩ = some (.bool false) := by rw [blk_cell HG.out, flags_get g t (by omega), hgt]
                          have HGT := Lib.hid hgt
                          clear hgt
                          have hst : still r g t = true := by unfold still; simp [htr, HGT.out]
                          obtain ⟨t1, t2⟩ := thru_endRead (th := th) (t := t) (by omega) h2 h48 HW.out.rep hst
                          obtain ⟨hne, htw12⟩ := HW.out.twelve hr15 htr HGT.out t2
                          have HTW := Lib.hid htw12
                          obtain ⟨wd, hdw, _⟩ := HW.out.on hne
                          have hov : l.over = false := over_of hdw.at_ (by omega)
                          have HDN := Lib.hid (show Calls Try.prog 17 #[.pointer (some ⟨bw, 0, none⟩)] wr fun e w' => e = .returned (.bool false) ∧ w' = wr from by have := done_calls bw l wr HLC.out.l; rw [hov] at this; exact this)
                          have sl1 : IntKind.i64.wrap ((left : Int) - 1) = ((left - 1 : Nat) : Int) := by rw [IntKind.wrap_i64]; omega
                          clear hst t2 hne htw12 hdw hov
                          go_wp2_with (first
                            | (go_at_call 17; (with_reducible refine HDN.out.mono ?_); rintro e w7 ⟨rfl, rfl⟩)
                            | (go_at_call 18; (with_reducible refine (HER.out 2 t _).mono ?_); rintro e w7 ⟨rfl, hl7, hf7⟩
                               have hlc7 := LC.of hl7 (HLC.out.s.frame hf7 (fun x => x) (fun x => x))
                               have HTH := through_calls _ _ _ _ s w7 hlc7 ⟨by show (0 : Int) ≤ 0; omega, by show (0 : Int) ≤ 7; omega⟩
                               rw [t1] at HTH
                               have HTT := Lib.hid HTH
                               clear hlc7 hl7 HTH t1 c0 c1 c2 c3 c4 c5 c6 c7 c8 c9 c10 c11)
                            | (go_at_call 13; (with_reducible refine HTT.out.mono ?_); rintro e w8 ⟨rfl, hlc8, hf8⟩
                               have hwr7 := hf7.size
                               have HG8 := Lib.hid ((hf7.heap HG.out (fun x => x) |> fun h => hf8.heap h (by unfold trio; omega) : w8.heap[gb]? = _))
                               have z8 : w8.frozen? ⟨gb, t, none⟩ = false := by rw [blk_free HG8.out]
                               have z9 : w8.cell? ⟨gb, t, none⟩ = some (.bool false) := by rw [blk_cell HG8.out, flags_get g t (by omega), HGT.out]
                               have HL8 := Lib.hid ((HLC.out.l.frame hf7 (fun x => x)).frame hf8 (by unfold trio; have := HLC.out.d1; have := HLC.out.d2; omega))
                               have HC8 := Lib.hid hlc8.s
                               have HB8 := Lib.hid ((HBX.out.frame hf7 (fun x => x)).frame hf8 (by unfold trio; omega))
                               have HF8 := Lib.hid ((HF.out.trans hf7).trans' hf8 (fun k hk hl => by unfold trio at hk; omega))
                               have hw8 := hf8.size
                               clear hlc8 hf8 hf7 HTT))
                          have hset := fr_set w8 gb t (.bool true)
                          have HGS := Lib.hid (show (w8.setCell ⟨gb, t, none⟩ (.bool true)).heap[gb]? = some (.cells (flags (setAt g t true)) 37 (0, 0)) from by rw [blk_set HG8.out, flags_set g t (by omega)])
                          have HLS := Lib.hid (LC.of (HL8.out.frame hset (by unfold lone1; omega)) (HC8.out.frame hset (by unfold lone1; omega) (by unfold lone1; omega)))
                          have HBS := Lib.hid (HB8.out.frame hset (by unfold lone1; omega))
                          have HFS := Lib.hid (HF8.out.trans' hset (fun k hk hl => by unfold lone1 at hk; omega))
                          have hws := hset.size
                          clear hset
                          generalize w8.setCell ⟨gb, t, none⟩ (.bool true) = w9 at *
                          generalize (thru 20 (LM.endRead (oneC th sl) 2 t) s).2.1 = s9 at *
                          go_loopw [20] (fun v20 wk => ∃ k : Nat, k ≤ 12 ∧ v20 = .int .i64 k ∧ LC wk bw (ab + 1) ab (runLM k l s9).1 (runLM k l s9).2 ∧ Fr (trio bw (ab + 1) ab) w9 wk) (fun v20 _ => 12 - (intOf v20).toNat)
                          case atStart => exact ⟨0, Nat.zero_le _, rfl, HLS.out, Fr.refl _ _⟩
                          case round =>
                            obtain ⟨k, hk, rfl, hlk, hfk⟩ := hrel
                            have HLK := Lib.hid hlk
                            have HFK := Lib.hid hfk
                            have HWD := Lib.hid (runLM_word k l s9 HW.out.word)
                            have HSU := Lib.hid (runLM_succ k l s9)
                            clear hlk hfk
                            by_cases hk12 : k < 12
                            · generalize (runLM k l s9).1 = lk at *
                              generalize (runLM k l s9).2 = sk at *
                              go_wp2_with (first
                                | (go_at_call 16; (with_reducible refine (step_calls _ _ _ lk sk _ HLK.out HWD.out).mono ?_); rintro e w10 ⟨rfl, h10, hf10⟩))
                              go_roundw
                              case rel => exact ⟨k + 1, by omega, by go_num, by rw [HSU.out]; exact h10, HFK.out.trans hf10⟩
                              case measure => simp [intOf]; omega
                            · obtain rfl : k = 12 := by omega
                              go_wp2
                              go_roundw
                              case rel => exact ⟨i + 1, left - 1, setAt g t true, _, _, by omega, by go_num, rfl, HFK.out.heap HGS.out (by unfold trio; omega), HLK.out, HTW.out, fun u hu hui => by
                                unfold setAt
                                by_cases e : u = t
                                · rw [if_pos e]
                                · rw [if_neg e]
                                  by_cases e2 : u + n < i
                                  · exact HGN.out u hu e2
                                  · have := HTI.out (by omega)
                                    omega, HBS.out.frame HFK.out (by unfold trio; omega), HFS.out.trans' HFK.out (fun k hk hl => by unfold trio at hk; omega)⟩
                              case measure => simp [intOf]; omega
                  · obtain ⟨t, ht⟩ : ∃ t, t = i - n := ⟨_, rfl⟩
                    have sx : IntKind.i64.wrap ((i : Int) - n) = (t : Int) := by rw [IntKind.wrap_i64]; omega
                    have hnn : decide ((i : Int) < n) = false := by simp; omega
                    have htr : t < r := by omega
                    have x0 : decide ((t : Int) < 0) = false := by simp
                    have x1 : decide ((r : Int) ≤ t) = false := by simp; omega
                    have HTI := Lib.hid (show n ≤ i → t = i - n from fun _ => ht)
                    clear ht
                    cases hgt : g t with
                    | true =>
                      have z0 : wr.cell? ⟨gb, t, none⟩ = some (.bool true) := by rw [blk_cell HG.out, flags_get g t (by omega), hgt]
                      go_wp2
                      go_roundw
                      case rel => exact ⟨i + 1, left, g, l, s, by omega, by go_num, rfl, HG.out, HLC.out, HW.out, fun u hu hui => by
                        by_cases e : u + n < i
                        · exact HGN.out u hu e
                        · have := HTI.out (by omega)
                          obtain rfl : u = t := by omega
                          exact hgt, HBX.out, HF.out⟩
                      case measure => simp [intOf]; omega
                    | false =>
                      have z0 : wr.cell? ⟨gb, t, none⟩ = some (.bool false) := by rw [blk_cell HG.out, flags_get g t (by omega), hgt]
                      have HGT := Lib.hid hgt
                      clear hgt
                      have hst : still r g t = true := by unfold still; simp [htr, HGT.out]
                      obtain ⟨t1, t2⟩ := thru_endRead (th := th) (t := t) (by omega) h2 h48 HW.out.rep hst
                      obtain ⟨hne, htw12⟩ := HW.out.twelve hr15 htr HGT.out t2
                      have HTW := Lib.hid htw12
                      obtain ⟨wd, hdw, _⟩ := HW.out.on hne
                      have hov : l.over = false := over_of hdw.at_ (by omega)
                      have HDN := Lib.hid (show Calls Try.prog 17 #[.pointer (some ⟨bw, 0, none⟩)] wr fun e w' => e = .returned (.bool false) ∧ w' = wr from by have := done_calls bw l wr HLC.out.l; rw [hov] at this; exact this)
                      have sl1 : IntKind.i64.wrap ((left : Int) - 1) = ((left - 1 : Nat) : Int) := by rw [IntKind.wrap_i64]; omega
                      clear hst t2 hne htw12 hdw hov
                      go_wp2_with (first
                        | (go_at_call 17; (with_reducible refine HDN.out.mono ?_); rintro e w7 ⟨rfl, rfl⟩)
                        | (go_at_call 18; (with_reducible refine (HER.out 2 t _).mono ?_); rintro e w7 ⟨rfl, hl7, hf7⟩
                           have hlc7 := LC.of hl7 (HLC.out.s.frame hf7 (fun x => x) (fun x => x))
                           have HTH := through_calls _ _ _ _ s w7 hlc7 ⟨by show (0 : Int) ≤ 0; omega, by show (0 : Int) ≤ 7; omega⟩
                           rw [t1] at HTH
                           have HTT := Lib.hid HTH
                           clear hlc7 hl7 HTH t1 c0 c1 c2 c3 c4 c5 c6 c7 c8 c9 c10 c11)
                        | (go_at_call 13; (with_reducible refine HTT.out.mono ?_); rintro e w8 ⟨rfl, hlc8, hf8⟩
                           have hwr7 := hf7.size
                           have HG8 := Lib.hid ((hf7.heap HG.out (fun x => x) |> fun h => hf8.heap h (by unfold trio; omega) : w8.heap[gb]? = _))
                           have z8 : w8.frozen? ⟨gb, t, none⟩ = false := by rw [blk_free HG8.out]
                           have z9 : w8.cell? ⟨gb, t, none⟩ = some (.bool false) := by rw [blk_cell HG8.out, flags_get g t (by omega), HGT.out]
                           have HL8 := Lib.hid ((HLC.out.l.frame hf7 (fun x => x)).frame hf8 (by unfold trio; have := HLC.out.d1; have := HLC.out.d2; omega))
                           have HC8 := Lib.hid hlc8.s
                           have HB8 := Lib.hid ((HBX.out.frame hf7 (fun x => x)).frame hf8 (by unfold trio; omega))
                           have HF8 := Lib.hid ((HF.out.trans hf7).trans' hf8 (fun k hk hl => by unfold trio at hk; omega))
                           have hw8 := hf8.size
                           clear hlc8 hf8 hf7 HTT))
                      have hset := fr_set w8 gb t (.bool true)
                      have HGS := Lib.hid (show (w8.setCell ⟨gb, t, none⟩ (.bool true)).heap[gb]? = some (.cells (flags (setAt g t true)) 37 (0, 0)) from by rw [blk_set HG8.out, flags_set g t (by omega)])
                      have HLS := Lib.hid (LC.of (HL8.out.frame hset (by unfold lone1; omega)) (HC8.out.frame hset (by unfold lone1; omega) (by unfold lone1; omega)))
                      have HBS := Lib.hid (HB8.out.frame hset (by unfold lone1; omega))
                      have HFS := Lib.hid (HF8.out.trans' hset (fun k hk hl => by unfold lone1 at hk; omega))
                      have hws := hset.size
                      clear hset
                      generalize w8.setCell ⟨gb, t, none⟩ (.bool true) = w9 at *
                      generalize (thru 20 (LM.endRead (oneC th sl) 2 t) s).2.1 = s9 at *
                      go_loopw [20] (fun v20 wk => ∃ k : Nat, k ≤ 12 ∧ v20 = .int .i64 k ∧ LC wk bw (ab + 1) ab (runLM k l s9).1 (runLM k l s9).2 ∧ Fr (trio bw (ab + 1) ab) w9 wk) (fun v20 _ => 12 - (intOf v20).toNat)
                      case atStart => exact ⟨0, Nat.zero_le _, rfl, HLS.out, Fr.refl _ _⟩
                      case round =>
                        obtain ⟨k, hk, rfl, hlk, hfk⟩ := hrel
                        have HLK := Lib.hid hlk
                        have HFK := Lib.hid hfk
                        have HWD := Lib.hid (runLM_word k l s9 HW.out.word)
                        have HSU := Lib.hid (runLM_succ k l s9)
                        clear hlk hfk
                        by_cases hk12 : k < 12
                        · generalize (runLM k l s9).1 = lk at *
                          generalize (runLM k l s9).2 = sk at *
                          go_wp2_with (first
                            | (go_at_call 16; (with_reducible refine (step_calls _ _ _ lk sk _ HLK.out HWD.out).mono ?_); rintro e w10 ⟨rfl, h10, hf10⟩))
                          go_roundw
                          case rel => exact ⟨k + 1, by omega, by go_num, by rw [HSU.out]; exact h10, HFK.out.trans hf10⟩
                          case measure => simp [intOf]; omega
                        · obtain rfl : k = 12 := by omega
                          go_wp2
                          go_roundw
                          case rel => exact ⟨i + 1, left - 1, setAt g t true, _, _, by omega, by go_num, rfl, HFK.out.heap HGS.out (by unfold trio; omega), HLK.out, HTW.out, fun u hu hui => by
                            unfold setAt
                            by_cases e : u = t
                            · rw [if_pos e]
                            · rw [if_neg e]
                              by_cases e2 : u + n < i
                              · exact HGN.out u hu e2
                              · have := HTI.out (by omega)
                                omega, HBS.out.frame HFK.out (by unfold trio; omega), HFS.out.trans' HFK.out (fun k hk hl => by unfold trio at hk; omega)⟩
                          case measure => simp [intOf]; omega
                · exfalso
                  obtain rfl : i = n + r := by omega
                  refine hl0 ?_
                  rw [HW.out.cnt, cntTo_zero]
                  intro u _ _
                  unfold still
                  by_cases hu : u < r
                  · rw [HGN.out u hu (by omega)]; simp
                  · simp [hu]

theorem readers_walk (th sl r : Int) (A : Option Addr) (n c : Nat) (xs : List Int) (w : World) (_ : (Lit.int .i64 th).wf = true) (_ : (Lit.int .i64 sl).wf = true) (_ : (Lit.int .i64 r).wf = true) (h : IntsIn w A n xs) :
    Calls Try.prog 3 #[.int .i64 th, .int .i64 sl, .int .i64 r, .slice A n c] w fun e w' => e = .returned (.bool true) ∧ Fr (fun _ => False) w w' := by
  by_cases hb : th < 2 ∨ 16 < th ∨ sl < 0 ∨ 16 < sl ∨ r < 0 ∨ th ≤ r ∨ 100 < n
  · exact readers_bad th sl r A n c w hb
  · obtain ⟨th, rfl⟩ := Int.eq_ofNat_of_zero_le (show 0 ≤ th by omega)
    obtain ⟨sl, rfl⟩ := Int.eq_ofNat_of_zero_le (show 0 ≤ sl by omega)
    obtain ⟨r, rfl⟩ := Int.eq_ofNat_of_zero_le (show 0 ≤ r by omega)
    exact readers_main th (th - 1) (th - 2) sl r A n c xs w h (by omega) (by omega) (by omega) (by omega) (by omega) (by omega)
end Go.Proofs.Yteopldhcmddokaa
