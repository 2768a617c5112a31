/- ltklaw20.JudgeAhead answers true. -/
import Derived.Test.YtkaokhpaabfhmaaJ2
namespace Go.Proofs.Ytkaokhpaabfhmaa
open Go.RowKit

def kd (n : Nat) : Int := 1 + (n : Int) % 6
def MT (th th1 : Int) : Nat → List T3
  | 0 => []
  | n + 1 => MT th th1 n ++ [(kd n, th1, (n : Int)), (5, th, 0)]
def LT (th th1 tr : Int) (n : Nat) : List T3 := (1, th, tr) :: MT th th1 n
theorem LT_succ (th th1 tr : Int) (n : Nat) : LT th th1 tr (n + 1) = LT th th1 tr n ++ [(kd n, th1, (n : Int)), (5, th, 0)] := rfl
theorem MT_len (th th1 : Int) : ∀ n, (MT th th1 n).length = 2 * n
  | 0 => rfl
  | n + 1 => by unfold MT; rw [List.length_append, MT_len th th1 n]; show 2 * n + 2 = _; omega
theorem LT_len (th th1 tr : Int) (n : Nat) : (LT th th1 tr n).length = 2 * n + 1 := by unfold LT; rw [List.length_cons, MT_len]
theorem mem_MT {th th1 : Int} {t : T3} : ∀ n, t ∈ MT th th1 n → (∃ j, t = (kd j, th1, (j : Int))) ∨ t = (5, th, 0)
  | n + 1, h => by
    unfold MT at h
    rcases List.mem_append.1 h with h | h
    · exact mem_MT n h
    · simp only [List.mem_cons, List.not_mem_nil, or_false] at h
      rcases h with rfl | rfl
      · exact .inl ⟨_, rfl⟩
      · exact .inr rfl
theorem next_ne (th : Int) (_h : I64 th) : wrap64 (th + 1) ≠ th := by unfold wrap64; omega
theorem MT_skip {th th1 : Int} (hne : th1 ≠ th) {n : Nat} : ∀ t ∈ MT th th1 n, t.2.1 ≠ th ∨ t.1 = 5 := by
  intro t ht
  rcases mem_MT n ht with ⟨j, rfl⟩ | rfl
  · exact .inl hne
  · exact .inr rfl
/-- Is it kept? -/
def keepT (th : Int) (t : T3) : Bool := t.1 != 2 || t.2.1 == th
theorem mine_eq {th th1 tr : Int} {n : Nat} : (LT th th1 tr n ++ [(2, th, tr)]).filter (keepT th) = (1, th, tr) :: (MT th th1 n).filter (keepT th) ++ [(2, th, tr)] := by
  unfold LT
  rw [List.filter_append, List.filter_cons_of_pos (by rfl), List.filter_cons_of_pos (by unfold keepT; simp), List.filter_nil]
theorem mine_quiet {th th1 : Int} (hne : th1 ≠ th) {n : Nat} : ∀ t ∈ (MT th th1 n).filter (keepT th), quietT th t := by
  intro t ht
  obtain ⟨h1, h2⟩ := List.mem_filter.1 ht
  rcases mem_MT n h1 with ⟨j, rfl⟩ | rfl
  · refine ⟨?_, .inl hne⟩
    unfold keepT at h2
    simp only [Bool.or_eq_true, bne_iff_ne, ne_eq, beq_iff_eq] at h2
    rcases h2 with h2 | h2
    · exact h2
    · exact absurd h2 hne
  · exact ⟨show (5 : Int) ≠ 2 by decide, .inr rfl⟩

theorem own_eq {b n c k : Nat} (h : (Value.slice (some ⟨b, 0, none⟩) n c).ownBlock = some k) : b = k := by injection h
theorem own_ge {m b n c k : Nat} (h : (Value.slice (some ⟨b, 0, none⟩) n c).ownBlock = some k) (hb : m ≤ b) : m ≤ k := by
  have h2 : b = k := by injection h
  omega

set_option maxRecDepth 100000 in
set_option maxHeartbeats 2000000 in
theorem aheadRow_far (th tr n : Int) (b : Bool) (w : World) (hn : decide (n < 0) = true ∨ (decide (n < 0) = false ∧ decide (100 < n) = true)) :
    Calls Try.prog 6 #[.int .i64 th, .int .i64 tr, .int .i64 n, .bool b] w fun e w' => e = .returned (.bool true) ∧ Fr (fun _ => False) w w' := by
  rcases hn with h1 | ⟨h1, h2⟩
  all_goals
    have hk := Fr.refl (fun _ => False) w
    go_enter Try.func6, Try.ntmps6
    go_wp2_with (go_at_call 7; (with_reducible refine (first20_calls _).mono ?_); rintro ex w1 ⟨rfl, hf1⟩; replace hk := hk.trans hf1; clear hf1)
    go_ret
    exact ⟨rfl, hk⟩

set_option maxRecDepth 100000 in
set_option maxHeartbeats 8000000 in
theorem aheadRow_near (th tr : Int) (n : Nat) (b : Bool) (w : World) (hn : n ≤ 100) (ht : I64 th) (hr : I64 tr) :
    Calls Try.prog 6 #[.int .i64 th, .int .i64 tr, .int .i64 n, .bool b] w fun e w' => e = .returned (.bool true) ∧ Fr (fun _ => False) w w' := by
  have h1 : decide ((n : Int) < 0) = false := by simp
  have h2 : decide (100 < (n : Int)) = false := by simp; omega
  have HT := Lib.hid ht
  have HRR := Lib.hid hr
  clear ht hr
  go_enter Try.func6, Try.ntmps6
  go_wp2_with (go_at_call 7; (with_reducible refine (first20_calls _).mono ?_); rintro ex w1 ⟨rfl, hf1⟩)
  have hb1s := hf1.size
  have HF1 := Lib.hid hf1
  clear hf1 h1 h2
  go_loopw [9, 10] (fun v9 v10 wr => ∃ i : Nat, i ≤ n ∧ v10 = .int .i64 i ∧ EvN w1.heap.size wr v9 (LT th (wrap64 (th + 1)) tr i) ∧ Fr (fun k => w1.heap.size ≤ k) w1 wr) (fun _ v10 _ => n - (intOf v10).toNat)
  case atStart => exact ⟨0, Nat.zero_le _, rfl, EvN.blk (ts := LT th (wrap64 (th + 1)) tr 0) (heap_alloc_new w1 _) rfl (Nat.le_refl _) (by show 1 ≤ 1000; omega), (Fr.refl _ w1).alloc _⟩
  case round =>
    obtain ⟨i, hi, rfl, ho, hf⟩ := hrel
    obtain ⟨A9, c9, rfl, _⟩ := ho.shape
    have HO := Lib.hid ho
    have HF := Lib.hid hf
    have hsz := hf.size
    have hll := LT_len th (wrap64 (th + 1)) tr i
    clear ho hf
    by_cases hlt : i < n
    · have HNW := Lib.hid (EvN.blk (B := 0) (ts := [(kd i, wrap64 (th + 1), (i : Int)), (5, th, 0)]) (heap_alloc_new wr (.cells #[.int .i64 (1 + (i : Int) % 6), .int .i64 (wrap64 (th + 1)), .int .i64 0, .int .i64 i, .int .i64 0, .int .i64 0, .int .i64 0, .slice none 0 0, .slice none 0 0, .slice none 0 0, .int .i64 5, .int .i64 th, .int .i64 0, .int .i64 0, .int .i64 0, .int .i64 0, .int .i64 0, .slice none 0 0, .slice none 0 0, .slice none 0 0] 50)) rfl (Nat.zero_le _) (by show 2 ≤ 1000; omega))
      have HOA := Lib.hid (HO.out.frameF ((Fr.refl (fun _ => False) wr).alloc (.cells #[.int .i64 (1 + (i : Int) % 6), .int .i64 (wrap64 (th + 1)), .int .i64 0, .int .i64 i, .int .i64 0, .int .i64 0, .int .i64 0, .slice none 0 0, .slice none 0 0, .slice none 0 0, .int .i64 5, .int .i64 th, .int .i64 0, .int .i64 0, .int .i64 0, .int .i64 0, .int .i64 0, .slice none 0 0, .slice none 0 0, .slice none 0 0] 50)))
      have hlo : (LT th (wrap64 (th + 1)) tr i).length + 2 ≤ 1000000 := by omega
      generalize hL : (LT th (wrap64 (th + 1)) tr i).length = LN at *
      have HLN := Lib.hid hL
      clear hL hll
      go_wp2_with (at_builtin; refine append_evN _ rfl _ _ rfl w1.heap.size _ _ rfl HOA.out _ 2 2 _ 0 rfl HNW.out rfl ?qa ?qb ?_)
      case qa => rw [HLN.out]; exact hlo
      case qb => simp; omega
      intro v9 w5 ho5 hf5
      have HO5 := Lib.hid ho5
      have HF5 := Lib.hid hf5
      clear ho5 hf5
      go_wp2
      go_roundw
      case rel => exact ⟨i + 1, by omega, by go_num, HO5.out, (HF.out.alloc _).trans (HF5.out.mono (fun k hk => (HOA.out.lt hk).1))⟩
      case measure => simp [intOf]; omega
    · obtain rfl : i = n := by omega
      clear hlt
      have HXW := Lib.hid (heap_alloc_new wr (.cells #[.int .i64 2, .int .i64 th, .int .i64 0, .int .i64 tr, .int .i64 0, .int .i64 0, .int .i64 0, .slice none 0 0, .slice none 0 0, .slice none 0 0] 50))
      have HLW := Lib.hid (fun w' (hf : Fr (fun _ => False) (wr.alloc (.cells #[.int .i64 2, .int .i64 th, .int .i64 0, .int .i64 tr, .int .i64 0, .int .i64 0, .int .i64 0, .slice none 0 0, .slice none 0 0, .slice none 0 0] 50)) w') => HO.out.frameF (((Fr.refl (fun _ => False) wr).alloc (.cells #[.int .i64 2, .int .i64 th, .int .i64 0, .int .i64 tr, .int .i64 0, .int .i64 0, .int .i64 0, .slice none 0 0, .slice none 0 0, .slice none 0 0] 50)).trans hf))
      have HFW := Lib.hid (show Fr (fun _ => False) w (wr.alloc (.cells #[.int .i64 2, .int .i64 th, .int .i64 0, .int .i64 tr, .int .i64 0, .int .i64 0, .int .i64 0, .slice none 0 0, .slice none 0 0, .slice none 0 0] 50)) from (HF1.out.trans' HF.out (fun k x y => by omega)).alloc (.cells #[.int .i64 2, .int .i64 th, .int .i64 0, .int .i64 tr, .int .i64 0, .int .i64 0, .int .i64 0, .slice none 0 0, .slice none 0 0, .slice none 0 0] 50))
      have HXB := Lib.hid (show wr.heap.size < (wr.alloc (.cells #[.int .i64 2, .int .i64 th, .int .i64 0, .int .i64 tr, .int .i64 0, .int .i64 0, .int .i64 0, .slice none 0 0, .slice none 0 0, .slice none 0 0] 50)).heap.size by simp)
      have HOB := Lib.hid (fun g (hg : (Value.slice A9 (LT th (wrap64 (th + 1)) tr i).length c9).ownBlock = some g) => show g ≠ wr.heap.size from by have := HO.out.lt hg; omega)
      generalize hL : (LT th (wrap64 (th + 1)) tr i).length = LN at *
      have HLN := Lib.hid hL
      have HLB := Lib.hid (show LN ≤ 201 by omega)
      have hxw : w.heap.size ≤ wr.heap.size := by omega
      clear hL hll HO HF hsz
      go_upto_region 11 with fail
      generalize hxb : wr.heap.size = xb at *
      generalize wr.alloc (.cells #[.int .i64 2, .int .i64 th, .int .i64 0, .int .i64 tr, .int .i64 0, .int .i64 0, .int .i64 0, .slice none 0 0, .slice none 0 0, .slice none 0 0] 50) = W at *
      clear hxb
      obtain ⟨x0, x1, x2, x3, x4, x5, x6, x7, x8, x9⟩ := box10 (w := W) (e := ⟨2, th, 0, tr, 0, 0, 0, [], [], []⟩) (x := .slice none 0 0) (y := .slice none 0 0) (z := .slice none 0 0) HXW.out
      dsimp only at x0 x1 x2 x3 x4 x5 x6
      obtain ⟨z0, z1, z2, z3, z4, z5, z6, z7, z8, z9⟩ := box10 (w := W.alloc (.cells #[] 50)) (e := ⟨2, th, 0, tr, 0, 0, 0, [], [], []⟩) (x := .slice none 0 0) (y := .slice none 0 0) (z := .slice none 0 0) (blk_alloc HXW.out (.cells #[] 50))
      dsimp only at z0 z1 z2 z3 z4 z5 z6
      go_upto_region 11 with fail
      go_cut [12] from 50 to 55 (fun v wx => ∃ A c, v = .slice A (LN + 1) c ∧ EvN W.heap.size wx (.slice A (LN + 1) c) ((LT th (wrap64 (th + 1)) tr i) ++ [(2, th, tr)]) ∧ Fr (fun _ => False) W wx)
      case first =>
        go_region_law (first
          | (refine step_evN _ (by rfl) (.tmp 50) (.tmp 51) (by rfl) W.heap.size _ [] (by rfl) (by first | exact EvN.blk (ts := []) (heap_alloc_new W _) rfl (Nat.le_refl _) (by decide) | exact EvN.blk (ts := []) (heap_alloc2_old W _ _) rfl (Nat.le_refl _) (by decide) | exact EvN.blk (ts := []) (heap_alloc2_new W _ _) rfl (Nat.le_succ _) (by decide)) _ _ _ (LT th (wrap64 (th + 1)) tr i) w1.heap.size (by rfl) (by first | exact HLW.out _ ((Fr.refl (fun _ => False) W).alloc _).drew | exact HLW.out _ (((Fr.refl (fun _ => False) W).alloc _).alloc _).drew) HLN.out (by have := HLB.out; simp; omega) (by first | (show W.heap.size ≤ _; simp; done) | (simp; omega)) ?_
             rintro v5 w5 ho5 hf5
             rw [List.nil_append] at ho5
             have g5 : Fr (fun k => W.heap.size ≤ k) W w5 := by first | exact ((Fr.refl (fun k => W.heap.size ≤ k) W).alloc _).drew.trans (hf5.mono (fun k hk => own_ge hk (by first | exact Nat.le_refl _ | exact Nat.le_succ _))) | exact (((Fr.refl (fun k => W.heap.size ≤ k) W).alloc _).alloc _).drew.trans (hf5.mono (fun k hk => own_ge hk (by first | exact Nat.le_refl _ | exact Nat.le_succ _)))
             obtain ⟨y0, y1, y2, y3, y4, y5, y6, y7, y8, y9⟩ := box10 (w := w5) (e := ⟨2, th, 0, tr, 0, 0, 0, [], [], []⟩) (x := .slice none 0 0) (y := .slice none 0 0) (z := .slice none 0 0) (g5.fresh'.heap HXW.out (fun x => x))
             dsimp only at y0 y1 y2 y3 y4 y5 y6)
          | (refine step_evN _ (by rfl) (.tmp 52) (.tmp 54) (by rfl) W.heap.size _ (LT th (wrap64 (th + 1)) tr i) (by rfl) (by first | exact ho5 | exact ho5.frameF ((Fr.refl (fun _ => False) w5).alloc _)) _ 1 1 [(2, th, tr)] 0 (by rfl) (by first | exact EvN.blk (ts := [(2, th, tr)]) (heap_alloc_new w5 _) rfl (Nat.zero_le _) (show 1 ≤ 1000 by decide) | exact EvN.blk (ts := [(2, th, tr)]) (hf5.heap (heap_alloc2_new W _ _) (fun e => by have := own_eq e; omega)) rfl (Nat.zero_le _) (show 1 ≤ 1000 by decide) | exact EvN.blk (ts := [(2, th, tr)]) (hf5.heap (heap_alloc2_old W _ _) (fun e => by have := own_eq e; omega)) rfl (Nat.zero_le _) (show 1 ≤ 1000 by decide)) rfl (by rw [HLN.out]; have := HLB.out; omega) (by have := g5.size; first | exact this | (simp; omega)) ?_
             rintro v6 w6 ho6 hf6
             have g6 : Fr (fun k => W.heap.size ≤ k) W w6 := by first | exact g5.trans (hf6.mono (fun k hk => (ho5.lt hk).1)) | exact (g5.alloc _).trans (hf6.mono (fun k hk => (ho5.lt hk).1))))
        all_goals
          go_wp2
          go_meet
          case rel =>
            obtain ⟨A6, c6, rfl, _⟩ := ho6.shape
            rw [List.length_append, HLN.out]
            rw [List.length_append, HLN.out] at ho6
            exact ⟨A6, c6, rfl, ho6, g6.fresh'⟩
      case rest =>
        obtain ⟨A12, c12, rfl, ho12, hf12⟩ := hcut
        rename World => wA
        clear x0 x1 x2 x3 x4 x5 x6 x7 x8 x9 z0 z1 z2 z3 z4 z5 z6 z7 z8 z9
        have HXwA := Lib.hid (hf12.heap HXW.out (fun x => x))
        have HKwA := Lib.hid ho12
        have HLwA := Lib.hid (HLW.out _ hf12)
        have HFwA := Lib.hid (HFW.out.trans hf12)
        have HBwA := Lib.hid (show xb < wA.heap.size from Nat.lt_of_lt_of_le HXB.out hf12.size)
        clear ho12 hf12
        obtain ⟨x0, x1, x2, x3, x4, x5, x6, x7, x8, x9⟩ := box10 (w := wA) (e := ⟨2, th, 0, tr, 0, 0, 0, [], [], []⟩) (x := .slice none 0 0) (y := .slice none 0 0) (z := .slice none 0 0) HXwA.out
        dsimp only at x0 x1 x2 x3 x4 x5 x6
        have f3 : wA.frozen? ⟨xb, 3, none⟩ = false := by rw [blk_free HXwA.out]
        go_upto_region 13 with fail
        have fS := (Fr.refl (fun k => k = xb) wA).setCell (p := ⟨xb, 3, none⟩) (.inl rfl) (.int .i64 (wrap64 (tr + 1)))
        have HXW2 := Lib.hid (show (wA.setCell ⟨xb, 3, none⟩ (.int .i64 (wrap64 (tr + 1)))).heap[xb]? = some (.cells #[.int .i64 2, .int .i64 th, .int .i64 0, .int .i64 (wrap64 (tr + 1)), .int .i64 0, .int .i64 0, .int .i64 0, .slice none 0 0, .slice none 0 0, .slice none 0 0] 50) by rw [blk_set HXwA.out]; rfl)
        have HLW2 := Lib.hid (fun w' (hf : Fr (fun _ => False) (wA.setCell ⟨xb, 3, none⟩ (.int .i64 (wrap64 (tr + 1)))) w') => ((HLwA.out).frame fS (fun g hg e => HOB.out g hg e)).frameF hf)
        have HFW2 := Lib.hid (show Fr (fun _ => False) w (wA.setCell ⟨xb, 3, none⟩ (.int .i64 (wrap64 (tr + 1)))) from HFwA.out.trans' fS (fun k x y => by omega))
        have HBW2 := Lib.hid (show xb < (wA.setCell ⟨xb, 3, none⟩ (.int .i64 (wrap64 (tr + 1)))).heap.size from Nat.lt_of_lt_of_le HBwA.out fS.size)
        have HKW2 := Lib.hid (fun w' (hf : Fr (fun _ => False) (wA.setCell ⟨xb, 3, none⟩ (.int .i64 (wrap64 (tr + 1)))) w') => ((HKwA.out).frame fS (fun g hg e => by have h1 := ((HKwA.out).lt hg).1; have h2 := HXB.out; omega)).frameF hf)
        generalize wA.setCell ⟨xb, 3, none⟩ (.int .i64 (wrap64 (tr + 1))) = W2 at *
        clear fS x0 x1 x2 x3 x4 x5 x6 x7 x8 x9 f3
        obtain ⟨x0, x1, x2, x3, x4, x5, x6, x7, x8, x9⟩ := box10 (w := W2) (e := ⟨2, th, 0, (wrap64 (tr + 1)), 0, 0, 0, [], [], []⟩) (x := .slice none 0 0) (y := .slice none 0 0) (z := .slice none 0 0) HXW2.out
        dsimp only at x0 x1 x2 x3 x4 x5 x6
        obtain ⟨z0, z1, z2, z3, z4, z5, z6, z7, z8, z9⟩ := box10 (w := W2.alloc (.cells #[] 50)) (e := ⟨2, th, 0, (wrap64 (tr + 1)), 0, 0, 0, [], [], []⟩) (x := .slice none 0 0) (y := .slice none 0 0) (z := .slice none 0 0) (blk_alloc HXW2.out (.cells #[] 50))
        dsimp only at z0 z1 z2 z3 z4 z5 z6
        go_upto_region 13 with fail
        go_cut [13] from 60 to 65 (fun v wx => ∃ A c, v = .slice A (LN + 1) c ∧ EvN W2.heap.size wx (.slice A (LN + 1) c) ((LT th (wrap64 (th + 1)) tr i) ++ [(2, th, (wrap64 (tr + 1)))]) ∧ Fr (fun _ => False) W2 wx)
        case first =>
          go_region_law (first
            | (refine step_evN _ (by rfl) (.tmp 60) (.tmp 61) (by rfl) W2.heap.size _ [] (by rfl) (by first | exact EvN.blk (ts := []) (heap_alloc_new W2 _) rfl (Nat.le_refl _) (by decide) | exact EvN.blk (ts := []) (heap_alloc2_old W2 _ _) rfl (Nat.le_refl _) (by decide) | exact EvN.blk (ts := []) (heap_alloc2_new W2 _ _) rfl (Nat.le_succ _) (by decide)) _ _ _ (LT th (wrap64 (th + 1)) tr i) w1.heap.size (by rfl) (by first | exact HLW2.out _ ((Fr.refl (fun _ => False) W2).alloc _).drew | exact HLW2.out _ (((Fr.refl (fun _ => False) W2).alloc _).alloc _).drew) HLN.out (by have := HLB.out; simp; omega) (by first | (show W2.heap.size ≤ _; simp; done) | (simp; omega)) ?_
               rintro v5 w5 ho5 hf5
               rw [List.nil_append] at ho5
               have g5 : Fr (fun k => W2.heap.size ≤ k) W2 w5 := by first | exact ((Fr.refl (fun k => W2.heap.size ≤ k) W2).alloc _).drew.trans (hf5.mono (fun k hk => own_ge hk (by first | exact Nat.le_refl _ | exact Nat.le_succ _))) | exact (((Fr.refl (fun k => W2.heap.size ≤ k) W2).alloc _).alloc _).drew.trans (hf5.mono (fun k hk => own_ge hk (by first | exact Nat.le_refl _ | exact Nat.le_succ _)))
               obtain ⟨y0, y1, y2, y3, y4, y5, y6, y7, y8, y9⟩ := box10 (w := w5) (e := ⟨2, th, 0, (wrap64 (tr + 1)), 0, 0, 0, [], [], []⟩) (x := .slice none 0 0) (y := .slice none 0 0) (z := .slice none 0 0) (g5.fresh'.heap HXW2.out (fun x => x))
               dsimp only at y0 y1 y2 y3 y4 y5 y6)
            | (refine step_evN _ (by rfl) (.tmp 62) (.tmp 64) (by rfl) W2.heap.size _ (LT th (wrap64 (th + 1)) tr i) (by rfl) (by first | exact ho5 | exact ho5.frameF ((Fr.refl (fun _ => False) w5).alloc _)) _ 1 1 [(2, th, (wrap64 (tr + 1)))] 0 (by rfl) (by first | exact EvN.blk (ts := [(2, th, (wrap64 (tr + 1)))]) (heap_alloc_new w5 _) rfl (Nat.zero_le _) (show 1 ≤ 1000 by decide) | exact EvN.blk (ts := [(2, th, (wrap64 (tr + 1)))]) (hf5.heap (heap_alloc2_new W2 _ _) (fun e => by have := own_eq e; omega)) rfl (Nat.zero_le _) (show 1 ≤ 1000 by decide) | exact EvN.blk (ts := [(2, th, (wrap64 (tr + 1)))]) (hf5.heap (heap_alloc2_old W2 _ _) (fun e => by have := own_eq e; omega)) rfl (Nat.zero_le _) (show 1 ≤ 1000 by decide)) rfl (by rw [HLN.out]; have := HLB.out; omega) (by have := g5.size; first | exact this | (simp; omega)) ?_
               rintro v6 w6 ho6 hf6
               have g6 : Fr (fun k => W2.heap.size ≤ k) W2 w6 := by first | exact g5.trans (hf6.mono (fun k hk => (ho5.lt hk).1)) | exact (g5.alloc _).trans (hf6.mono (fun k hk => (ho5.lt hk).1))))
          all_goals
            go_wp2
            go_meet
            case rel =>
              obtain ⟨A6, c6, rfl, _⟩ := ho6.shape
              rw [List.length_append, HLN.out]
              rw [List.length_append, HLN.out] at ho6
              exact ⟨A6, c6, rfl, ho6, g6.fresh'⟩
        case rest =>
          obtain ⟨A13, c13, rfl, ho13, hf13⟩ := hcut
          rename World => wB
          clear x0 x1 x2 x3 x4 x5 x6 x7 x8 x9 z0 z1 z2 z3 z4 z5 z6 z7 z8 z9
          have HXwB := Lib.hid (hf13.heap HXW2.out (fun x => x))
          have HKwB := Lib.hid (HKW2.out _ hf13)
          have HMwB := Lib.hid ho13
          have HLwB := Lib.hid (HLW2.out _ hf13)
          have HFwB := Lib.hid (HFW2.out.trans hf13)
          have HBwB := Lib.hid (show xb < wB.heap.size from Nat.lt_of_lt_of_le HBW2.out hf13.size)
          have HET := Lib.hid (show (wrap64 (wrap64 (tr + 1) - 1)) = tr by have h := HRR.out; unfold I64 at h; unfold wrap64; omega)
          clear ho13 hf13
          obtain ⟨x0, x1, x2, x3, x4, x5, x6, x7, x8, x9⟩ := box10 (w := wB) (e := ⟨2, th, 0, (wrap64 (tr + 1)), 0, 0, 0, [], [], []⟩) (x := .slice none 0 0) (y := .slice none 0 0) (z := .slice none 0 0) HXwB.out
          dsimp only at x0 x1 x2 x3 x4 x5 x6
          have f3 : wB.frozen? ⟨xb, 3, none⟩ = false := by rw [blk_free HXwB.out]
          go_upto_region 15 with fail
          have fS := (Fr.refl (fun k => k = xb) wB).setCell (p := ⟨xb, 3, none⟩) (.inl rfl) (.int .i64 (wrap64 (wrap64 (tr + 1) - 1)))
          have HXW3 := Lib.hid (show (wB.setCell ⟨xb, 3, none⟩ (.int .i64 (wrap64 (wrap64 (tr + 1) - 1)))).heap[xb]? = some (.cells #[.int .i64 2, .int .i64 th, .int .i64 0, .int .i64 (wrap64 (wrap64 (tr + 1) - 1)), .int .i64 0, .int .i64 0, .int .i64 0, .slice none 0 0, .slice none 0 0, .slice none 0 0] 50) by rw [blk_set HXwB.out]; rfl)
          have HLW3 := Lib.hid (fun w' (hf : Fr (fun _ => False) (wB.setCell ⟨xb, 3, none⟩ (.int .i64 (wrap64 (wrap64 (tr + 1) - 1)))) w') => ((HLwB.out).frame fS (fun g hg e => HOB.out g hg e)).frameF hf)
          have HFW3 := Lib.hid (show Fr (fun _ => False) w (wB.setCell ⟨xb, 3, none⟩ (.int .i64 (wrap64 (wrap64 (tr + 1) - 1)))) from HFwB.out.trans' fS (fun k x y => by omega))
          have HBW3 := Lib.hid (show xb < (wB.setCell ⟨xb, 3, none⟩ (.int .i64 (wrap64 (wrap64 (tr + 1) - 1)))).heap.size from Nat.lt_of_lt_of_le HBwB.out fS.size)
          have HKW3 := Lib.hid (fun w' (hf : Fr (fun _ => False) (wB.setCell ⟨xb, 3, none⟩ (.int .i64 (wrap64 (wrap64 (tr + 1) - 1)))) w') => ((HKwB.out).frame fS (fun g hg e => by have h1 := ((HKwB.out).lt hg).1; have h2 := HXB.out; omega)).frameF hf)
          have HMW3 := Lib.hid (fun w' (hf : Fr (fun _ => False) (wB.setCell ⟨xb, 3, none⟩ (.int .i64 (wrap64 (wrap64 (tr + 1) - 1)))) w') => ((HMwB.out).frame fS (fun g hg e => by have h1 := ((HMwB.out).lt hg).1; have h2 := HBW2.out; omega)).frameF hf)
          generalize wB.setCell ⟨xb, 3, none⟩ (.int .i64 (wrap64 (wrap64 (tr + 1) - 1))) = W3 at *
          clear fS x0 x1 x2 x3 x4 x5 x6 x7 x8 x9 f3
          rw [HET.out] at HXW3
          obtain ⟨x0, x1, x2, x3, x4, x5, x6, x7, x8, x9⟩ := box10 (w := W3) (e := ⟨2, th, 0, tr, 0, 0, 0, [], [], []⟩) (x := .slice none 0 0) (y := .slice none 0 0) (z := .slice none 0 0) HXW3.out
          dsimp only at x0 x1 x2 x3 x4 x5 x6
          obtain ⟨z0, z1, z2, z3, z4, z5, z6, z7, z8, z9⟩ := box10 (w := W3.alloc (.cells #[] 50)) (e := ⟨2, th, 0, tr, 0, 0, 0, [], [], []⟩) (x := .slice none 0 0) (y := .slice none 0 0) (z := .slice none 0 0) (blk_alloc HXW3.out (.cells #[] 50))
          dsimp only at z0 z1 z2 z3 z4 z5 z6
          go_upto_region 15 with fail
          go_cut [14] from 70 to 78 (fun v wx => ∃ A c, v = .slice A (LN + 2) c ∧ EvN W3.heap.size wx (.slice A (LN + 2) c) ((LT th (wrap64 (th + 1)) tr i) ++ [(3, th, tr), (2, th, tr)]) ∧ Fr (fun _ => False) W3 wx)
          case first =>
            go_region_law (first
              | (refine step_evN _ (by rfl) (.tmp 70) (.tmp 71) (by rfl) W3.heap.size _ [] (by rfl) (by first | exact EvN.blk (ts := []) (heap_alloc_new W3 _) rfl (Nat.le_refl _) (by decide) | exact EvN.blk (ts := []) (heap_alloc2_old W3 _ _) rfl (Nat.le_refl _) (by decide) | exact EvN.blk (ts := []) (heap_alloc2_new W3 _ _) rfl (Nat.le_succ _) (by decide)) _ _ _ (LT th (wrap64 (th + 1)) tr i) w1.heap.size (by rfl) (by first | exact HLW3.out _ ((Fr.refl (fun _ => False) W3).alloc _).drew | exact HLW3.out _ (((Fr.refl (fun _ => False) W3).alloc _).alloc _).drew) HLN.out (by have := HLB.out; simp; omega) (by first | (show W3.heap.size ≤ _; simp; done) | (simp; omega)) ?_
                 rintro v5 w5 ho5 hf5
                 rw [List.nil_append] at ho5
                 have g5 : Fr (fun k => W3.heap.size ≤ k) W3 w5 := by first | exact ((Fr.refl (fun k => W3.heap.size ≤ k) W3).alloc _).drew.trans (hf5.mono (fun k hk => own_ge hk (by first | exact Nat.le_refl _ | exact Nat.le_succ _))) | exact (((Fr.refl (fun k => W3.heap.size ≤ k) W3).alloc _).alloc _).drew.trans (hf5.mono (fun k hk => own_ge hk (by first | exact Nat.le_refl _ | exact Nat.le_succ _)))
                 obtain ⟨y0, y1, y2, y3, y4, y5, y6, y7, y8, y9⟩ := box10 (w := w5) (e := ⟨2, th, 0, tr, 0, 0, 0, [], [], []⟩) (x := .slice none 0 0) (y := .slice none 0 0) (z := .slice none 0 0) (g5.fresh'.heap HXW3.out (fun x => x))
                 dsimp only at y0 y1 y2 y3 y4 y5 y6)
              | (refine step_evN _ (by rfl) (.tmp 72) (.tmp 77) (by rfl) W3.heap.size _ (LT th (wrap64 (th + 1)) tr i) (by rfl) (by first | exact ho5 | exact ho5.frameF ((Fr.refl (fun _ => False) w5).alloc _)) _ 2 2 [(3, th, tr), (2, th, tr)] 0 (by rfl) (by first | exact EvN.blk (ts := [(3, th, tr), (2, th, tr)]) (heap_alloc_new w5 _) rfl (Nat.zero_le _) (show 2 ≤ 1000 by decide) | exact EvN.blk (ts := [(3, th, tr), (2, th, tr)]) (hf5.heap (heap_alloc2_new W3 _ _) (fun e => by have := own_eq e; omega)) rfl (Nat.zero_le _) (show 2 ≤ 1000 by decide) | exact EvN.blk (ts := [(3, th, tr), (2, th, tr)]) (hf5.heap (heap_alloc2_old W3 _ _) (fun e => by have := own_eq e; omega)) rfl (Nat.zero_le _) (show 2 ≤ 1000 by decide)) rfl (by rw [HLN.out]; have := HLB.out; omega) (by have := g5.size; first | exact this | (simp; omega)) ?_
                 rintro v6 w6 ho6 hf6
                 have g6 : Fr (fun k => W3.heap.size ≤ k) W3 w6 := by first | exact g5.trans (hf6.mono (fun k hk => (ho5.lt hk).1)) | exact (g5.alloc _).trans (hf6.mono (fun k hk => (ho5.lt hk).1))))
            all_goals
              go_wp2
              go_meet
              case rel =>
                obtain ⟨A6, c6, rfl, _⟩ := ho6.shape
                rw [List.length_append, HLN.out]
                rw [List.length_append, HLN.out] at ho6
                exact ⟨A6, c6, rfl, ho6, g6.fresh'⟩
          case rest =>
            obtain ⟨A14, c14, rfl, ho14, hf14⟩ := hcut
            rename World => wC
            clear x0 x1 x2 x3 x4 x5 x6 x7 x8 x9 z0 z1 z2 z3 z4 z5 z6 z7 z8 z9
            have HK := Lib.hid (fun w' (hf : Fr (fun _ => False) wC w') => HKW3.out w' (hf14.trans hf))
            have HM := Lib.hid (fun w' (hf : Fr (fun _ => False) wC w') => HMW3.out w' (hf14.trans hf))
            have HN := Lib.hid (fun w' (hf : Fr (fun _ => False) wC w') => ho14.frameF hf)
            have HFC := Lib.hid (HFW3.out.trans hf14)
            clear ho14 hf14
            have hOL : ((LT th (wrap64 (th + 1)) tr i) ++ [(2, th, tr)]).length = LN + 1 := by rw [List.length_append, HLN.out]; rfl
            have HOL := Lib.hid hOL
            clear hOL
            have HMN := Lib.hid (mine_eq (th := th) (th1 := wrap64 (th + 1)) (tr := tr) (n := i))
            have HQ := Lib.hid (mine_quiet (th := th) (th1 := wrap64 (th + 1)) (next_ne th HT.out) (n := i))
            have HSK := Lib.hid (MT_skip (th := th) (th1 := wrap64 (th + 1)) (next_ne th HT.out) (n := i))
            have HA1 := Lib.hid (show aheadB ((((LT th (wrap64 (th + 1)) tr i) ++ [(2, th, tr)]).filter (keepT th)).map mkE) = true by rw [HMN.out]; exact ahead_mine HQ.out)
            have HA2 := Lib.hid (show aheadB (((LT th (wrap64 (th + 1)) tr i) ++ [(2, th, wrap64 (tr + 1))]).map mkE) = false from ahead_other HSK.out (next_ne tr HRR.out))
            have HA3 := Lib.hid (show aheadB (((LT th (wrap64 (th + 1)) tr i) ++ [(3, th, tr), (2, th, tr)]).map mkE) = false from ahead_amidst)
            have HML := Lib.hid (show (((LT th (wrap64 (th + 1)) tr i) ++ [(2, th, tr)]).filter (keepT th)).length ≤ 20000 from Nat.le_trans (List.length_filter_le _ _) (by rw [HOL.out]; have := HLB.out; omega))
            have HOX := Lib.hid (show ((LT th (wrap64 (th + 1)) tr i) ++ [(2, th, wrap64 (tr + 1))]).length ≤ 20000 by rw [List.length_append, HLN.out]; have := HLB.out; show LN + 1 ≤ 20000; omega)
            have HAX := Lib.hid (show ((LT th (wrap64 (th + 1)) tr i) ++ [(3, th, tr), (2, th, tr)]).length ≤ 20000 by rw [List.length_append, HLN.out]; have := HLB.out; show LN + 2 ≤ 20000; omega)
            generalize ((LT th (wrap64 (th + 1)) tr i) ++ [(2, th, tr)]) = OKL at *
            go_wp2
            go_loopw [15, 16] (fun v15 v16 wr => ∃ q : Nat, q ≤ LN + 1 ∧ v16 = .int .i64 q ∧ EvN wC.heap.size wr v15 ((OKL.take q).filter (keepT th)) ∧ Fr (fun k => wC.heap.size ≤ k) wC wr) (fun _ v16 _ => LN + 1 - (intOf v16).toNat)
            case atStart => exact ⟨0, Nat.zero_le _, rfl, EvN.nil _ _, Fr.refl _ _⟩
            case round =>
              obtain ⟨q, hq, rfl, ho, hf⟩ := hrel
              have HO := Lib.hid ho
              have HF := Lib.hid hf
              have hsz := hf.size
              have hff := hf.fresh'
              have hlb := HLB.out
              by_cases hlt : q < LN + 1
              · have hqo : q < OKL.length := by rw [HOL.out]; exact hlt
                obtain ⟨A, c, ev, _, _, hx⟩ := (HK.out _ hff).shape
                injection ev with ev1 ev2 ev3
                subst ev1
                clear ev2 ev3
                obtain ⟨ad, rfl, _, hcs⟩ := hx (by omega)
                obtain ⟨p0, p1, p2, p3, p4, p5, p6, p7, p8, p9⟩ := row_cells (e := mkE (OKL.getD q default)) hcs (fun j hj => cN_get OKL q j hqo hj)
                have HT1 := Lib.hid (show OKL.take (q + 1) = OKL.take q ++ [OKL.getD q default] by rw [List.take_add_one, List.getElem?_eq_getElem hqo, List.getD_eq_getElem?_getD, List.getElem?_eq_getElem hqo]; rfl)
                obtain ⟨t, htt⟩ : ∃ t, OKL.getD q default = t := ⟨_, rfl⟩
                rw [htt] at p0 p1 p2 p3 p4 p5 p6 HT1
                clear htt hcs hx ho hf hff
                obtain ⟨ta, tb, tc⟩ := t
                simp only [mkE] at p0 p1 p2 p3 p4 p5 p6
                have hm : ¬ LN + 1 ≤ q := by omega
                have hcase : (ta != 2) = true ∨ ((ta != 2) = false ∧ (tb == th) = true) ∨ ((ta != 2) = false ∧ (tb == th) = false) := by cases (ta != 2) <;> cases (tb == th) <;> simp
                have HSB := Lib.hid (EvN.blk (B := 0) (ts := [(ta, tb, tc)]) (heap_alloc_new wr (.cells #[.int .i64 ta, .int .i64 tb, .int .i64 0, .int .i64 tc, .int .i64 0, .int .i64 0, .int .i64 0, .slice none 0 0, .slice none 0 0, .slice none 0 0] 50)) rfl (Nat.zero_le _) (show 1 ≤ 1000 by decide))
                have HOA := Lib.hid (HO.out.frameF ((Fr.refl (fun _ => False) wr).alloc (.cells #[.int .i64 ta, .int .i64 tb, .int .i64 0, .int .i64 tc, .int .i64 0, .int .i64 0, .int .i64 0, .slice none 0 0, .slice none 0 0, .slice none 0 0] 50)))
                have HLQ := Lib.hid (show ((OKL.take q).filter (keepT th)).length + 1 ≤ 1000000 from by have h1 := List.length_filter_le (keepT th) (OKL.take q); rw [List.length_take] at h1; have := HLB.out; omega)
                rcases hcase with e1 | ⟨e1, e2⟩ | ⟨e1, e2⟩
                iterate 2
                  · have HKT := Lib.hid (show (OKL.take (q + 1)).filter (keepT th) = (OKL.take q).filter (keepT th) ++ [(ta, tb, tc)] by
                      rw [HT1.out, List.filter_append, List.filter_cons_of_pos (by unfold keepT; first | (rw [e1, e2]; rfl) | (rw [e1]; rfl)), List.filter_nil])
                    go_wp2_with (at_builtin; refine append_evN _ rfl _ _ rfl wC.heap.size _ _ rfl HOA.out _ 1 1 _ 0 rfl HSB.out rfl HLQ.out ?qb ?_)
                    case qb => simp; omega
                    intro v15 w5 ho5 hf5
                    have HO5 := Lib.hid ho5
                    have HF5 := Lib.hid hf5
                    clear ho5 hf5
                    go_wp2
                    go_roundw
                    case rel => exact ⟨q + 1, by omega, by go_num, by rw [HKT.out]; exact HO5.out, (HF.out.alloc _).trans (HF5.out.mono (fun k hk => (HOA.out.lt hk).1))⟩
                    case measure => simp [intOf]; omega
                · have HKT := Lib.hid (show (OKL.take (q + 1)).filter (keepT th) = (OKL.take q).filter (keepT th) by
                    rw [HT1.out, List.filter_append, List.filter_cons_of_neg (by unfold keepT; rw [e1, e2]; decide), List.filter_nil, List.append_nil])
                  go_wp2
                  go_roundw
                  case rel => exact ⟨q + 1, by omega, by go_num, by rw [HKT.out]; exact HO.out, HF.out⟩
                  case measure => simp [intOf]; omega
              · obtain rfl : q = LN + 1 := by omega
                have hall : OKL.take (LN + 1) = OKL := List.take_of_length_le (by rw [HOL.out]; exact Nat.le_refl _)
                rw [hall] at ho
                obtain ⟨A15, c15, rfl, _⟩ := ho.shape
                have HO2 := Lib.hid ho
                have hk := HFC.out.trans hff
                have HKF := Lib.hid hff
                have hk2 := Fr.refl (fun _ => False) wr
                clear hall ho hf hff hlt hq hsz hlb
                cases b
                all_goals
                  go_wp2_with (first
                    | (go_at_call 7
                       (with_reducible refine (first20_calls _).mono ?_)
                       rintro ex w7 ⟨rfl, hf7⟩
                       replace hk := hk.trans hf7
                       replace hk2 := hk2.trans hf7
                       clear hf7)
                    | (go_at_call 13
                       first
                       | (with_reducible refine (ahead_calls _ _ _ _ ((HO2.out.frameF hk2).at_) (by rw [List.length_map]; exact HML.out)).mono ?_)
                         rw [HA1.out]
                       | (with_reducible refine (ahead_calls _ _ _ _ ((HM.out _ (HKF.out.trans hk2)).at_) (by rw [List.length_map]; exact HOX.out)).mono ?_)
                         rw [HA2.out]
                       | (with_reducible refine (ahead_calls _ _ _ _ ((HN.out _ (HKF.out.trans hk2)).at_) (by rw [List.length_map]; exact HAX.out)).mono ?_)
                         rw [HA3.out]
                       rintro ex w8 ⟨rfl, hf8⟩
                       replace hk := hk.trans hf8
                       replace hk2 := hk2.trans hf8
                       clear hf8))
                  go_ret
                  exact ⟨rfl, hk⟩

theorem ahead_walk (th tr n : Int) (b : Bool) (w : World) (ht : (Lit.int .i64 th).wf = true) (hr : (Lit.int .i64 tr).wf = true) (_ : (Lit.int .i64 n).wf = true) :
    Calls Try.prog 6 #[.int .i64 th, .int .i64 tr, .int .i64 n, .bool b] w fun e w' => e = .returned (.bool true) ∧ Fr (fun _ => False) w w' := by
  by_cases h0 : n < 0
  · exact aheadRow_far th tr n b w (.inl (by simpa using h0))
  · by_cases h1 : 100 < n
    · exact aheadRow_far th tr n b w (.inr ⟨by simpa using h0, by simpa using h1⟩)
    · obtain ⟨m, rfl⟩ := Int.eq_ofNat_of_zero_le (show 0 ≤ n by omega)
      exact aheadRow_near th tr m b w (by omega) (I64.of ht) (I64.of hr)
end Go.Proofs.Ytkaokhpaabfhmaa
