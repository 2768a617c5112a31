/- judge.Serial where no event commits, or where the heap's length is another; ltklaw20.first. -/
import Derived.Test.YtkaokhpaabfhmaaJ0
import Derived.Test.YtkaokhpaabfhmaaP9
namespace Go.Proofs.Ytkaokhpaabfhmaa
open Go.RowKit

set_option maxRecDepth 100000 in
set_option maxHeartbeats 2000000 in
theorem serialRange_calls (c : Conf) (H : Option Addr) (hn hcap : Nat) (T : Option Addr) (tn tc : Nat) (U : Option Addr) (un uc : Nat) (w : World) (hw : (hn : Int) ≠ c.words) :
    Calls Try.prog 10 #[c.val, .slice H hn hcap, .slice T tn tc, .slice U un uc] w fun e w' => e = .returned (.tuple #[.slice none 0 0, .int .i64 1]) ∧ Fr (fun _ => False) w w' := by
  have HW := Lib.hid (words_calls c)
  have hd : ((hn : Int) != c.words) = true := by simpa using hw
  clear hw
  unfold Conf.val at *
  have hk := (Fr.refl (fun _ => False) w).alloc (.cells #[.int .i64 c.r, .int .i64 c.o, .int .i64 c.s, .int .i64 c.wd, .int .i64 c.th, .int .i64 c.sl, .int .i64 c.rg, .int .i64 c.lk, .int .i64 c.un, .int .i64 c.es, .int .i64 c.tk, .int .i64 c.po] 23)
  go_enter Try.func10, Try.ntmps10
  go_wp2_with (go_at_call 23; (with_reducible refine (HW.out _).mono ?_); rintro ex w4 ⟨rfl, hf4⟩; replace hk := hk.trans hf4; clear hf4)
  refine bodyPost_ret (by simp [results, Try.results10, go_sem]; try rfl) rfl ⟨rfl, hk⟩

set_option maxRecDepth 100000 in
set_option maxHeartbeats 2000000 in
theorem serial0_calls (c : Conf) (H : Option Addr) (hn hcap : Nat) (heap : List Int) (T : Option Addr) (tn tc : Nat) (u : Value) (es : List Ev) (F G : Nat → Prop) (w : World) (hh : Flat w F H hn heap) (h2 : hn ≤ 20000) (hw : (hn : Int) = c.words) (hu : EvsAt w G u es) (hs : Smalls es) (he : es.filter (·.keeps 2 []) = []) :
    Calls Try.prog 10 #[c.val, .slice H hn hcap, .slice T tn tc, u] w fun e w' => ∃ A' c', e = .returned (.tuple #[.slice A' hn c', .int .i64 0]) ∧ Flat w' (fun k => w.heap.size ≤ k) A' hn heap ∧ Fr (fun _ => False) w w' := by
  have HW := Lib.hid (words_calls c)
  have hd : ((hn : Int) != c.words) = false := by simpa using hw
  have HC := Lib.hid (fun w' (hf : Fr (fun _ => False) w w') => cloneInts_calls H hn hcap heap F w' (hh.frame hf (fun _ _ x => x.elim)) h2)
  have HK := Lib.hid (fun w' (hf : Fr (fun _ => False) w w') => commits_calls u es G w' (hu.frame hf (fun _ _ x => x.elim)) hs)
  rw [he] at HK
  obtain ⟨U, uc, ucs, rfl, _⟩ := id hu.ex
  clear hw hh hu hs he
  unfold Conf.val at *
  have hk := (Fr.refl (fun _ => False) w).alloc (.cells #[.int .i64 c.r, .int .i64 c.o, .int .i64 c.s, .int .i64 c.wd, .int .i64 c.th, .int .i64 c.sl, .int .i64 c.rg, .int .i64 c.lk, .int .i64 c.un, .int .i64 c.es, .int .i64 c.tk, .int .i64 c.po] 23)
  go_enter Try.func10, Try.ntmps10
  go_wp2_with (first
    | (go_at_call 23
       (with_reducible refine (HW.out _).mono ?_)
       rintro ex w4 ⟨rfl, hf4⟩
       replace hk := hk.trans hf4
       clear hf4)
    | (go_at_call 24
       (with_reducible refine (HC.out _ hk).mono ?_)
       rintro ex w5 ⟨A5, c5, rfl, hfl, hf5⟩
       have HFL := Lib.hid (hfl.mono (G := fun k => w.heap.size ≤ k) (fun k _ x => Nat.le_trans hk.size x))
       replace hk := hk.trans hf5
       clear hfl hf5)
    | (go_at_call 16
       (with_reducible refine (HK.out _ hk).mono ?_)
       rintro ex w6 ⟨v6, rfl, ho6, hf6⟩
       obtain ⟨A6, c6, rfl⟩ := ho6.shape
       simp only [List.length_nil]
       have HF6 := Lib.hid hf6
       have HK6 := Lib.hid (hk.trans hf6)
       clear ho6 hf6 hk))
  go_loopw [10, 12, 13, 14, 15, 26] (fun v10 _ _ _ _ v26 wr => v10 = .slice A5 hn c5 ∧ v26 = .int .i64 0 ∧ wr = w6) (fun _ _ _ _ _ _ _ => 0)
  case atStart => exact ⟨rfl, rfl, rfl⟩
  case round =>
    obtain ⟨rfl, rfl, rfl⟩ := hrel
    go_wp2
    refine bodyPost_ret (by simp [results, Try.results10, go_sem]; try rfl) rfl ⟨A5, c5, rfl, HFL.out.frame HF6.out (fun _ _ x => x.elim), HK6.out⟩

def c20 : Conf := ⟨1, 1, 1, 1, 2, 0, 1, 9, 1, 0, 9, 0⟩
theorem w20 : c20.words = 1 := by decide +kernel
theorem flatNew (w : World) (xs : List Int) {arr : Array Value} (T : TypeId) (h : arr = ints xs) {n : Nat} (hn : xs.length = n) {b : Nat} (hb : w.heap.size = b := by simp) : Flat (w.alloc (.cells arr T (0, 0))) (fun k => k = b) (some ⟨b, 0, none⟩) n xs := by
  subst h; subst hn; subst hb
  exact ⟨rfl, fun _ => ⟨_, rfl, rfl, fun i hi => by
    have h1 : (Addr.mk w.heap.size 0 none).add i = ⟨w.heap.size, i, none⟩ := by unfold Addr.add; split <;> simp_all
    rw [h1, blk_cell (heap_alloc_new w _), ints_get _ _ hi]⟩⟩
set_option maxRecDepth 100000 in
set_option maxHeartbeats 2000000 in
theorem first20_calls (w : World) : Calls Try.prog 7 #[] w fun e w' => e = .returned (.bool true) ∧ Fr (fun _ => False) w w' := by
  have hk := ((Fr.refl (fun _ => False) w).alloc (.cells #[.int .i64 1, .int .i64 1, .int .i64 1, .int .i64 1, .int .i64 2, .int .i64 0, .int .i64 1, .int .i64 9, .int .i64 1, .int .i64 0, .int .i64 9, .int .i64 0] 23)).alloc (.cells #[.int .i64 7] 3)
  have HS := Lib.hid (serial0_calls c20 _ 1 1 [7] none 0 0 (.slice none 0 0) [] _ (fun _ => True) _ (flatNew (w.alloc (.cells #[.int .i64 1, .int .i64 1, .int .i64 1, .int .i64 1, .int .i64 2, .int .i64 0, .int .i64 1, .int .i64 9, .int .i64 1, .int .i64 0, .int .i64 9, .int .i64 0] 23)) [7] (arr := #[.int .i64 7]) 3 rfl (n := 1) rfl (b := w.heap.size + 1)) (by decide) (by rw [w20]; rfl) (EvsAt.nil _ _) ⟨by simp, fun e he => by cases he⟩ rfl)
  unfold Conf.val at HS
  dsimp only [c20] at HS
  have HA := Lib.hid (fun w' => ahead_calls (.slice none 0 0) [] (fun _ => True) w' (EvsAt.nil _ _) (by simp))
  have HC := Lib.hid (fun w' => commits_calls (.slice none 0 0) [] (fun _ => True) w' (EvsAt.nil _ _) ⟨by simp, fun e he => by cases he⟩)
  rw [show aheadB [] = true from rfl] at HA
  go_enter Try.func7, Try.ntmps7
  go_wp2_with (first
    | (go_at_call 10
       (with_reducible refine HS.out.mono ?_)
       rintro ex w1 ⟨A1, c1, rfl, hfl, hf1⟩
       replace hk := hk.trans hf1
       have HFL := Lib.hid hfl
       clear hfl hf1)
    | (go_at_call 12
       (with_reducible refine (ints_calls _ _ _ _ _ _ [7] [7] _ _ _ (HFL.out.frame ((Fr.refl (fun _ => False) _).alloc (.cells #[.int .i64 7] 3)) (fun _ _ x => x.elim)) (by decide) (flatNew _ [7] (arr := #[.int .i64 7]) 3 rfl (n := 1) rfl (b := _) rfl)).mono ?_)
       rintro ex w2 ⟨rfl, hf2⟩
       replace hk := (hk.alloc (.cells #[.int .i64 7] 3)).trans hf2
       clear hf2)
    | (go_at_call 13
       (with_reducible refine (HA.out _).mono ?_)
       rintro ex w3 ⟨rfl, hf3⟩
       replace hk := hk.trans hf3
       clear hf3)
    | (go_at_call 16
       (with_reducible refine (HC.out _).mono ?_)
       rintro ex w4 ⟨v4, rfl, ho4, hf4⟩
       obtain ⟨A4, c4, rfl⟩ := ho4.shape
       simp only [List.filter_nil, List.length_nil] at ho4 ⊢
       replace hk := hk.trans hf4
       clear ho4 hf4))
  go_ret
  exact ⟨rfl, hk⟩
end Go.Proofs.Ytkaokhpaabfhmaa
