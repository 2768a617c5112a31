/- The contracts of the document's cells (ltkref1.Cells). -/
import Derived.Test.YtellolecedpolaaCells
import Derived.Test.YtellolecedpolaaBits
import Derived.StillTailTactics
namespace Go.Proofs.Ytellolecedpolaa.Ref
open Go.RowKit

/-- The Cells behind block p, its words in block ab. -/
structure CellsAt (w : World) (p ab : Nat) (s : CM) : Prop where
  len : s.xs.length ≤ 65536
  hp : w.heap[p]? = some (.cells #[.slice (some ⟨ab, 0, none⟩) s.xs.length s.xs.length, .int .i64 s.cnt] 53 (0, 0))
  ha : w.heap[ab]? = some (.cells (ints s.xs) 3 (0, 0))
  ne : p ≠ ab

theorem CellsAt.frame {w w' : World} {p ab : Nat} {s : CM} {S : Nat → Prop} (h : CellsAt w p ab s) (hf : Fr S w w') (hp : ¬ S p) (ha : ¬ S ab) : CellsAt w' p ab s :=
  ⟨h.len, hf.heap h.hp hp, hf.heap h.ha ha, h.ne⟩

theorem CellsAt.ticked {w : World} {p ab : Nat} {s : CM} (h : CellsAt w p ab s) : CellsAt (w.setCell ⟨p, 1, none⟩ (.int .i64 (wrap64 (s.cnt + 1)))) p ab s.tick :=
  ⟨h.len, by rw [blk_set h.hp]; simp [CM.tick], blk_other h.ha (Ne.symm h.ne) _ _, h.ne⟩

theorem CellsAt.putted {w : World} {p ab : Nat} {s : CM} (h : CellsAt w p ab s) (a v : Int) : CellsAt (w.setCell ⟨ab, a.toNat, none⟩ (.int .i64 v)) p ab (s.put a v) :=
  ⟨by simpa [CM.put] using h.len, by rw [blk_other h.hp h.ne]; simp [CM.put], by rw [blk_set h.ha, ints_set]; rfl, h.ne⟩

theorem asked_calls (p ab : Nat) (s : CM) (a : Int) (w : World) (h : CellsAt w p ab s) :
    Calls Try.prog 31 #[.pointer (some ⟨p, 0, none⟩), .int .i64 a] w fun e w' => e = .returned (.bool (s.in a)) ∧ w' = w.setCell ⟨p, 1, none⟩ (.int .i64 (wrap64 (s.cnt + 1))) := by
  have hm := h.len
  have h1 : w.cell? ⟨p, 0, none⟩ = some (.slice (some ⟨ab, 0, none⟩) s.xs.length s.xs.length) := by rw [blk_cell h.hp]; rfl
  have h2 : w.cell? ⟨p, 1, none⟩ = some (.int .i64 s.cnt) := by rw [blk_cell h.hp]; rfl
  have f2 := blk_free h.hp 1
  clear h
  unfold CM.in
  go_enter Try.func31, Try.ntmps31
  go_wp2
  all_goals (go_ret; exact ⟨by first | (simp [*]; done) | (simp [*]; omega), rfl⟩)


theorem CellsAt.cell {w : World} {p ab : Nat} {s : CM} (h : CellsAt w p ab s) {a : Int} (hin : s.in a = true) : w.cell? ⟨ab, a.toNat, none⟩ = some (.int .i64 (s.get a)) := by
  obtain ⟨h0, hlt⟩ := (s.in_iff a).1 hin
  rw [blk_cell h.ha, ints_get _ _ (by omega)]; rfl
theorem CellsAt.head {w : World} {p ab : Nat} {s : CM} (h : CellsAt w p ab s) : w.cell? ⟨p, 0, none⟩ = some (.slice (some ⟨ab, 0, none⟩) s.xs.length s.xs.length) := by rw [blk_cell h.hp]; rfl

theorem load_calls (p ab : Nat) (s : CM) (a : Int) (w : World) (h : CellsAt w p ab s) :
    Calls Try.prog 21 #[.pointer (some ⟨p, 0, none⟩), .int .i64 a] w fun e w' =>
      e = .returned (.tuple #[.int .i64 (s.word a), .int .i64 (s.err a)]) ∧ CellsAt w' p ab s.tick ∧ Fr (two p ab) w w' := by
  have HA := Lib.hid (asked_calls p ab s a w h)
  have h1 := h.head
  have hm := h.len
  have hne := h.ne
  have HT := Lib.hid h.ticked
  by_cases hin : s.in a = true
  · obtain ⟨h0, hlt⟩ := (s.in_iff a).1 hin
    have hc := h.cell hin
    clear h
    go_enter Try.func21, Try.ntmps21
    go_wp2_with (go_at_call 31; refine HA.out.mono ?_; rintro e w' ⟨rfl, rfl⟩)
    go_ret2
    exact ⟨by simp [CM.word, CM.err, hin], HT.out, fr_tick _ _ _ _⟩
  · replace hin := Bool.eq_false_iff.mpr hin
    clear h
    go_enter Try.func21, Try.ntmps21
    go_wp2_with (go_at_call 31; refine HA.out.mono ?_; rintro e w' ⟨rfl, rfl⟩)
    go_ret2
    exact ⟨by simp [CM.word, CM.err, hin], HT.out, fr_tick _ _ _ _⟩

theorem store_calls (p ab : Nat) (s : CM) (a v : Int) (w : World) (h : CellsAt w p ab s) :
    Calls Try.prog 22 #[.pointer (some ⟨p, 0, none⟩), .int .i64 a, .int .i64 v] w fun e w' =>
      e = .returned (.int .i64 (s.err a)) ∧ CellsAt w' p ab (s.store a v) ∧ Fr (two p ab) w w' := by
  have HA := Lib.hid (asked_calls p ab s a w h)
  have h1 := h.head
  have hm := h.len
  have hne := h.ne
  have HT := Lib.hid h.ticked
  have HP := Lib.hid (h.ticked.putted a v)
  by_cases hin : s.in a = true
  · obtain ⟨h0, hlt⟩ := (s.in_iff a).1 hin
    have hc := h.cell hin
    have hf := blk_free h.ha a.toNat
    clear h
    go_enter Try.func22, Try.ntmps22
    go_wp2_with (go_at_call 31; refine HA.out.mono ?_; rintro e w' ⟨rfl, rfl⟩)
    go_ret
    exact ⟨by simp [CM.err, hin], by unfold CM.store; rw [if_pos hin]; exact HP.out, fr_put _ _ _ _ _ _⟩
  · replace hin := Bool.eq_false_iff.mpr hin
    clear h
    go_enter Try.func22, Try.ntmps22
    go_wp2_with (go_at_call 31; refine HA.out.mono ?_; rintro e w' ⟨rfl, rfl⟩)
    go_ret
    exact ⟨by simp [CM.err, hin], by unfold CM.store; rw [if_neg (by simp [hin])]; exact HT.out, fr_tick _ _ _ _⟩

theorem swap_calls (p ab : Nat) (s : CM) (a old v : Int) (w : World) (h : CellsAt w p ab s) :
    Calls Try.prog 23 #[.pointer (some ⟨p, 0, none⟩), .int .i64 a, .int .i64 old, .int .i64 v] w fun e w' =>
      e = .returned (.tuple #[.bool (s.hit a old), .int .i64 (s.err a)]) ∧ CellsAt w' p ab (s.swap a old v) ∧ Fr (two p ab) w w' := by
  have HA := Lib.hid (asked_calls p ab s a w h)
  have h1 := h.head
  have hm := h.len
  have hne := h.ne
  have HT := Lib.hid h.ticked
  have HP := Lib.hid (h.ticked.putted a v)
  by_cases hin : s.in a = true
  · obtain ⟨h0, hlt⟩ := (s.in_iff a).1 hin
    have hc := h.cell hin
    have hf := blk_free h.ha a.toNat
    clear h
    by_cases ho : (s.get a == old) = true
    · have ho' : (s.get a != old) = false := by simpa using ho
      go_enter Try.func23, Try.ntmps23
      go_wp2_with (go_at_call 31; refine HA.out.mono ?_; rintro e w' ⟨rfl, rfl⟩)
      go_ret2
      exact ⟨by simp [CM.err, CM.hit, hin, ho], by unfold CM.swap CM.hit; rw [if_pos (by simp [hin, ho])]; exact HP.out, fr_put _ _ _ _ _ _⟩
    · replace ho := Bool.eq_false_iff.mpr ho
      have ho' : (s.get a != old) = true := by simpa using ho
      go_enter Try.func23, Try.ntmps23
      go_wp2_with (go_at_call 31; refine HA.out.mono ?_; rintro e w' ⟨rfl, rfl⟩)
      go_ret2
      exact ⟨by simp [CM.err, CM.hit, hin, ho], by unfold CM.swap CM.hit; rw [if_neg (by simp [hin, ho])]; exact HT.out, fr_tick _ _ _ _⟩
  · replace hin := Bool.eq_false_iff.mpr hin
    clear h
    go_enter Try.func23, Try.ntmps23
    go_wp2_with (go_at_call 31; refine HA.out.mono ?_; rintro e w' ⟨rfl, rfl⟩)
    go_ret2
    exact ⟨by simp [CM.err, CM.hit, hin], by unfold CM.swap CM.hit; rw [if_neg (by simp [hin])]; exact HT.out, fr_tick _ _ _ _⟩

theorem peek_calls (p ab : Nat) (s : CM) (a : Int) (w : World) (h : CellsAt w p ab s) :
    Calls Try.prog 27 #[.pointer (some ⟨p, 0, none⟩), .int .i64 a] w fun e w' => e = .returned (.int .i64 (s.word a)) ∧ w' = w := by
  have h1 := h.head
  have hm := h.len
  by_cases hin : s.in a = true
  · obtain ⟨h0, hlt⟩ := (s.in_iff a).1 hin
    have hc := h.cell hin
    clear h
    go_enter Try.func27, Try.ntmps27
    go_wp2
    go_ret
    exact ⟨by simp [CM.word, hin], rfl⟩
  · have hno : a < 0 ∨ (s.xs.length : Int) ≤ a := by have := mt (s.in_iff a).2 hin; omega
    replace hin := Bool.eq_false_iff.mpr hin
    clear h
    rcases hno with hno | hno
    all_goals
      go_enter Try.func27, Try.ntmps27
      go_wp2
      all_goals
        go_ret
        exact ⟨by simp [CM.word, hin], rfl⟩

theorem add_calls (p ab : Nat) (s : CM) (a n : Int) (w : World) (h : CellsAt w p ab s) :
    Calls Try.prog 24 #[.pointer (some ⟨p, 0, none⟩), .int .i64 a, .int .i64 n] w fun e w' =>
      e = .returned (.tuple #[.int .i64 (s.more a n), .int .i64 (s.err a)]) ∧ CellsAt w' p ab (s.add a n) ∧ Fr (two p ab) w w' := by
  have HA := Lib.hid (asked_calls p ab s a w h)
  have h1 := h.head
  have hm := h.len
  have hne := h.ne
  have HT := Lib.hid h.ticked
  have HP := Lib.hid (h.ticked.putted a (wrap64 (s.get a + n)))
  by_cases hin : s.in a = true
  · obtain ⟨h0, hlt⟩ := (s.in_iff a).1 hin
    have hc := h.cell hin
    have hf := blk_free h.ha a.toNat
    clear h
    go_enter Try.func24, Try.ntmps24
    go_wp2_with (go_at_call 31; refine HA.out.mono ?_; rintro e w' ⟨rfl, rfl⟩)
    go_ret2
    exact ⟨by simp [CM.err, CM.more, hin], by unfold CM.add; rw [if_pos hin]; exact HP.out, fr_put _ _ _ _ _ _⟩
  · replace hin := Bool.eq_false_iff.mpr hin
    clear h
    go_enter Try.func24, Try.ntmps24
    go_wp2_with (go_at_call 31; refine HA.out.mono ?_; rintro e w' ⟨rfl, rfl⟩)
    go_ret2
    exact ⟨by simp [CM.err, CM.more, hin], by unfold CM.add; rw [if_neg (by simp [hin])]; exact HT.out, fr_tick _ _ _ _⟩


theorem CellsAt.drew {w : World} {p ab : Nat} {s : CM} (h : CellsAt w p ab s) : CellsAt w.drew p ab s := ⟨h.len, h.hp, h.ha, h.ne⟩

theorem new_bad (n : Int) (w : World) (h : n < 0 ∨ 65536 < n) :
    Calls Try.prog 20 #[.int .i64 n] w fun e w' => e = .returned (.tuple #[.pointer none, .int .i64 1]) ∧ w' = w := by
  rcases h with h | h
  all_goals
    go_enter Try.func20, Try.ntmps20
    go_wp2
    all_goals go_ret2
    all_goals exact ⟨rfl, rfl⟩


theorem new_calls (n : Int) (w : World) (h0 : 0 ≤ n) (h1 : n ≤ 65536) :
    Calls Try.prog 20 #[.int .i64 n] w fun e w' =>
      e = .returned (.tuple #[.pointer (some ⟨w.heap.size + 1, 0, none⟩), .int .i64 0]) ∧ CellsAt w' (w.heap.size + 1) w.heap.size (CM.zero n.toNat) ∧ Fr (fun _ => False) w w' := by
  obtain ⟨i, hi, hz, hs, hb⟩ := info_parts Try.info_int
  have hmk := run_make (P := Try.prog) w 35 3 i (.int .i64 0) Try.underlying35 hi hz .i64 .i64 n n h0 (by omega) (by rw [hb]; omega) (by omega)
  rw [hs, Nat.mul_one, show (Value.int IntKind.i64 0).cells = #[.int .i64 0] from rfl, made_ints] at hmk
  clear hi hz hs hb
  go_enter Try.func20, Try.ntmps20
  go_wp2
  go_ret2
  refine ⟨rfl, ⟨by simp [CM.zero]; omega, ?_, ?_, by omega⟩, ((Fr.refl _ _).alloc _).alloc _⟩
  · simp only [CM.zero, List.length_replicate]; exact heap_alloc2_new _ _ _
  · exact heap_alloc2_old _ _ _

/-- A byte, and a word with a byte set, by way of unsigned numbers. -/
def rByte (x k : Int) : Int := wrap64 (bits BinOp.and IntKind.u64 (IntKind.u64.wrap x / 2 ^ (8 * k).toNat) 255)
theorem byte_calls (x k : Int) (h0 : 0 ≤ k) (h7 : k ≤ 7) (w : World) :
    Calls Try.prog 32 #[.int .i64 x, .int .i64 k] w fun e w' => e = .returned (.int .i64 (rByte x k)) ∧ w' = w := by
  go_enter Try.func32, Try.ntmps32
  go_wp2
  go_ret
  exact ⟨rfl, rfl⟩
def _root_.Go.Proofs.Ytellolecedpolaa.CM.rbyte (s : CM) (a k : Int) : Int := if s.inB a k then rByte (s.get a) k else 0
theorem with_eq (x k b : Int) : wrap64 (bits BinOp.or IntKind.u64 (bits BinOp.andNot IntKind.u64 (IntKind.u64.wrap x) (IntKind.u64.wrap (255 * 2 ^ (8 * k).toNat))) (IntKind.u64.wrap (b * 2 ^ (8 * k).toNat))) = withByte x k b := by
  refine eq_of_bits (I64_wrap64 _) (I64_bits _ _ _) (fun i hi => ?_)
  unfold withByte
  rw [bit_wrap, ubit_or, ubit_andNot, bit_uwrap, bit_uwrap, bit_uwrap, bit_or, bit_andNot, bit_wrap, bit_wrap]
theorem part_no {k : Int} (h : part k = false) : k < 0 ∨ 7 < k := by
  have := mt (part_iff k).2 (by rw [h]; simp)
  omega

theorem loadByte_calls (p ab : Nat) (s : CM) (a k : Int) (w : World) (h : CellsAt w p ab s) :
    Calls Try.prog 25 #[.pointer (some ⟨p, 0, none⟩), .int .i64 a, .int .i64 k] w fun e w' =>
      e = .returned (.tuple #[.int .i64 (s.rbyte a k), .int .i64 (s.errB a k)]) ∧ CellsAt w' p ab s.tick ∧ Fr (two p ab) w w' := by
  have HA := Lib.hid (asked_calls p ab s a w h)
  have h1 := h.head
  have hm := h.len
  have hne := h.ne
  have HT := Lib.hid h.ticked
  by_cases hin : s.in a = true
  · obtain ⟨h0, hlt⟩ := (s.in_iff a).1 hin
    have hc := h.cell hin
    clear h
    by_cases hk : part k = true
    · obtain ⟨hk0, hk8⟩ := (part_iff k).1 hk
      go_enter Try.func25, Try.ntmps25
      go_wp2_with (first | (go_at_call 31; refine HA.out.mono ?_; rintro e w' ⟨rfl, rfl⟩) | (go_at_call 32; refine (byte_calls _ _ (by omega) (by omega) _).mono ?_; rintro e w' ⟨rfl, rfl⟩))
      go_ret2
      exact ⟨by simp [CM.rbyte, CM.errB, CM.inB, hin, hk], HT.out, fr_tick _ _ _ _⟩
    · replace hk := Bool.eq_false_iff.mpr hk
      rcases part_no hk with hk' | hk'
      all_goals
        go_enter Try.func25, Try.ntmps25
        go_wp2_with (first | (go_at_call 31; refine HA.out.mono ?_; rintro e w' ⟨rfl, rfl⟩) | (go_at_call 32; refine (byte_calls _ _ (by omega) (by omega) _).mono ?_; rintro e w' ⟨rfl, rfl⟩))
        all_goals go_ret2
        all_goals exact ⟨by simp [CM.rbyte, CM.errB, CM.inB, hin, hk], HT.out, fr_tick _ _ _ _⟩
  · replace hin := Bool.eq_false_iff.mpr hin
    clear h
    go_enter Try.func25, Try.ntmps25
    go_wp2_with (first | (go_at_call 31; refine HA.out.mono ?_; rintro e w' ⟨rfl, rfl⟩) | (go_at_call 32; refine (byte_calls _ _ (by omega) (by omega) _).mono ?_; rintro e w' ⟨rfl, rfl⟩))
    go_ret2
    exact ⟨by simp [CM.rbyte, CM.errB, CM.inB, hin], HT.out, fr_tick _ _ _ _⟩

theorem storeByte_main (p ab : Nat) (s : CM) (a k b : Int) (w : World) (h : CellsAt w p ab s) (hin : s.in a = true) (hk : part k = true) (hb0 : 0 ≤ b) (hb8 : b ≤ 255) :
    Calls Try.prog 26 #[.pointer (some ⟨p, 0, none⟩), .int .i64 a, .int .i64 k, .int .i64 b] w fun e w' =>
      e = .returned (.int .i64 0) ∧ w' = ((w.setCell ⟨p, 1, none⟩ (.int .i64 (wrap64 (s.cnt + 1)))).setCell ⟨ab, a.toNat, none⟩ (.int .i64 (withByte (s.get a) k b))).drew := by
  have HA := Lib.hid (asked_calls p ab s a w h)
  have h1 := h.head
  have hm := h.len
  have hne := h.ne
  obtain ⟨h0, hlt⟩ := (s.in_iff a).1 hin
  have hc := h.cell hin
  have hf := blk_free h.ha a.toNat
  clear h
  obtain ⟨hk0, hk8⟩ := (part_iff k).1 hk
  have HW := Lib.hid (with_eq (s.get a) k b)
  go_enter Try.func26, Try.ntmps26
  go_wp2_with (first | (go_at_call 31; refine HA.out.mono ?_; rintro e w' ⟨rfl, rfl⟩))
  have q0 : (w.setCell ⟨p, 1, none⟩ (.int .i64 (wrap64 (s.cnt + 1)))).cell? ⟨p, 0, none⟩ = some (.slice (some ⟨ab, 0, none⟩) s.xs.length s.xs.length) := by rw [World.cell?_setCell_other _ _ _ _ (by simp)]; exact h1
  have q1 : (w.setCell ⟨p, 1, none⟩ (.int .i64 (wrap64 (s.cnt + 1)))).cell? ⟨ab, a.toNat, none⟩ = some (.int .i64 (s.get a)) := by rw [World.cell?_setCell_other _ _ _ _ (by simp)]; exact hc
  have q2 : (w.setCell ⟨p, 1, none⟩ (.int .i64 (wrap64 (s.cnt + 1)))).frozen? ⟨ab, a.toNat, none⟩ = false := by simpa using hf
  clear h1 hc hf HA
  generalize hWd : w.setCell ⟨p, 1, none⟩ (.int .i64 (wrap64 (s.cnt + 1))) = W at q0 q1 q2 ⊢
  have HWd := Lib.hid hWd
  clear hWd
  go_still_tail 27, (by kernel_rfl)
  change wpList _ _ _ _ _ W.drew
  go_wp2
  go_ret
  refine ⟨rfl, ?_⟩
  rw [HWd.out, show min (8 * k).toNat 64 = (8 * k).toNat by omega]
  exact congrArg (fun z => (W.setCell ⟨ab, a.toNat, none⟩ (.int .i64 z)).drew) HW.out

theorem storeByte_calls (p ab : Nat) (s : CM) (a k b : Int) (w : World) (h : CellsAt w p ab s) :
    Calls Try.prog 26 #[.pointer (some ⟨p, 0, none⟩), .int .i64 a, .int .i64 k, .int .i64 b] w fun e w' =>
      e = .returned (.int .i64 (s.errS a k b)) ∧ CellsAt w' p ab (s.storeB a k b) ∧ Fr (two p ab) w w' := by
  have HA := Lib.hid (asked_calls p ab s a w h)
  have h1 := h.head
  have hm := h.len
  have hne := h.ne
  have HT := Lib.hid h.ticked
  have HP := Lib.hid (h.ticked.putted a (withByte (s.get a) k b))
  by_cases hin : s.in a = true
  · obtain ⟨h0, hlt⟩ := (s.in_iff a).1 hin
    by_cases hk : part k = true
    · obtain ⟨hk0, hk8⟩ := (part_iff k).1 hk
      by_cases hb : 0 ≤ b ∧ b ≤ 255
      · obtain ⟨hb0, hb8⟩ := hb
        refine (storeByte_main p ab s a k b w h hin hk hb0 hb8).mono ?_
        rintro e w' ⟨rfl, rfl⟩
        exact ⟨by simp [CM.errS, CM.inB, isByte, hin, hk, hb0, hb8], by unfold CM.storeB; rw [if_pos (by simp [CM.inB, isByte, hin, hk, hb0, hb8])]; exact HP.out.drew, (fr_put _ _ _ _ _ _).drew⟩
      · have hb' : b < 0 ∨ 255 < b := by omega
        have hi : isByte b = false := by unfold isByte; rw [Bool.and_eq_false_iff]; simp; omega
        rcases hb' with hb' | hb'
        all_goals
          clear hb
          go_enter Try.func26, Try.ntmps26
          go_wp2_with (first | (go_at_call 31; refine HA.out.mono ?_; rintro e w' ⟨rfl, rfl⟩) | (go_at_call 32; refine (byte_calls _ _ (by omega) (by omega) _).mono ?_; rintro e w' ⟨rfl, rfl⟩))
          all_goals go_ret
          all_goals exact ⟨by simp [CM.errS, hi], by unfold CM.storeB; rw [if_neg (by simp [hi])]; exact HT.out, fr_tick _ _ _ _⟩
    · replace hk := Bool.eq_false_iff.mpr hk
      rcases part_no hk with hk' | hk'
      all_goals
        go_enter Try.func26, Try.ntmps26
        go_wp2_with (first | (go_at_call 31; refine HA.out.mono ?_; rintro e w' ⟨rfl, rfl⟩) | (go_at_call 32; refine (byte_calls _ _ (by omega) (by omega) _).mono ?_; rintro e w' ⟨rfl, rfl⟩))
        all_goals go_ret
        all_goals exact ⟨by simp [CM.errS, CM.inB, hk], by unfold CM.storeB; rw [if_neg (by simp [CM.inB, hk])]; exact HT.out, fr_tick _ _ _ _⟩
  · replace hin := Bool.eq_false_iff.mpr hin
    clear h
    go_enter Try.func26, Try.ntmps26
    go_wp2_with (first | (go_at_call 31; refine HA.out.mono ?_; rintro e w' ⟨rfl, rfl⟩) | (go_at_call 32; refine (byte_calls _ _ (by omega) (by omega) _).mono ?_; rintro e w' ⟨rfl, rfl⟩))
    go_ret
    exact ⟨by simp [CM.errS, CM.inB, hin], by unfold CM.storeB; rw [if_neg (by simp [CM.inB, hin])]; exact HT.out, fr_tick _ _ _ _⟩
end Go.Proofs.Ytellolecedpolaa.Ref
