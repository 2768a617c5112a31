/- The contracts of package cell: what each access of a Cells answers and leaves. -/
import Derived.Test.YteopldhcmddokaaRows
import Derived.Test.YteopldhcmddokaaBase
namespace Go.Proofs.Yteopldhcmddokaa
open Go.RowKit

/-- Words, and how often they were asked. -/
structure CM where
  xs : List Int
  cnt : Int

/-- The Cells behind block p, its words in block ab. -/
structure CellsAt (w : World) (p ab : Nat) (s : CM) : Prop where
  len : s.xs.length ≤ 65536
  hp : w.heap[p]? = some (.cells #[.slice (some ⟨ab, 0, none⟩) s.xs.length s.xs.length, .int .i64 s.cnt] 69 (0, 0))
  ha : w.heap[ab]? = some (.cells (ints s.xs) 3 (0, 0))
  ne : p ≠ ab

def CM.in (s : CM) (a : Int) : Bool := decide (0 ≤ a) && decide (a < s.xs.length)
def CM.tick (s : CM) : CM := { s with cnt := wrap64 (s.cnt + 1) }
def CM.put (s : CM) (a v : Int) : CM := { s with xs := s.xs.set a.toNat v }
def CM.get (s : CM) (a : Int) : Int := s.xs.getD a.toNat 0

theorem CellsAt.frame {w w' : World} {p ab : Nat} {s : CM} {S : Nat → Prop} (h : CellsAt w p ab s) (hf : Fr S w w') (hp : ¬ S p) (ha : ¬ S ab) : CellsAt w' p ab s :=
  ⟨h.len, hf.heap h.hp hp, hf.heap h.ha ha, h.ne⟩

theorem CellsAt.ticked {w : World} {p ab : Nat} {s : CM} (h : CellsAt w p ab s) : CellsAt (w.setCell ⟨p, 1, none⟩ (.int .i64 (wrap64 (s.cnt + 1)))) p ab s.tick :=
  ⟨h.len, by rw [blk_set h.hp]; simp [CM.tick], blk_other h.ha (Ne.symm h.ne) _ _, h.ne⟩

theorem CellsAt.putted {w : World} {p ab : Nat} {s : CM} (h : CellsAt w p ab s) (a v : Int) : CellsAt (w.setCell ⟨ab, a.toNat, none⟩ (.int .i64 v)) p ab (s.put a v) :=
  ⟨by simpa [CM.put] using h.len, by rw [blk_other h.hp h.ne]; simp [CM.put], by rw [blk_set h.ha, ints_set]; rfl, h.ne⟩

theorem asked_calls (p ab : Nat) (s : CM) (a : Int) (w : World) (h : CellsAt w p ab s) :
    Calls Try.prog 69 #[.pointer (some ⟨p, 0, none⟩), .int .i64 a] w fun e w' => e = .returned (.bool (s.in a)) ∧ w' = w.setCell ⟨p, 1, none⟩ (.int .i64 (wrap64 (s.cnt + 1))) := by
  have hm := h.len
  have h1 : w.cell? ⟨p, 0, none⟩ = some (.slice (some ⟨ab, 0, none⟩) s.xs.length s.xs.length) := by rw [blk_cell h.hp]; rfl
  have h2 : w.cell? ⟨p, 1, none⟩ = some (.int .i64 s.cnt) := by rw [blk_cell h.hp]; rfl
  have f2 := blk_free h.hp 1
  clear h
  unfold CM.in
  go_enter Try.func69, Try.ntmps69
  go_wp2
  all_goals (go_ret; exact ⟨by first | (simp [*]; done) | (simp [*]; omega), rfl⟩)


theorem CM.in_iff (s : CM) (a : Int) : s.in a = true ↔ 0 ≤ a ∧ a < s.xs.length := by simp [CM.in]
/-- What went wrong: 1 where there is no such word. -/
def CM.err (s : CM) (a : Int) : Int := if s.in a then 0 else 1
def CM.word (s : CM) (a : Int) : Int := if s.in a then s.get a else 0
/-- A word set, where there is one; one more call. -/
def CM.store (s : CM) (a v : Int) : CM := if s.in a then s.tick.put a v else s.tick
def CM.hit (s : CM) (a old : Int) : Bool := s.in a && s.get a == old
def CM.swap (s : CM) (a old v : Int) : CM := if s.hit a old then s.tick.put a v else s.tick
def CM.more (s : CM) (a n : Int) : Int := if s.in a then wrap64 (s.get a + n) else 0
def CM.add (s : CM) (a n : Int) : CM := if s.in a then s.tick.put a (wrap64 (s.get a + n)) else s.tick

/-- The blocks of one. -/
def two (p ab : Nat) : Nat → Prop := fun k => k = p ∨ k = ab
/-- What turns in blocks that the call has made turns nothing that was there. -/
theorem Fr.fresh {S : Nat → Prop} {a b c : World} {p ab : Nat} (h : Fr S a b) (k : Fr (two p ab) b c) (hp : a.heap.size ≤ p) (ha : a.heap.size ≤ ab) : Fr S a c :=
  h.trans' k (fun i hi hl => by unfold two at hi; omega)
theorem fr_tick (p ab : Nat) (w : World) (v : Value) : Fr (two p ab) w (w.setCell ⟨p, 1, none⟩ v) := (Fr.refl _ _).setCell (.inl (.inl rfl)) _
theorem fr_put (p ab : Nat) (w : World) (v u : Value) (o : Nat) : Fr (two p ab) w ((w.setCell ⟨p, 1, none⟩ v).setCell ⟨ab, o, none⟩ u) := (fr_tick p ab w v).setCell (.inl (.inr rfl)) _

theorem CellsAt.cell {w : World} {p ab : Nat} {s : CM} (h : CellsAt w p ab s) {a : Int} (hin : s.in a = true) : w.cell? ⟨ab, a.toNat, none⟩ = some (.int .i64 (s.get a)) := by
  obtain ⟨h0, hlt⟩ := (s.in_iff a).1 hin
  rw [blk_cell h.ha, ints_get _ _ (by omega)]; rfl
theorem CellsAt.head {w : World} {p ab : Nat} {s : CM} (h : CellsAt w p ab s) : w.cell? ⟨p, 0, none⟩ = some (.slice (some ⟨ab, 0, none⟩) s.xs.length s.xs.length) := by rw [blk_cell h.hp]; rfl

theorem load_calls (p ab : Nat) (s : CM) (a : Int) (w : World) (h : CellsAt w p ab s) :
    Calls Try.prog 53 #[.pointer (some ⟨p, 0, none⟩), .int .i64 a] w fun e w' =>
      e = .returned (.tuple #[.int .i64 (s.word a), .int .i64 (s.err a)]) ∧ CellsAt w' p ab s.tick ∧ Fr (two p ab) w w' := by
  have HA := Lib.hid (asked_calls p ab s a w h)
  have h1 := h.head
  have hm := h.len
  have hne := h.ne
  have HT := Lib.hid h.ticked
  by_cases hin : s.in a = true
  · obtain ⟨h0, hlt⟩ := (s.in_iff a).1 hin
    have hc := h.cell hin
    clear h
    go_enter Try.func53, Try.ntmps53
    go_wp2_with (go_at_call 69; refine HA.out.mono ?_; rintro e w' ⟨rfl, rfl⟩)
    go_ret2
    exact ⟨by simp [CM.word, CM.err, hin], HT.out, fr_tick _ _ _ _⟩
  · replace hin := Bool.eq_false_iff.mpr hin
    clear h
    go_enter Try.func53, Try.ntmps53
    go_wp2_with (go_at_call 69; refine HA.out.mono ?_; rintro e w' ⟨rfl, rfl⟩)
    go_ret2
    exact ⟨by simp [CM.word, CM.err, hin], HT.out, fr_tick _ _ _ _⟩

theorem store_calls (p ab : Nat) (s : CM) (a v : Int) (w : World) (h : CellsAt w p ab s) :
    Calls Try.prog 56 #[.pointer (some ⟨p, 0, none⟩), .int .i64 a, .int .i64 v] w fun e w' =>
      e = .returned (.int .i64 (s.err a)) ∧ CellsAt w' p ab (s.store a v) ∧ Fr (two p ab) w w' := by
  have HA := Lib.hid (asked_calls p ab s a w h)
  have h1 := h.head
  have hm := h.len
  have hne := h.ne
  have HT := Lib.hid h.ticked
  have HP := Lib.hid (h.ticked.putted a v)
  by_cases hin : s.in a = true
  · obtain ⟨h0, hlt⟩ := (s.in_iff a).1 hin
    have hc := h.cell hin
    have hf := blk_free h.ha a.toNat
    clear h
    go_enter Try.func56, Try.ntmps56
    go_wp2_with (go_at_call 69; refine HA.out.mono ?_; rintro e w' ⟨rfl, rfl⟩)
    go_ret
    exact ⟨by simp [CM.err, hin], by unfold CM.store; rw [if_pos hin]; exact HP.out, fr_put _ _ _ _ _ _⟩
  · replace hin := Bool.eq_false_iff.mpr hin
    clear h
    go_enter Try.func56, Try.ntmps56
    go_wp2_with (go_at_call 69; refine HA.out.mono ?_; rintro e w' ⟨rfl, rfl⟩)
    go_ret
    exact ⟨by simp [CM.err, hin], by unfold CM.store; rw [if_neg (by simp [hin])]; exact HT.out, fr_tick _ _ _ _⟩

theorem swap_calls (p ab : Nat) (s : CM) (a old v : Int) (w : World) (h : CellsAt w p ab s) :
    Calls Try.prog 54 #[.pointer (some ⟨p, 0, none⟩), .int .i64 a, .int .i64 old, .int .i64 v] w fun e w' =>
      e = .returned (.tuple #[.bool (s.hit a old), .int .i64 (s.err a)]) ∧ CellsAt w' p ab (s.swap a old v) ∧ Fr (two p ab) w w' := by
  have HA := Lib.hid (asked_calls p ab s a w h)
  have h1 := h.head
  have hm := h.len
  have hne := h.ne
  have HT := Lib.hid h.ticked
  have HP := Lib.hid (h.ticked.putted a v)
  by_cases hin : s.in a = true
  · obtain ⟨h0, hlt⟩ := (s.in_iff a).1 hin
    have hc := h.cell hin
    have hf := blk_free h.ha a.toNat
    clear h
    by_cases ho : (s.get a == old) = true
    · have ho' : (s.get a != old) = false := by simpa using ho
      go_enter Try.func54, Try.ntmps54
      go_wp2_with (go_at_call 69; refine HA.out.mono ?_; rintro e w' ⟨rfl, rfl⟩)
      go_ret2
      exact ⟨by simp [CM.err, CM.hit, hin, ho], by unfold CM.swap CM.hit; rw [if_pos (by simp [hin, ho])]; exact HP.out, fr_put _ _ _ _ _ _⟩
    · replace ho := Bool.eq_false_iff.mpr ho
      have ho' : (s.get a != old) = true := by simpa using ho
      go_enter Try.func54, Try.ntmps54
      go_wp2_with (go_at_call 69; refine HA.out.mono ?_; rintro e w' ⟨rfl, rfl⟩)
      go_ret2
      exact ⟨by simp [CM.err, CM.hit, hin, ho], by unfold CM.swap CM.hit; rw [if_neg (by simp [hin, ho])]; exact HT.out, fr_tick _ _ _ _⟩
  · replace hin := Bool.eq_false_iff.mpr hin
    clear h
    go_enter Try.func54, Try.ntmps54
    go_wp2_with (go_at_call 69; refine HA.out.mono ?_; rintro e w' ⟨rfl, rfl⟩)
    go_ret2
    exact ⟨by simp [CM.err, CM.hit, hin], by unfold CM.swap CM.hit; rw [if_neg (by simp [hin])]; exact HT.out, fr_tick _ _ _ _⟩

theorem peek_calls (p ab : Nat) (s : CM) (a : Int) (w : World) (h : CellsAt w p ab s) :
    Calls Try.prog 20 #[.pointer (some ⟨p, 0, none⟩), .int .i64 a] w fun e w' => e = .returned (.int .i64 (s.word a)) ∧ w' = w := by
  have h1 := h.head
  have hm := h.len
  by_cases hin : s.in a = true
  · obtain ⟨h0, hlt⟩ := (s.in_iff a).1 hin
    have hc := h.cell hin
    clear h
    go_enter Try.func20, Try.ntmps20
    go_wp2
    go_ret
    exact ⟨by simp [CM.word, hin], rfl⟩
  · have hno : a < 0 ∨ (s.xs.length : Int) ≤ a := by have := mt (s.in_iff a).2 hin; omega
    replace hin := Bool.eq_false_iff.mpr hin
    clear h
    rcases hno with hno | hno
    all_goals
      go_enter Try.func20, Try.ntmps20
      go_wp2
      all_goals
        go_ret
        exact ⟨by simp [CM.word, hin], rfl⟩

theorem count_calls (p ab : Nat) (s : CM) (w : World) (h : CellsAt w p ab s) :
    Calls Try.prog 25 #[.pointer (some ⟨p, 0, none⟩)] w fun e w' => e = .returned (.int .i64 s.cnt) ∧ w' = w := by
  have h1 : w.cell? ⟨p, 1, none⟩ = some (.int .i64 s.cnt) := by rw [blk_cell h.hp]; rfl
  clear h
  go_enter Try.func25, Try.ntmps25
  go_wp2
  go_ret
  exact ⟨rfl, rfl⟩

theorem part_calls (k : Int) (w : World) :
    Calls Try.prog 71 #[.int .i64 k] w fun e w' => e = .returned (.bool (decide (0 ≤ k) && decide (k < 8))) ∧ w' = w := by
  go_enter Try.func71, Try.ntmps71
  go_wp2
  all_goals (go_ret; exact ⟨by first | (simp [*]; done) | (simp [*]; omega), rfl⟩)

theorem add_calls (p ab : Nat) (s : CM) (a n : Int) (w : World) (h : CellsAt w p ab s) :
    Calls Try.prog 68 #[.pointer (some ⟨p, 0, none⟩), .int .i64 a, .int .i64 n] w fun e w' =>
      e = .returned (.tuple #[.int .i64 (s.more a n), .int .i64 (s.err a)]) ∧ CellsAt w' p ab (s.add a n) ∧ Fr (two p ab) w w' := by
  have HA := Lib.hid (asked_calls p ab s a w h)
  have h1 := h.head
  have hm := h.len
  have hne := h.ne
  have HT := Lib.hid h.ticked
  have HP := Lib.hid (h.ticked.putted a (wrap64 (s.get a + n)))
  by_cases hin : s.in a = true
  · obtain ⟨h0, hlt⟩ := (s.in_iff a).1 hin
    have hc := h.cell hin
    have hf := blk_free h.ha a.toNat
    clear h
    go_enter Try.func68, Try.ntmps68
    go_wp2_with (go_at_call 69; refine HA.out.mono ?_; rintro e w' ⟨rfl, rfl⟩)
    go_ret2
    exact ⟨by simp [CM.err, CM.more, hin], by unfold CM.add; rw [if_pos hin]; exact HP.out, fr_put _ _ _ _ _ _⟩
  · replace hin := Bool.eq_false_iff.mpr hin
    clear h
    go_enter Try.func68, Try.ntmps68
    go_wp2_with (go_at_call 69; refine HA.out.mono ?_; rintro e w' ⟨rfl, rfl⟩)
    go_ret2
    exact ⟨by simp [CM.err, CM.more, hin], by unfold CM.add; rw [if_neg (by simp [hin])]; exact HT.out, fr_tick _ _ _ _⟩


def part (k : Int) : Bool := decide (0 ≤ k) && decide (k < 8)
theorem part_iff (k : Int) : part k = true ↔ 0 ≤ k ∧ k < 8 := by simp [part]
theorem part_calls' (k : Int) (w : World) :
    Calls Try.prog 71 #[.int .i64 k] w fun e w' => e = .returned (.bool (part k)) ∧ w' = w := part_calls k w
/-- The k-th byte of a word; a word with its k-th byte set. -/
def byteOf (x k : Int) : Int := bits BinOp.and IntKind.i64 (x / 2 ^ (8 * k).toNat) 255
def withByte (x k b : Int) : Int := bits BinOp.or IntKind.i64 (bits BinOp.andNot IntKind.i64 x (wrap64 (255 * 2 ^ (8 * k).toNat))) (wrap64 (b * 2 ^ (8 * k).toNat))
def CM.inB (s : CM) (a k : Int) : Bool := s.in a && part k
def CM.errB (s : CM) (a k : Int) : Int := if s.inB a k then 0 else 1
def CM.byte (s : CM) (a k : Int) : Int := if s.inB a k then byteOf (s.get a) k else 0
def isByte (b : Int) : Bool := decide (0 ≤ b) && decide (b ≤ 255)
def CM.errS (s : CM) (a k b : Int) : Int := if s.inB a k && isByte b then 0 else 1
def CM.storeB (s : CM) (a k b : Int) : CM := if s.inB a k && isByte b then s.tick.put a (withByte (s.get a) k b) else s.tick
theorem CellsAt.drew {w : World} {p ab : Nat} {s : CM} (h : CellsAt w p ab s) : CellsAt w.drew p ab s := ⟨h.len, h.hp, h.ha, h.ne⟩

theorem storeByte_calls (p ab : Nat) (s : CM) (a k b : Int) (w : World) (h : CellsAt w p ab s) :
    Calls Try.prog 67 #[.pointer (some ⟨p, 0, none⟩), .int .i64 a, .int .i64 k, .int .i64 b] w fun e w' =>
      e = .returned (.int .i64 (s.errS a k b)) ∧ CellsAt w' p ab (s.storeB a k b) ∧ Fr (two p ab) w w' := by
  have HA := Lib.hid (asked_calls p ab s a w h)
  have h1 := h.head
  have hm := h.len
  have hne := h.ne
  have HT := Lib.hid h.ticked
  have HP := Lib.hid (h.ticked.putted a (withByte (s.get a) k b))
  by_cases hin : s.in a = true
  · obtain ⟨h0, hlt⟩ := (s.in_iff a).1 hin
    have hc := h.cell hin
    have hf := blk_free h.ha a.toNat
    clear h
    by_cases hk : part k = true
    · obtain ⟨hk0, hk8⟩ := (part_iff k).1 hk
      by_cases hb : 0 ≤ b ∧ b ≤ 255
      · obtain ⟨hb0, hb8⟩ := hb
        go_enter Try.func67, Try.ntmps67
        go_wp2_with (first | (go_at_call 69; refine HA.out.mono ?_; rintro e w' ⟨rfl, rfl⟩) | (go_at_call 71; refine (part_calls' _ _).mono ?_; rintro e w' ⟨rfl, rfl⟩))
        go_region
        all_goals go_wp2
        all_goals go_ret
        all_goals exact ⟨by simp [CM.errS, CM.inB, isByte, hin, hk, hb0, hb8], by unfold CM.storeB; rw [if_pos (by simp [CM.inB, isByte, hin, hk, hb0, hb8])]; exact HP.out.drew, (fr_put _ _ _ _ _ _).drew⟩
      · have hb' : b < 0 ∨ 255 < b := by omega
        have hi : isByte b = false := by unfold isByte; rw [Bool.and_eq_false_iff]; simp; omega
        rcases hb' with hb' | hb'
        all_goals
          clear hb
          go_enter Try.func67, Try.ntmps67
          go_wp2_with (first | (go_at_call 69; refine HA.out.mono ?_; rintro e w' ⟨rfl, rfl⟩) | (go_at_call 71; refine (part_calls' _ _).mono ?_; rintro e w' ⟨rfl, rfl⟩))
          all_goals go_ret
          all_goals exact ⟨by simp [CM.errS, hi], by unfold CM.storeB; rw [if_neg (by simp [hi])]; exact HT.out, fr_tick _ _ _ _⟩
    · replace hk := Bool.eq_false_iff.mpr hk
      go_enter Try.func67, Try.ntmps67
      go_wp2_with (first | (go_at_call 69; refine HA.out.mono ?_; rintro e w' ⟨rfl, rfl⟩) | (go_at_call 71; refine (part_calls' _ _).mono ?_; rintro e w' ⟨rfl, rfl⟩))
      go_ret
      exact ⟨by simp [CM.errS, CM.inB, hk], by unfold CM.storeB; rw [if_neg (by simp [CM.inB, hk])]; exact HT.out, fr_tick _ _ _ _⟩
  · replace hin := Bool.eq_false_iff.mpr hin
    clear h
    go_enter Try.func67, Try.ntmps67
    go_wp2_with (first | (go_at_call 69; refine HA.out.mono ?_; rintro e w' ⟨rfl, rfl⟩) | (go_at_call 71; refine (part_calls' _ _).mono ?_; rintro e w' ⟨rfl, rfl⟩))
    go_ret
    exact ⟨by simp [CM.errS, CM.inB, hin], by unfold CM.storeB; rw [if_neg (by simp [CM.inB, hin])]; exact HT.out, fr_tick _ _ _ _⟩

def CM.zero (n : Nat) : CM := { xs := List.replicate n 0, cnt := 0 }

theorem new_bad (n : Int) (w : World) (h : n < 0 ∨ 65536 < n) :
    Calls Try.prog 11 #[.int .i64 n] w fun e w' => e = .returned (.tuple #[.pointer none, .int .i64 1]) ∧ w' = w := by
  rcases h with h | h
  all_goals
    go_enter Try.func11, Try.ntmps11
    go_wp2
    all_goals go_ret2
    all_goals exact ⟨rfl, rfl⟩


theorem Try.info_int : (Try.prog.info? 3).map (fun i => (i.zero, i.size, i.bytes)) = some (some (.int .i64 0), 1, 8) := by kernel_rfl

theorem made_ints (n : Nat) : madeCells #[.int .i64 0] n = ints (List.replicate n 0) := by
  apply Array.ext'
  rw [toList_madeCells_one]
  simp [ints]

theorem new_calls (n : Int) (w : World) (h0 : 0 ≤ n) (h1 : n ≤ 65536) :
    Calls Try.prog 11 #[.int .i64 n] w fun e w' =>
      e = .returned (.tuple #[.pointer (some ⟨w.heap.size + 1, 0, none⟩), .int .i64 0]) ∧ CellsAt w' (w.heap.size + 1) w.heap.size (CM.zero n.toNat) ∧ Fr (fun _ => False) w w' := by
  obtain ⟨i, hi, hz, hs, hb⟩ := info_parts Try.info_int
  have hmk := run_make (P := Try.prog) w 22 3 i (.int .i64 0) Try.underlying22 hi hz .i64 .i64 n n h0 (by omega) (by rw [hb]; omega) (by omega)
  rw [hs, Nat.mul_one, show (Value.int IntKind.i64 0).cells = #[.int .i64 0] from rfl, made_ints] at hmk
  clear hi hz hs hb
  go_enter Try.func11, Try.ntmps11
  go_wp2
  go_ret2
  refine ⟨rfl, ⟨by simp [CM.zero]; omega, ?_, ?_, by omega⟩, ((Fr.refl _ _).alloc _).alloc _⟩
  · simp only [CM.zero, List.length_replicate]; exact heap_alloc2_new _ _ _
  · exact heap_alloc2_old _ _ _
end Go.Proofs.Yteopldhcmddokaa
