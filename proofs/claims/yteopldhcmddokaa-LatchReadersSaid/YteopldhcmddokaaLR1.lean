/- One stripe's latch: each step of a thread, told by who reads and who owns. No program. -/
import Derived.Test.YteopldhcmddokaaLR0
namespace Go.Proofs.Yteopldhcmddokaa
open Go.RowKit

theorem latch_one (th sl : Nat) (h1 : 1 ≤ th) (h2 : th ≤ 16) (h3 : sl ≤ 48) : (oneC th sl).latch 2 = 1 := by
  have hf : (oneC th sl).Fine := by unfold Conf.Fine oneC; dsimp only; omega
  have hR : (oneC th sl).R = 1 := by unfold Conf.R; rw [if_pos hf]; rfl
  have hO : (oneC th sl).O = 1 := by unfold Conf.O; rw [if_pos hf]; rfl
  have hS : (oneC th sl).S = 1 := by unfold Conf.S; rw [if_pos hf]; rfl
  have hn : (oneC th sl).nodes = 3 := by unfold Conf.nodes; rw [hR, hO, hS]; rfl
  have hw : (oneC th sl).words = 1 := by unfold Conf.words; rw [hS]; rfl
  have hl : (oneC th sl).level 2 = 2 := by unfold Conf.level; rw [hn, hR, hO]; decide
  rw [Conf.latch_yes hl, hw, hR, hO]; rfl
theorem cells_one (th sl : Nat) (h1 : 1 ≤ th) (h2 : th ≤ 16) (h3 : sl ≤ 48) : (oneC th sl).cells = 9 := by
  have hf : (oneC th sl).Fine := by unfold Conf.Fine oneC; dsimp only; omega
  have hS : (oneC th sl).S = 1 := by unfold Conf.S; rw [if_pos hf]; rfl
  unfold Conf.cells; rw [hS]; rfl

/-- A latch of the stripe, of thread t. -/
structure Of (l : LM) (th sl t : Nat) : Prop where
  c : l.c = oneC th sl
  node : l.node = 2
  who : l.th = t
  h1 : t < th
  h2 : th ≤ 16
  h3 : sl ≤ 48
theorem Of.begun {l : LM} {th sl t : Nat} (h : Of l th sl t) : l.begun = { l with steps := wrap64 (l.steps + 1), base := 1 } := by
  unfold LM.begun; rw [h.c, h.node, latch_one th sl (by have := h.h1; omega) h.h2 h.h3]
theorem Of.fit {l : LM} {th sl t : Nat} (h : Of l th sl t) : l.fit = true := by
  have := h.h1
  unfold LM.fit
  rw [h.c, h.node, h.who, latch_one th sl (by omega) h.h2 h.h3]
  simp [oneC]; omega
theorem Of.step {l : LM} {th sl t : Nat} {s : CM} (h : Of l th sl t) (h6 : l.at_ ≠ 6) (he : l.begun.doesE s = 0) : l.step s = l.begun.doesL s ∧ l.stepS s = l.begun.doesS s := by
  unfold LM.step LM.stepS
  rw [if_neg h6, if_neg h6, if_pos h.fit, if_pos h.fit, if_pos he]
  exact ⟨rfl, rfl⟩
theorem Of.slotted {l : LM} {th sl t : Nat} (h : Of l th sl t) : l.slotted = decide (t < sl) := by
  unfold LM.slotted; rw [h.c, h.who]; simp [oneC]
theorem Of.w8 {l : LM} {th sl t : Nat} (h : Of l th sl t) : l.w8 = 1 + ((t / 8 : Nat) : Int) := by unfold LM.w8; rw [h.who]; omega
theorem Of.k8 {l : LM} {th sl t : Nat} (h : Of l th sl t) : l.k8 = ((t % 8 : Nat) : Int) := by unfold LM.k8; rw [h.who]; omega

theorem Rep.len {s : CM} {sl : Nat} {P : Nat → Bool} {o : Int} (h : Rep s sl P o) : s.xs.length = 9 := by rw [h]; rfl
theorem Rep.in_ {s : CM} {sl : Nat} {P : Nat → Bool} {o : Int} (h : Rep s sl P o) (n : Nat) (hn : n < 9) : s.in (n : Int) = true := by rw [CM.in_iff, h.len]; omega
theorem Rep.tick {s : CM} {sl : Nat} {P : Nat → Bool} {o : Int} (h : Rep s sl P o) : Rep s.tick sl P o := h
theorem Rep.owner {s : CM} {sl : Nat} {P : Nat → Bool} {o : Int} (h : Rep s sl P o) : s.word 1 = o := by
  have hi : s.in 1 = true := h.in_ 1 (by omega)
  unfold CM.word; rw [if_pos hi]; unfold CM.get; rw [h]; rfl
theorem Rep.slots {s : CM} {sl : Nat} {P : Nat → Bool} {o : Int} (h : Rep s sl P o) (j : Nat) (hj : j < 6) : s.word ((2 + j : Nat) : Int) = pk (rowOf P sl j) := by
  unfold CM.word; rw [if_pos (h.in_ (2 + j) (by omega))]; unfold CM.get; rw [h]
  have : j = 0 ∨ j = 1 ∨ j = 2 ∨ j = 3 ∨ j = 4 ∨ j = 5 := by omega
  rcases this with rfl | rfl | rfl | rfl | rfl | rfl <;> rfl
theorem Rep.count {s : CM} {sl : Nat} {P : Nat → Bool} {o : Int} (h : Rep s sl P o) : s.word 8 = (cntTo P sl 16 : Int) := by
  have hi : s.in 8 = true := h.in_ 8 (by omega)
  unfold CM.word; rw [if_pos hi]; unfold CM.get; rw [h]; rfl
theorem Rep.own {s : CM} {sl : Nat} {P : Nat → Bool} {o : Int} (h : Rep s sl P o) (v : Int) : Rep (s.tick.put 1 v) sl P v := by
  unfold Rep CM.put CM.tick; dsimp only; rw [h]; rfl
theorem CM.ext_xs {s t : CM} (h : s = t) : s.xs = t.xs := by rw [h]

theorem reads_rep {l : LM} {th sl t : Nat} {s : CM} {P : Nat → Bool} {o : Int} (h : Of l th sl t) (hbase : l.base = 1) (hr : Rep s sl P o) (b : Bool) (n : Int) (hn : n = if b then 1 else -1) (hp : P t = !b) :
    l.readsE s n = 0 ∧ Rep (l.readsS s n) sl (setAt P t b) o := by
  have ht16 : t < 16 := by have := h.h1; have := h.h2; omega
  unfold LM.readsE LM.readsS
  rw [h.slotted, h.w8, h.k8, hbase]
  by_cases hs : t < sl
  · have hu : up n = yn b := by subst hn; cases b <;> rfl
    rw [hu]
    simp only [hs, decide_true, if_true]
    have hidx : (1 : Int) + (1 + ((t / 8 : Nat) : Int)) = ((2 + t / 8 : Nat) : Int) := by omega
    have hcond : (s.inB ((2 + t / 8 : Nat) : Int) ((t % 8 : Nat) : Int) && isByte (yn b)) = true := by
      unfold CM.inB isByte
      rw [hr.in_ _ (by omega), Bool.true_and, Bool.and_eq_true, part_iff]
      refine ⟨⟨by omega, by omega⟩, ?_⟩
      cases b <;> rfl
    rw [hidx]
    unfold CM.errS CM.storeB
    rw [if_pos hcond, if_pos hcond]
    refine ⟨rfl, ?_⟩
    have hg : s.get ((2 + t / 8 : Nat) : Int) = pk (rowOf P sl (t / 8)) := by
      have := hr.slots (t / 8) (by omega)
      unfold CM.word at this
      rwa [if_pos (hr.in_ _ (by omega))] at this
    rw [hg, pk_with _ _ (by omega), ← row_hit P sl t b hs]
    unfold Rep CM.put CM.tick
    dsimp only
    rw [hr, Int.toNat_natCast]
    unfold nine
    rw [cnt_slot P sl t b hs]
    have hj : t / 8 = 0 ∨ t / 8 = 1 := by omega
    rcases hj with hj | hj
    · rw [hj, row_same P sl t b hs 1 (by omega), row_same P sl t b hs 2 (by omega), row_same P sl t b hs 3 (by omega), row_same P sl t b hs 4 (by omega), row_same P sl t b hs 5 (by omega)]; rfl
    · rw [hj, row_same P sl t b hs 0 (by omega), row_same P sl t b hs 2 (by omega), row_same P sl t b hs 3 (by omega), row_same P sl t b hs 4 (by omega), row_same P sl t b hs 5 (by omega)]; rfl
  · simp only [hs, decide_false, Bool.false_eq_true, if_false]
    have h8 : (1 : Int) + 7 = ((8 : Nat) : Int) := rfl
    rw [h8]
    unfold CM.err CM.add
    rw [if_pos (hr.in_ 8 (by omega)), if_pos (hr.in_ 8 (by omega))]
    refine ⟨rfl, ?_⟩
    have hg : s.get ((8 : Nat) : Int) = (cntTo P sl 16 : Int) := by
      have := hr.count
      unfold CM.word at this
      have hi8 : s.in 8 = true := hr.in_ 8 (by omega)
      rwa [if_pos hi8] at this
    have hc := cntTo_set P sl t b 16
    have hle := cntTo_le P sl 16
    have hcn : wrap64 ((cntTo P sl 16 : Int) + n) = (cntTo (setAt P t b) sl 16 : Int) := by
      cases b
      · rw [if_pos ⟨ht16, by omega, by rw [hp]; rfl⟩, if_neg (by simp)] at hc
        subst hn
        unfold wrap64
        simp only [Bool.false_eq_true, if_false]
        omega
      · rw [if_neg (by rw [hp]; simp), if_pos ⟨ht16, by omega, rfl⟩] at hc
        subst hn
        unfold wrap64
        simp only [if_true]
        omega
    rw [hg, hcn]
    unfold Rep CM.put CM.tick
    dsimp only
    rw [hr, Int.toNat_natCast]
    unfold nine
    rw [row_none P sl t b (by omega), row_none P sl t b (by omega), row_none P sl t b (by omega), row_none P sl t b (by omega), row_none P sl t b (by omega), row_none P sl t b (by omega)]
    rfl

section
variable {l : LM} {th sl t : Nat} {s : CM} {P : Nat → Bool} {o : Int}
theorem doesL_0 (h : l.at_ = 0) : l.doesL s = { l with at_ := 1 } := by unfold LM.doesL; rw [if_pos h]
theorem doesL_1 (h : l.at_ = 1) : l.doesL s = if s.word l.base == 0 || s.word l.base == l.th + 1 then LM.ends { l with at_ := 2 } true else { l with at_ := 2 } := by unfold LM.doesL; rw [if_neg (by omega), if_pos h]
theorem doesL_2 (h : l.at_ = 2) : l.doesL s = l.ends l.good := by unfold LM.doesL; rw [if_neg (by omega), if_neg (by omega), if_pos h]
theorem doesL_3 (h : l.at_ = 3) : l.doesL s = if s.hit l.base 0 then { l with at_ := 4 } else LM.ends { l with at_ := 4 } false := by unfold LM.doesL; rw [if_neg (by omega), if_neg (by omega), if_neg (by omega), if_pos h]
theorem doesL_4 (h : l.at_ = 4) : l.doesL s = l.drainsL s := by unfold LM.doesL; rw [if_neg (by omega), if_neg (by omega), if_neg (by omega), if_neg (by omega), if_pos h]
theorem doesL_5 (h : l.at_ = 5) : l.doesL s = l.ends true := by unfold LM.doesL; rw [if_neg (by omega), if_neg (by omega), if_neg (by omega), if_neg (by omega), if_neg (by omega)]
theorem doesS_0 (h : l.at_ = 0) : l.doesS s = l.readsS s 1 := by unfold LM.doesS; rw [if_pos h]
theorem doesS_1 (h : l.at_ = 1) : l.doesS s = s.tick := by unfold LM.doesS; rw [if_neg (by omega), if_pos h]
theorem doesS_2 (h : l.at_ = 2) : l.doesS s = l.readsS s (-1) := by unfold LM.doesS; rw [if_neg (by omega), if_neg (by omega), if_pos h]
theorem doesS_3 (h : l.at_ = 3) : l.doesS s = s.swap l.base 0 (l.th + 1) := by unfold LM.doesS; rw [if_neg (by omega), if_neg (by omega), if_neg (by omega), if_pos h]
theorem doesS_4 (h : l.at_ = 4) : l.doesS s = l.drainsS s := by unfold LM.doesS; rw [if_neg (by omega), if_neg (by omega), if_neg (by omega), if_neg (by omega), if_pos h]
theorem doesS_5 (h : l.at_ = 5) : l.doesS s = s.store l.base 0 := by unfold LM.doesS; rw [if_neg (by omega), if_neg (by omega), if_neg (by omega), if_neg (by omega), if_neg (by omega)]
theorem doesE_0 (h : l.at_ = 0) : l.doesE s = l.readsE s 1 := by unfold LM.doesE; rw [if_pos h]
theorem doesE_1 (h : l.at_ = 1) : l.doesE s = s.err l.base := by unfold LM.doesE; rw [if_neg (by omega), if_pos h]
theorem doesE_2 (h : l.at_ = 2) : l.doesE s = l.readsE s (-1) := by unfold LM.doesE; rw [if_neg (by omega), if_neg (by omega), if_pos h]
theorem doesE_3 (h : l.at_ = 3) : l.doesE s = s.err l.base := by unfold LM.doesE; rw [if_neg (by omega), if_neg (by omega), if_neg (by omega), if_pos h]
theorem doesE_4 (h : l.at_ = 4) : l.doesE s = l.drainsE s := by unfold LM.doesE; rw [if_neg (by omega), if_neg (by omega), if_neg (by omega), if_neg (by omega), if_pos h]
theorem doesE_5 (h : l.at_ = 5) : l.doesE s = s.err l.base := by unfold LM.doesE; rw [if_neg (by omega), if_neg (by omega), if_neg (by omega), if_neg (by omega), if_neg (by omega)]
theorem Rep.err1 (hr : Rep s sl P o) : s.err 1 = 0 := by unfold CM.err; exact if_pos (hr.in_ 1 (by omega))
theorem Of.ofBegun (h : Of l th sl t) : Of l.begun th sl t := by
  rw [h.begun]; exact ⟨h.c, h.node, h.who, h.h1, h.h2, h.h3⟩
theorem Of.base (h : Of l th sl t) : l.begun.base = 1 := by rw [h.begun]
/-- Who enters reads. -/
theorem step0 (h : Of l th sl t) (ha : l.at_ = 0) (hr : Rep s sl P o) (hp : P t = false) : l.step s = { l.begun with at_ := 1 } ∧ Rep (l.stepS s) sl (setAt P t true) o := by
  have hb : l.begun.at_ = 0 := ha
  obtain ⟨e, r⟩ := reads_rep h.ofBegun h.base hr true 1 rfl (by rw [hp]; rfl)
  obtain ⟨h1, h2⟩ := h.step (by omega) ((doesE_0 hb).trans e)
  rw [h1, h2, doesL_0 hb, doesS_0 hb]
  exact ⟨rfl, r⟩
/-- Who looks has got it just if nobody else owns. -/
theorem step1 (h : Of l th sl t) (ha : l.at_ = 1) (hr : Rep s sl P o) : l.step s = (if o = 0 ∨ o = t + 1 then LM.ends { l.begun with at_ := 2 } true else { l.begun with at_ := 2 }) ∧ Rep (l.stepS s) sl P o := by
  have hb : l.begun.at_ = 1 := ha
  have hth : l.begun.th = t := h.ofBegun.who
  have hw : s.word l.begun.base = o := by rw [h.base]; exact hr.owner
  obtain ⟨h1, h2⟩ := h.step (by omega) ((doesE_1 hb).trans (by rw [h.base]; exact hr.err1))
  rw [h1, h2, doesL_1 hb, doesS_1 hb, hw]
  refine ⟨?_, hr⟩
  by_cases ho : o = 0 ∨ o = t + 1
  · rw [if_pos ho, if_pos (by rw [hth]; simpa using ho)]
  · rw [if_neg ho, if_neg (by rw [hth]; simpa using ho)]
/-- Who retreats reads no more. -/
theorem step2 (h : Of l th sl t) (ha : l.at_ = 2) (hr : Rep s sl P o) (hp : P t = true) : l.step s = l.begun.ends l.good ∧ Rep (l.stepS s) sl (setAt P t false) o := by
  have hb : l.begun.at_ = 2 := ha
  obtain ⟨e, r⟩ := reads_rep h.ofBegun h.base hr false (-1) rfl (by rw [hp]; rfl)
  obtain ⟨h1, h2⟩ := h.step (by omega) ((doesE_2 hb).trans e)
  rw [h1, h2, doesL_2 hb, doesS_2 hb]
  exact ⟨rfl, r⟩
/-- Who would own owns just if nobody does. -/
theorem step3 (h : Of l th sl t) (ha : l.at_ = 3) (hr : Rep s sl P o) :
    (o = 0 → l.step s = { l.begun with at_ := 4 } ∧ Rep (l.stepS s) sl P (t + 1)) ∧ (o ≠ 0 → l.step s = LM.ends { l.begun with at_ := 4 } false ∧ Rep (l.stepS s) sl P o) := by
  have hb : l.begun.at_ = 3 := ha
  have hth : l.begun.th = t := h.ofBegun.who
  have hin : s.in 1 = true := hr.in_ 1 (by omega)
  have hg : s.get 1 = o := by have := hr.owner; unfold CM.word at this; rwa [if_pos hin] at this
  have hh : s.hit l.begun.base 0 = (o == 0) := by rw [h.base]; unfold CM.hit; rw [hin, hg, Bool.true_and]
  obtain ⟨h1, h2⟩ := h.step (by omega) ((doesE_3 hb).trans (by rw [h.base]; exact hr.err1))
  have hsw : s.swap l.begun.base 0 (l.begun.th + 1) = if (o == 0) = true then s.tick.put 1 (t + 1) else s.tick := by unfold CM.swap; rw [hh, h.base, hth]
  rw [h1, h2, doesL_3 hb, doesS_3 hb, hh, hsw]
  constructor
  · intro ho
    have : (o == 0) = true := by simpa using ho
    rw [if_pos this, if_pos this]
    exact ⟨rfl, hr.own _⟩
  · intro ho
    have : ¬ (o == 0) = true := by simpa using ho
    rw [if_neg this, if_neg this]
    exact ⟨rfl, hr⟩
theorem Rep.freed (hr : Rep s sl P o) : Rep (s.store 1 0) sl P 0 := by
  have hin : s.in 1 = true := hr.in_ 1 (by omega)
  unfold CM.store; rw [if_pos hin]; exact hr.own _
/-- Who owns gives up: nobody owns. -/
theorem step5 (h : Of l th sl t) (ha : l.at_ = 5) (hr : Rep s sl P o) : l.step s = l.begun.ends true ∧ Rep (l.stepS s) sl P 0 := by
  have hb : l.begun.at_ = 5 := ha
  obtain ⟨h1, h2⟩ := h.step (by omega) ((doesE_5 hb).trans (by rw [h.base]; exact hr.err1))
  rw [h1, h2, doesL_5 hb, doesS_5 hb, h.base]
  exact ⟨rfl, hr.freed⟩
/-- The word of the drain where a thread's mark is. -/
def wordOf (sl t : Nat) : Nat := if t < sl then 1 + t / 8 else 7
/-- Nobody but the thread itself (if it reads) is left in a word. -/
def clearOf (P : Nat → Bool) (sl : Nat) (rd : Bool) (t wd : Nat) : Prop := ∀ u, u < 16 → wordOf sl u = wd → P u = true → rd = true ∧ u = t
instance (P : Nat → Bool) (sl : Nat) (rd : Bool) (t wd : Nat) : Decidable (clearOf P sl rd t wd) := by unfold clearOf; infer_instance
theorem wordOf_slot {sl u j : Nat} (h : u < sl) (hj : wordOf sl u = j + 1) : u / 8 = j := by unfold wordOf at hj; rw [if_pos h] at hj; omega
theorem others_zero {wd : Nat} (h : Of l th sl t) (hw : l.word = wd) (h1 : 1 ≤ wd) (h7 : wd ≤ 7) (hr : Rep s sl P o) (hP : ∀ u, 16 ≤ u → P u = false) (hrd : l.rd = true → P t = true) : l.others (s.word ((1 + wd : Nat) : Int)) = 0 ↔ clearOf P sl l.rd t wd := by
  have hth := h.h1
  have hth2 := h.h2
  unfold LM.others
  rw [h.slotted, h.w8, h.k8, hw]
  by_cases h6 : wd ≤ 6
  · obtain ⟨j, rfl⟩ : ∃ j, wd = j + 1 := ⟨wd - 1, by omega⟩
    rw [show 1 + (j + 1) = 2 + j by omega, hr.slots j (by omega)]
    have hz : ¬ (((j + 1 : Nat) : Int) == 7) = true := by simp; omega
    by_cases hc : (l.rd = true ∧ t < sl) ∧ t / 8 = j
    · obtain ⟨⟨hc1, hc2⟩, hc3⟩ := hc
      rw [if_pos (by simp only [hc1, hc2, decide_true, Bool.true_and, beq_iff_eq]; omega), pk_not _ _ (by omega), pk_zero]
      constructor
      · intro hk u hu hwu hpu
        refine ⟨hc1, ?_⟩
        have hus : u < sl := by unfold wordOf at hwu; split at hwu <;> omega
        have huj := wordOf_slot hus hwu
        have := hk (u % 8) (by omega)
        unfold setAt rowOf at this
        rw [show 8 * j + u % 8 = u by omega, hpu] at this
        by_cases e : u % 8 = t % 8
        · omega
        · simp [e, hus] at this
      · intro hcl k hk
        unfold setAt
        by_cases e : k = t % 8
        · rw [if_pos e]
        · rw [if_neg e]
          cases hrow : rowOf P sl j k with
          | false => rfl
          | true =>
            unfold rowOf at hrow
            rw [Bool.and_eq_true, decide_eq_true_eq] at hrow
            have hu16 : 8 * j + k < 16 := by
              by_cases h16 : 8 * j + k < 16
              · exact h16
              · rw [hP _ (by omega)] at hrow; exact absurd hrow.1 (by simp)
            have := hcl (8 * j + k) hu16 (by unfold wordOf; rw [if_pos hrow.2]; omega) hrow.1
            omega
    · rw [if_neg (by
        simp only [Bool.and_eq_true, decide_eq_true_eq, beq_iff_eq]
        intro hh
        exact hc ⟨hh.1, by omega⟩), if_neg (by simp only [Bool.and_eq_true, not_and]; intro _; exact hz), pk_zero]
      constructor
      · intro hk u hu hwu hpu
        have hus : u < sl := by unfold wordOf at hwu; split at hwu <;> omega
        have huj := wordOf_slot hus hwu
        have := hk (u % 8) (by omega)
        unfold rowOf at this
        rw [show 8 * j + u % 8 = u by omega, hpu] at this
        simp [hus] at this
      · intro hcl k hk
        cases hrow : rowOf P sl j k with
        | false => rfl
        | true =>
          unfold rowOf at hrow
          rw [Bool.and_eq_true, decide_eq_true_eq] at hrow
          have hu16 : 8 * j + k < 16 := by
            by_cases h16 : 8 * j + k < 16
            · exact h16
            · rw [hP _ (by omega)] at hrow; exact absurd hrow.1 (by simp)
          have := hcl (8 * j + k) hu16 (by unfold wordOf; rw [if_pos hrow.2]; omega) hrow.1
          exact absurd ⟨⟨this.1, by omega⟩, by omega⟩ hc
  · obtain rfl : wd = 7 := by omega
    rw [show 1 + 7 = 8 from rfl, show ((8 : Nat) : Int) = 8 from rfl, hr.count]
    have hle := cntTo_le P sl 16
    rw [if_neg (by
      simp only [Bool.and_eq_true, decide_eq_true_eq, beq_iff_eq]
      intro hh
      omega)]
    have hwo : ∀ u, u < 16 → (wordOf sl u = 7 ↔ sl ≤ u) := by
      intro u hu
      unfold wordOf
      split <;> omega
    by_cases hc : l.rd = true ∧ sl ≤ t
    · have hd : decide (t < sl) = false := by simp; exact hc.2
      rw [if_pos (by simp [hc.1, hd]), show wrap64 ((cntTo P sl 16 : Int) - 1) = (cntTo P sl 16 : Int) - 1 by unfold wrap64; omega]
      have h1 := cntTo_one P sl t 16 (by omega) hc.2 (hrd hc.1)
      constructor
      · intro hz u hu hwu hpu
        refine ⟨hc.1, ?_⟩
        by_cases e : u = t
        · exact e
        · have := h1.1 (by omega) u hu ((hwo u hu).1 hwu) e
          rw [hpu] at this; cases this
      · intro hcl
        have := h1.2 (fun u hu hsu hne => by
          cases hp : P u with
          | false => rfl
          | true => exact absurd (hcl u hu ((hwo u hu).2 hsu) hp).2 hne)
        omega
    · rw [if_neg (by
        simp only [Bool.and_eq_true, Bool.not_eq_true', decide_eq_false_iff_not]
        intro hh
        exact hc ⟨hh.1.1, by omega⟩)]
      have h1 := cntTo_zero P sl 16
      constructor
      · intro hz u hu hwu hpu
        have := h1.1 (by omega) u hu ((hwo u hu).1 hwu)
        rw [hpu] at this; cases this
      · intro hcl
        have := h1.2 (fun u hu hsu => by
          cases hp : P u with
          | false => rfl
          | true =>
            have := hcl u hu ((hwo u hu).2 hsu) hp
            exact absurd ⟨this.1, by omega⟩ hc)
        omega
/-- A step of the drain. -/
theorem step4 {wd : Nat} (h : Of l th sl t) (ha : l.at_ = 4) (hc : l.cancel = false) (hw : l.word = wd) (h1 : 1 ≤ wd) (h7 : wd ≤ 7) (hr : Rep s sl P o) (hP : ∀ u, 16 ≤ u → P u = false) (hrd : l.rd = true → P t = true) :
    l.step s = (if clearOf P sl l.rd t wd then (if wd < 7 then { l.begun with word := wd + 1 } else if l.rd then { l.begun with at_ := 2 } else l.begun.ends true) else l.begun) ∧ Rep (l.stepS s) sl P o := by
  have hb : l.begun.at_ = 4 := ha
  have hcb : ¬ l.begun.cancel = true := by rw [show l.begun.cancel = l.cancel from rfl, hc]; simp
  have hwb : l.begun.word = wd := hw
  have hidx : l.begun.base + l.begun.word = ((1 + wd : Nat) : Int) := by rw [h.base, hwb]; omega
  have he : l.begun.drainsE s = 0 := by unfold LM.drainsE; rw [if_neg hcb, hidx]; unfold CM.err; exact if_pos (hr.in_ _ (by omega))
  obtain ⟨e1, e2⟩ := h.step (by omega) ((doesE_4 hb).trans he)
  have hoz := others_zero h.ofBegun hwb h1 h7 hr hP (show l.begun.rd = true → P t = true from hrd)
  have hrb : l.begun.rd = l.rd := rfl
  rw [e1, e2, doesL_4 hb, doesS_4 hb]
  unfold LM.drainsL LM.drainsS
  rw [if_neg hcb, if_neg hcb, hidx]
  refine ⟨?_, hr⟩
  by_cases hcl : clearOf P sl l.rd t wd
  · rw [if_pos hcl, if_neg (by rw [bne_iff_ne, ne_eq, Decidable.not_not]; exact hoz.2 hcl)]
    by_cases h77 : wd < 7
    · rw [if_pos h77, if_pos (by rw [hwb]; omega)]; unfold LM.begun; dsimp only; rw [hw]
    · rw [if_neg h77, if_neg (by rw [hwb]; omega)]; rfl
  · rw [if_neg hcl, if_pos (by rw [bne_iff_ne]; exact fun hz => hcl (hoz.1 hz))]
theorem step4c (h : Of l th sl t) (ha : l.at_ = 4) (hc : l.cancel = true) (hr : Rep s sl P o) : l.step s = l.begun.ends false ∧ Rep (l.stepS s) sl P 0 := by
  have hb : l.begun.at_ = 4 := ha
  have hcb : l.begun.cancel = true := hc
  have he : l.begun.drainsE s = 0 := by unfold LM.drainsE; rw [if_pos hcb, h.base]; exact hr.err1
  obtain ⟨e1, e2⟩ := h.step (by omega) ((doesE_4 hb).trans he)
  rw [e1, e2, doesL_4 hb, doesS_4 hb]
  unfold LM.drainsL LM.drainsS
  rw [if_pos hcb, if_pos hcb, h.base]
  exact ⟨rfl, hr.freed⟩
end
end Go.Proofs.Yteopldhcmddokaa
