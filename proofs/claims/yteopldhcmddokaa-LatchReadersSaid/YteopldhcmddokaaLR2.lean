/- Readers and one writer that drains: the plain law. No program. -/
import Derived.Test.YteopldhcmddokaaLR1
namespace Go.Proofs.Yteopldhcmddokaa
open Go.RowKit

theorem Of.read (th sl t : Nat) (h1 : t < th) (h2 : th ≤ 16) (h3 : sl ≤ 48) : Of (LM.read (oneC th sl) 2 t) th sl t := ⟨rfl, rfl, rfl, h1, h2, h3⟩
theorem Of.write (th sl t : Nat) (rd : Bool) (h1 : t < th) (h2 : th ≤ 16) (h3 : sl ≤ 48) : Of (LM.write (oneC th sl) 2 t rd) th sl t := ⟨rfl, rfl, rfl, h1, h2, h3⟩
theorem Of.endRead (th sl t : Nat) (h1 : t < th) (h2 : th ≤ 16) (h3 : sl ≤ 48) : Of (LM.endRead (oneC th sl) 2 t) th sl t := ⟨rfl, rfl, rfl, h1, h2, h3⟩
theorem Of.endWrite (th sl t : Nat) (h1 : t < th) (h2 : th ≤ 16) (h3 : sl ≤ 48) : Of (LM.endWrite (oneC th sl) 2 t) th sl t := ⟨rfl, rfl, rfl, h1, h2, h3⟩
theorem Of.of_begun {l l' : LM} {th sl t : Nat} (h : Of l th sl t) (h1 : l'.c = l.begun.c) (h2 : l'.node = l.begun.node) (h3 : l'.th = l.begun.th) : Of l' th sl t :=
  ⟨h1.trans h.ofBegun.c, h2.trans h.ofBegun.node, h3.trans h.ofBegun.who, h.h1, h.h2, h.h3⟩
theorem thru_succ (n : Nat) (l : LM) (s : CM) : thru (n + 1) l s = if (l.step s).over then (l.step s, l.stepS s, (l.step s).got) else thru n (l.step s) (l.stepS s) := rfl

section
variable {th sl t : Nat} {s : CM} {P : Nat → Bool} {o : Int}
theorem setAt_back (P : Nat → Bool) (t : Nat) (b : Bool) (h : P t = !b) : setAt (setAt P t b) t (!b) = P := by
  funext u
  unfold setAt
  by_cases e : u = t
  · rw [if_pos e, e, h]
  · rw [if_neg e, if_neg e]
theorem thru_two {l : LM} (h1 : (l.step s).over = false) (h2 : ((l.step s).step (l.stepS s)).over = true) : thru 20 l s = ((l.step s).step (l.stepS s), (l.step s).stepS (l.stepS s), ((l.step s).step (l.stepS s)).got) := by
  show thru (18 + 1 + 1) l s = _
  rw [thru_succ, if_neg (by rw [h1]; simp), thru_succ, if_pos h2]
theorem thru_three {l : LM} (h1 : (l.step s).over = false) (h2 : ((l.step s).step (l.stepS s)).over = false) (h3 : (((l.step s).step (l.stepS s)).step ((l.step s).stepS (l.stepS s))).over = true) :
    thru 20 l s = (((l.step s).step (l.stepS s)).step ((l.step s).stepS (l.stepS s)), ((l.step s).step (l.stepS s)).stepS ((l.step s).stepS (l.stepS s)), (((l.step s).step (l.stepS s)).step ((l.step s).stepS (l.stepS s))).got) := by
  show thru (17 + 1 + 1 + 1) l s = _
  rw [thru_succ, if_neg (by rw [h1]; simp), thru_succ, if_neg (by rw [h2]; simp), thru_succ, if_pos h3]
theorem thru_one {l : LM} (h1 : (l.step s).over = true) : thru 20 l s = (l.step s, l.stepS s, (l.step s).got) := by
  show thru (19 + 1) l s = _
  rw [thru_succ, if_pos h1]
theorem over_of {l : LM} {a : Int} (h : l.at_ = a) (ha : a ≠ 6) : l.over = false := by unfold LM.over; rw [h]; simpa using ha
theorem thru_read (h1 : t < th) (h2 : th ≤ 16) (h3 : sl ≤ 48) (hr : Rep s sl P 0) (hp : P t = false) :
    (thru 20 (LM.read (oneC th sl) 2 t) s).2.2 = true ∧ Rep (thru 20 (LM.read (oneC th sl) 2 t) s).2.1 sl (setAt P t true) 0 := by
  have hl := Of.read th sl t h1 h2 h3
  have ha0 : (LM.read (oneC th sl) 2 t).at_ = 0 := rfl
  generalize LM.read (oneC th sl) 2 t = l at *
  obtain ⟨e1, r1⟩ := step0 hl ha0 hr hp
  have hl1 : Of (l.step s) th sl t := by rw [e1]; exact hl.of_begun rfl rfl rfl
  have ha1 : (l.step s).at_ = 1 := by rw [e1]
  obtain ⟨e2, r2⟩ := step1 hl1 ha1 r1
  rw [if_pos (.inl rfl)] at e2
  rw [thru_two (over_of ha1 (by omega)) (by rw [e2]; rfl)]
  exact ⟨by rw [e2]; rfl, r2⟩
theorem thru_late (h1 : t < th) (h2 : th ≤ 16) (h3 : sl ≤ 48) (hr : Rep s sl P o) (hp : P t = false) (ho : o ≠ 0) (ho2 : o ≠ t + 1) :
    (thru 20 (LM.read (oneC th sl) 2 t) s).2.2 = false ∧ Rep (thru 20 (LM.read (oneC th sl) 2 t) s).2.1 sl P o := by
  have hl := Of.read th sl t h1 h2 h3
  have ha0 : (LM.read (oneC th sl) 2 t).at_ = 0 := rfl
  have hg0 : (LM.read (oneC th sl) 2 t).good = false := rfl
  generalize LM.read (oneC th sl) 2 t = l at *
  obtain ⟨e1, r1⟩ := step0 hl ha0 hr hp
  have hl1 : Of (l.step s) th sl t := by rw [e1]; exact hl.of_begun rfl rfl rfl
  have ha1 : (l.step s).at_ = 1 := by rw [e1]
  have hg1 : (l.step s).good = false := by rw [e1]; exact hg0
  obtain ⟨e2, r2⟩ := step1 hl1 ha1 r1
  rw [if_neg (by omega)] at e2
  have hl2 : Of ((l.step s).step (l.stepS s)) th sl t := by rw [e2]; exact hl1.of_begun rfl rfl rfl
  have ha2 : ((l.step s).step (l.stepS s)).at_ = 2 := by rw [e2]
  have hg2 : ((l.step s).step (l.stepS s)).good = false := by rw [e2]; exact hg1
  obtain ⟨e3, r3⟩ := step2 hl2 ha2 r2 (by unfold setAt; rw [if_pos rfl])
  rw [hg2] at e3
  rw [show setAt (setAt P t true) t false = P from setAt_back P t true (by rw [hp]; rfl)] at r3
  rw [thru_three (over_of ha1 (by omega)) (over_of ha2 (by omega)) (by rw [e3]; rfl)]
  exact ⟨by rw [e3]; rfl, r3⟩
theorem thru_endRead (h1 : t < th) (h2 : th ≤ 16) (h3 : sl ≤ 48) (hr : Rep s sl P o) (hp : P t = true) :
    (thru 20 (LM.endRead (oneC th sl) 2 t) s).2.2 = true ∧ Rep (thru 20 (LM.endRead (oneC th sl) 2 t) s).2.1 sl (setAt P t false) o := by
  have hl := Of.endRead th sl t h1 h2 h3
  have ha0 : (LM.endRead (oneC th sl) 2 t).at_ = 2 := rfl
  have hg0 : (LM.endRead (oneC th sl) 2 t).good = true := rfl
  generalize LM.endRead (oneC th sl) 2 t = l at *
  obtain ⟨e1, r1⟩ := step2 hl ha0 hr hp
  rw [hg0] at e1
  rw [thru_one (by rw [e1]; rfl)]
  exact ⟨by rw [e1]; rfl, r1⟩

/-- A writer without a mark of its own that drains word wd. -/
structure DW (l : LM) (th sl t wd : Nat) : Prop where
  of : Of l th sl t
  at_ : l.at_ = 4
  cancel : l.cancel = false
  rd : l.rd = false
  word : l.word = wd
theorem over_step {l : LM} (h : l.at_ = 6) : l.step s = l ∧ l.stepS s = s := by unfold LM.step LM.stepS; rw [if_pos h, if_pos h]; exact ⟨rfl, rfl⟩
theorem over_run {l : LM} (h : l.at_ = 6) : ∀ n, runLM n l s = (l, s)
  | 0 => rfl
  | n + 1 => by show runLM n (l.step s) (l.stepS s) = _; rw [(over_step h).1, (over_step h).2]; exact over_run h n
/-- While somebody reads it drains on. -/
theorem drain_on (hP : ∀ u, 16 ≤ u → P u = false) (hsome : ∃ u, u < 16 ∧ P u = true) : ∀ (m : Nat) (l : LM) (s : CM) (wd : Nat), DW l th sl t wd → 1 ≤ wd → wd ≤ 7 → (∀ u, u < 16 → P u = true → wd ≤ wordOf sl u) → Rep s sl P o →
    ∃ wd', DW (runLM m l s).1 th sl t wd' ∧ 1 ≤ wd' ∧ wd' ≤ 7 ∧ (∀ u, u < 16 → P u = true → wd' ≤ wordOf sl u) ∧ Rep (runLM m l s).2 sl P o
  | 0, l, s, wd, h, h1, h7, hw, hr => ⟨wd, h, h1, h7, hw, hr⟩
  | m + 1, l, s, wd, h, h1, h7, hw, hr => by
    obtain ⟨e, r⟩ := step4 h.of h.at_ h.cancel h.word h1 h7 hr hP (by rw [h.rd]; simp)
    show ∃ wd', DW (runLM m (l.step s) (l.stepS s)).1 th sl t wd' ∧ _
    by_cases hcl : clearOf P sl l.rd t wd
    · have hno : ∀ u, u < 16 → P u = true → wordOf sl u ≠ wd := fun u hu hp he => by have := (hcl u hu he hp).1; rw [h.rd] at this; cases this
      rw [if_pos hcl] at e
      by_cases h77 : wd < 7
      · rw [if_pos h77] at e
        refine drain_on hP hsome m _ _ (wd + 1) ⟨by rw [e]; exact h.of.of_begun rfl rfl rfl, by rw [e]; exact h.at_, by rw [e]; exact h.cancel, by rw [e]; exact h.rd, by rw [e]; rfl⟩ (by omega) (by omega) (fun u hu hp => ?_) r
        have := hw u hu hp; have := hno u hu hp; omega
      · obtain ⟨u, hu, hp⟩ := hsome
        have h2 := hw u hu hp
        have h3 := hno u hu hp
        have h4 : wordOf sl u ≤ 7 := by unfold wordOf; split <;> omega
        omega
    · rw [if_neg hcl] at e
      exact drain_on hP hsome m _ _ wd ⟨by rw [e]; exact h.of.ofBegun, by rw [e]; exact h.at_, by rw [e]; exact h.cancel, by rw [e]; exact h.rd, by rw [e]; exact h.word⟩ h1 h7 hw r
/-- When nobody reads it ends, and has got it. -/
theorem drain_out (hP : ∀ u, P u = false) : ∀ (m : Nat) (l : LM) (s : CM) (wd : Nat), DW l th sl t wd → 1 ≤ wd → wd ≤ 7 → Rep s sl P o → 8 - wd ≤ m → (runLM m l s).1.at_ = 6 ∧ (runLM m l s).1.got = true ∧ Rep (runLM m l s).2 sl P o
  | 0, _, _, _, _, _, h7, _, hm => by omega
  | m + 1, l, s, wd, h, h1, h7, hr, hm => by
    obtain ⟨e, r⟩ := step4 h.of h.at_ h.cancel h.word h1 h7 hr (fun u _ => hP u) (by rw [h.rd]; simp)
    have hcl : clearOf P sl l.rd t wd := fun u _ _ hp => by rw [hP u] at hp; cases hp
    rw [if_pos hcl] at e
    show (runLM m (l.step s) (l.stepS s)).1.at_ = 6 ∧ _
    by_cases h77 : wd < 7
    · rw [if_pos h77] at e
      exact drain_out hP m _ _ (wd + 1) ⟨by rw [e]; exact h.of.of_begun rfl rfl rfl, by rw [e]; exact h.at_, by rw [e]; exact h.cancel, by rw [e]; exact h.rd, by rw [e]; rfl⟩ (by omega) (by omega) r (by omega)
    · rw [if_neg h77, h.rd] at e
      have ha : (l.step s).at_ = 6 := by rw [e]; rfl
      rw [show runLM m (l.step s) (l.stepS s) = (l.step s, l.stepS s) from over_run ha m, show runLM (m + 1) l s = (l.step s, l.stepS s) from over_run ha m]
      exact ⟨ha, by show (l.step s).got = true; rw [e]; rfl, r⟩
/-- Twelve steps of a new writer. -/
theorem write_twelve (h1 : t < th) (h2 : th ≤ 16) (h3 : sl ≤ 48) (hr : Rep s sl P 0) (hP : ∀ u, 16 ≤ u → P u = false) :
    ((∃ u, u < 16 ∧ P u = true) → ∃ wd, DW (runLM 12 (LM.write (oneC th sl) 2 t false) s).1 th sl t wd ∧ 1 ≤ wd ∧ wd ≤ 7 ∧ (∀ u, u < 16 → P u = true → wd ≤ wordOf sl u) ∧ Rep (runLM 12 (LM.write (oneC th sl) 2 t false) s).2 sl P (t + 1)) ∧
    ((∀ u, P u = false) → (runLM 12 (LM.write (oneC th sl) 2 t false) s).1.at_ = 6 ∧ (runLM 12 (LM.write (oneC th sl) 2 t false) s).1.got = true ∧ Rep (runLM 12 (LM.write (oneC th sl) 2 t false) s).2 sl P (t + 1)) := by
  have hl := Of.write th sl t false h1 h2 h3
  have ha0 : (LM.write (oneC th sl) 2 t false).at_ = 3 := rfl
  have hc0 : (LM.write (oneC th sl) 2 t false).cancel = false := rfl
  have hr0 : (LM.write (oneC th sl) 2 t false).rd = false := rfl
  have hw0 : (LM.write (oneC th sl) 2 t false).word = ((1 : Nat) : Int) := rfl
  generalize LM.write (oneC th sl) 2 t false = l at *
  obtain ⟨e, r⟩ := (step3 hl ha0 hr).1 rfl
  have hd : DW (l.step s) th sl t 1 := ⟨by rw [e]; exact hl.of_begun rfl rfl rfl, by rw [e], by rw [e]; exact hc0, by rw [e]; exact hr0, by rw [e]; exact hw0⟩
  show ((_) → ∃ wd, DW (runLM 11 (l.step s) (l.stepS s)).1 th sl t wd ∧ _) ∧ _
  constructor
  · intro hsome
    exact drain_on hP hsome 11 _ _ 1 hd (by omega) (by omega) (fun u _ _ => by unfold wordOf; split <;> omega) r
  · intro hnone
    exact drain_out hnone 11 _ _ 1 hd (by omega) (by omega) r (by omega)
end
theorem cnt_below (r : Nat) : ∀ n, cntTo (fun u => decide (u < r)) 0 n = min n r
  | 0 => by simp [cntTo]
  | n + 1 => by
    have := cnt_below r n
    unfold cntTo
    rw [this]
    by_cases h : n < r
    · simp [h]; omega
    · simp [h]; omega
theorem rep_zero (sl : Nat) : Rep (CM.zero 9) sl (fun _ => false) 0 := by
  have h : ∀ j, pk (rowOf (fun _ => false) sl j) = 0 := fun j => (pk_zero _).2 (fun k _ => by simp [rowOf])
  have hc : cntTo (fun _ => false) sl 16 = 0 := (cntTo_zero _ _ _).2 (fun _ _ _ => rfl)
  unfold Rep nine
  rw [h, h, h, h, h, h, hc]
  rfl
end Go.Proofs.Yteopldhcmddokaa
