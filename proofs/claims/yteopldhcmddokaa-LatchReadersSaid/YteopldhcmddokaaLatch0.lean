/- Latches as they lie in a world, and what each step of one does: the plain machine. -/
import Derived.Test.YteopldhcmddokaaCells
import Derived.Test.YteopldhcmddokaaShape
import Derived.Test.YteopldhcmddokaaBits
namespace Go.Proofs.Yteopldhcmddokaa
open Go.RowKit

/-- One latch under way. -/
structure LM where
  c : Conf
  node : Int
  th : Int
  at_ : Int
  good : Bool
  rd : Bool
  word : Int
  base : Int
  steps : Int
  cancel : Bool
  got : Bool
  e : Int

def LM.cells (l : LM) : Array Value := #[.int .i64 l.c.r, .int .i64 l.c.o, .int .i64 l.c.s, .int .i64 l.c.wd, .int .i64 l.c.th, .int .i64 l.c.sl, .int .i64 l.c.rg, .int .i64 l.c.lk, .int .i64 l.c.un, .int .i64 l.c.es, .int .i64 l.c.tk, .int .i64 l.c.po,
  .int .i64 l.node, .int .i64 l.th, .int .i64 l.at_, .bool l.good, .bool l.rd, .int .i64 l.word, .int .i64 l.base, .int .i64 l.steps, .bool l.cancel, .bool l.got, .int .i64 l.e]
/-- The latch behind block b. -/
def LatchAt (w : World) (b : Nat) (l : LM) : Prop := w.heap[b]? = some (.cells l.cells 73 (0, 0))
theorem LatchAt.frame {w w' : World} {b : Nat} {l : LM} {S : Nat → Prop} (h : LatchAt w b l) (hf : Fr S w w') (hs : ¬ S b) : LatchAt w' b l := hf.heap h hs
theorem LatchAt.drew {w : World} {b : Nat} {l : LM} (h : LatchAt w b l) : LatchAt w.drew b l := h
theorem LatchAt.drewN {w : World} {b : Nat} {l : LM} (h : LatchAt w b l) (n : Nat) : LatchAt (w.drewN n) b l := h
theorem LatchAt.lt {w : World} {b : Nat} {l : LM} (h : LatchAt w b l) : b < w.heap.size := blk_lt h
theorem LatchAt.free {w : World} {b : Nat} {l : LM} (h : LatchAt w b l) (o : Nat) : w.frozen? ⟨b, o, none⟩ = false := blk_free h o
theorem LatchAt.conf {w : World} {b : Nat} {l : LM} (h : LatchAt w b l) :
    w.cell? ⟨b, 0, none⟩ = some (.int .i64 l.c.r) ∧ w.cell? ⟨b, 1, none⟩ = some (.int .i64 l.c.o) ∧ w.cell? ⟨b, 2, none⟩ = some (.int .i64 l.c.s) ∧ w.cell? ⟨b, 3, none⟩ = some (.int .i64 l.c.wd) ∧
    w.cell? ⟨b, 4, none⟩ = some (.int .i64 l.c.th) ∧ w.cell? ⟨b, 5, none⟩ = some (.int .i64 l.c.sl) ∧ w.cell? ⟨b, 6, none⟩ = some (.int .i64 l.c.rg) ∧ w.cell? ⟨b, 7, none⟩ = some (.int .i64 l.c.lk) ∧
    w.cell? ⟨b, 8, none⟩ = some (.int .i64 l.c.un) ∧ w.cell? ⟨b, 9, none⟩ = some (.int .i64 l.c.es) ∧ w.cell? ⟨b, 10, none⟩ = some (.int .i64 l.c.tk) ∧ w.cell? ⟨b, 11, none⟩ = some (.int .i64 l.c.po) := by
  unfold LatchAt at h
  refine ⟨?_, ?_, ?_, ?_, ?_, ?_, ?_, ?_, ?_, ?_, ?_, ?_⟩ <;> (rw [blk_cell h]; rfl)
theorem LatchAt.conf13 {w : World} {b : Nat} {l : LM} (h : LatchAt w b l) :
    w.cell? ⟨b, 0, none⟩ = some (.int .i64 l.c.r) ∧ w.cell? ⟨b, 1, none⟩ = some (.int .i64 l.c.o) ∧ w.cell? ⟨b, 2, none⟩ = some (.int .i64 l.c.s) ∧ w.cell? ⟨b, 3, none⟩ = some (.int .i64 l.c.wd) ∧ w.cell? ⟨b, 4, none⟩ = some (.int .i64 l.c.th) ∧ w.cell? ⟨b, 5, none⟩ = some (.int .i64 l.c.sl) ∧ w.cell? ⟨b, 6, none⟩ = some (.int .i64 l.c.rg) ∧ w.cell? ⟨b, 7, none⟩ = some (.int .i64 l.c.lk) ∧ w.cell? ⟨b, 8, none⟩ = some (.int .i64 l.c.un) ∧ w.cell? ⟨b, 9, none⟩ = some (.int .i64 l.c.es) ∧ w.cell? ⟨b, 10, none⟩ = some (.int .i64 l.c.tk) ∧ w.cell? ⟨b, 11, none⟩ = some (.int .i64 l.c.po) ∧ w.cell? ⟨b, 12, none⟩ = some (.int .i64 l.node) := by
  unfold LatchAt at h
  refine ⟨?_, ?_, ?_, ?_, ?_, ?_, ?_, ?_, ?_, ?_, ?_, ?_, ?_⟩ <;> (rw [blk_cell h]; rfl)
theorem LatchAt.cell {w : World} {b : Nat} {l : LM} (h : LatchAt w b l) :
    (w.cell? ⟨b, 4, none⟩ = some (.int .i64 l.c.th) ∧ w.cell? ⟨b, 5, none⟩ = some (.int .i64 l.c.sl)) ∧
    w.cell? ⟨b, 12, none⟩ = some (.int .i64 l.node) ∧ w.cell? ⟨b, 13, none⟩ = some (.int .i64 l.th) ∧ w.cell? ⟨b, 14, none⟩ = some (.int .i64 l.at_) ∧ w.cell? ⟨b, 15, none⟩ = some (.bool l.good) ∧
    w.cell? ⟨b, 16, none⟩ = some (.bool l.rd) ∧ w.cell? ⟨b, 17, none⟩ = some (.int .i64 l.word) ∧ w.cell? ⟨b, 18, none⟩ = some (.int .i64 l.base) ∧ w.cell? ⟨b, 19, none⟩ = some (.int .i64 l.steps) ∧
    w.cell? ⟨b, 20, none⟩ = some (.bool l.cancel) ∧ w.cell? ⟨b, 21, none⟩ = some (.bool l.got) ∧ w.cell? ⟨b, 22, none⟩ = some (.int .i64 l.e) := by
  unfold LatchAt at h
  refine ⟨⟨?_, ?_⟩, ?_, ?_, ?_, ?_, ?_, ?_, ?_, ?_, ?_, ?_, ?_⟩ <;> (rw [blk_cell h]; rfl)
theorem LatchAt.c_node {w : World} {b : Nat} {l : LM} (h : LatchAt w b l) : w.cell? ⟨b, 12, none⟩ = some (.int .i64 l.node) := by unfold LatchAt at h; rw [blk_cell h]; rfl
theorem LatchAt.c_th {w : World} {b : Nat} {l : LM} (h : LatchAt w b l) : w.cell? ⟨b, 13, none⟩ = some (.int .i64 l.th) := by unfold LatchAt at h; rw [blk_cell h]; rfl
theorem LatchAt.c_at {w : World} {b : Nat} {l : LM} (h : LatchAt w b l) : w.cell? ⟨b, 14, none⟩ = some (.int .i64 l.at_) := by unfold LatchAt at h; rw [blk_cell h]; rfl
theorem LatchAt.c_good {w : World} {b : Nat} {l : LM} (h : LatchAt w b l) : w.cell? ⟨b, 15, none⟩ = some (.bool l.good) := by unfold LatchAt at h; rw [blk_cell h]; rfl
theorem LatchAt.c_rd {w : World} {b : Nat} {l : LM} (h : LatchAt w b l) : w.cell? ⟨b, 16, none⟩ = some (.bool l.rd) := by unfold LatchAt at h; rw [blk_cell h]; rfl
theorem LatchAt.c_word {w : World} {b : Nat} {l : LM} (h : LatchAt w b l) : w.cell? ⟨b, 17, none⟩ = some (.int .i64 l.word) := by unfold LatchAt at h; rw [blk_cell h]; rfl
theorem LatchAt.c_base {w : World} {b : Nat} {l : LM} (h : LatchAt w b l) : w.cell? ⟨b, 18, none⟩ = some (.int .i64 l.base) := by unfold LatchAt at h; rw [blk_cell h]; rfl
theorem LatchAt.c_steps {w : World} {b : Nat} {l : LM} (h : LatchAt w b l) : w.cell? ⟨b, 19, none⟩ = some (.int .i64 l.steps) := by unfold LatchAt at h; rw [blk_cell h]; rfl
theorem LatchAt.c_cancel {w : World} {b : Nat} {l : LM} (h : LatchAt w b l) : w.cell? ⟨b, 20, none⟩ = some (.bool l.cancel) := by unfold LatchAt at h; rw [blk_cell h]; rfl
theorem LatchAt.c_got {w : World} {b : Nat} {l : LM} (h : LatchAt w b l) : w.cell? ⟨b, 21, none⟩ = some (.bool l.got) := by unfold LatchAt at h; rw [blk_cell h]; rfl
theorem LatchAt.c_e {w : World} {b : Nat} {l : LM} (h : LatchAt w b l) : w.cell? ⟨b, 22, none⟩ = some (.int .i64 l.e) := by unfold LatchAt at h; rw [blk_cell h]; rfl
theorem LatchAt.setAt {w : World} {b : Nat} {l : LM} (h : LatchAt w b l) (n : Int) : LatchAt (w.setCell ⟨b, 14, none⟩ (.int .i64 n)) b { l with at_ := n } := by unfold LatchAt at *; rw [blk_set h]; rfl
theorem LatchAt.setWord {w : World} {b : Nat} {l : LM} (h : LatchAt w b l) (n : Int) : LatchAt (w.setCell ⟨b, 17, none⟩ (.int .i64 n)) b { l with word := n } := by unfold LatchAt at *; rw [blk_set h]; rfl
theorem LatchAt.setBase {w : World} {b : Nat} {l : LM} (h : LatchAt w b l) (n : Int) : LatchAt (w.setCell ⟨b, 18, none⟩ (.int .i64 n)) b { l with base := n } := by unfold LatchAt at *; rw [blk_set h]; rfl
theorem LatchAt.setSteps {w : World} {b : Nat} {l : LM} (h : LatchAt w b l) (n : Int) : LatchAt (w.setCell ⟨b, 19, none⟩ (.int .i64 n)) b { l with steps := n } := by unfold LatchAt at *; rw [blk_set h]; rfl
theorem LatchAt.setCancel {w : World} {b : Nat} {l : LM} (h : LatchAt w b l) (n : Bool) : LatchAt (w.setCell ⟨b, 20, none⟩ (.bool n)) b { l with cancel := n } := by unfold LatchAt at *; rw [blk_set h]; rfl
theorem LatchAt.setGot {w : World} {b : Nat} {l : LM} (h : LatchAt w b l) (n : Bool) : LatchAt (w.setCell ⟨b, 21, none⟩ (.bool n)) b { l with got := n } := by unfold LatchAt at *; rw [blk_set h]; rfl
theorem LatchAt.setE {w : World} {b : Nat} {l : LM} (h : LatchAt w b l) (n : Int) : LatchAt (w.setCell ⟨b, 22, none⟩ (.int .i64 n)) b { l with e := n } := by unfold LatchAt at *; rw [blk_set h]; rfl

/-! What a step does. -/
def LM.ends (l : LM) (g : Bool) : LM := { l with at_ := 6, got := g }
def LM.slotted (l : LM) : Bool := decide (l.th < l.c.sl)
def LM.w8 (l : LM) : Int := 1 + l.th / 8
def LM.k8 (l : LM) : Int := l.th % 8
def up (n : Int) : Int := if n < 0 then 0 else n
/-- The thread is a reader, or none any more. -/
def LM.readsS (l : LM) (s : CM) (n : Int) : CM := if l.slotted then s.storeB (l.base + l.w8) l.k8 (up n) else s.add (l.base + 7) n
def LM.readsE (l : LM) (s : CM) (n : Int) : Int := if l.slotted then s.errS (l.base + l.w8) l.k8 (up n) else s.err (l.base + 7)
def LM.others (l : LM) (n : Int) : Int :=
  if l.rd && l.slotted && l.w8 == l.word then bits .andNot .i64 n (wrap64 (255 * 2 ^ (8 * l.k8).toNat))
  else if l.rd && !l.slotted && l.word == 7 then wrap64 (n - 1) else n
def LM.drainsL (l : LM) (s : CM) : LM :=
  if l.cancel then l.ends false
  else if l.others (s.word (l.base + l.word)) != 0 then l
  else if l.word < 7 then { l with word := l.word + 1 }
  else if l.rd then { l with at_ := 2 }
  else l.ends true
def LM.drainsS (l : LM) (s : CM) : CM := if l.cancel then s.store l.base 0 else s.tick
def LM.drainsE (l : LM) (s : CM) : Int := if l.cancel then s.err l.base else s.err (l.base + l.word)
def LM.doesL (l : LM) (s : CM) : LM :=
  if l.at_ = 0 then { l with at_ := 1 }
  else if l.at_ = 1 then (if s.word l.base == 0 || s.word l.base == l.th + 1 then LM.ends { l with at_ := 2 } true else { l with at_ := 2 })
  else if l.at_ = 2 then l.ends l.good
  else if l.at_ = 3 then (if s.hit l.base 0 then { l with at_ := 4 } else LM.ends { l with at_ := 4 } false)
  else if l.at_ = 4 then l.drainsL s
  else l.ends true
def LM.doesS (l : LM) (s : CM) : CM :=
  if l.at_ = 0 then l.readsS s 1
  else if l.at_ = 1 then s.tick
  else if l.at_ = 2 then l.readsS s (-1)
  else if l.at_ = 3 then s.swap l.base 0 (l.th + 1)
  else if l.at_ = 4 then l.drainsS s
  else s.store l.base 0
def LM.doesE (l : LM) (s : CM) : Int :=
  if l.at_ = 0 then l.readsE s 1
  else if l.at_ = 1 then s.err l.base
  else if l.at_ = 2 then l.readsE s (-1)
  else if l.at_ = 3 then s.err l.base
  else if l.at_ = 4 then l.drainsE s
  else s.err l.base
/-- With its step counted and its place found. -/
def LM.begun (l : LM) : LM := { l with steps := wrap64 (l.steps + 1), base := l.c.latch l.node }
def LM.fit (l : LM) : Bool := decide (0 ≤ l.c.latch l.node) && decide (0 ≤ l.th) && decide (l.th < l.c.th)
def LM.spoilt (l : LM) : LM := { l.ends false with e := 13 }
def LM.step (l : LM) (s : CM) : LM :=
  if l.at_ = 6 then l
  else if l.fit then (if l.begun.doesE s = 0 then l.begun.doesL s else (l.begun.doesL s).spoilt)
  else l.begun.spoilt
def LM.stepS (l : LM) (s : CM) : CM :=
  if l.at_ = 6 then s else if l.fit then l.begun.doesS s else s
def LM.over (l : LM) : Bool := l.at_ == 6
def LM.cancelled (l : LM) : LM := if l.at_ = 3 then l.ends false else if l.at_ = 4 then { l with cancel := true } else l
def LM.read (c : Conf) (node th : Int) : LM := ⟨c, node, th, 0, false, false, 0, 0, 0, false, false, 0⟩
def LM.write (c : Conf) (node th : Int) (rd : Bool) : LM := ⟨c, node, th, 3, true, rd, 1, 0, 0, false, false, 0⟩
def LM.endRead (c : Conf) (node th : Int) : LM := ⟨c, node, th, 2, true, false, 0, 0, 0, false, false, 0⟩
def LM.endWrite (c : Conf) (node th : Int) : LM := ⟨c, node, th, 5, true, false, 0, 0, 0, false, false, 0⟩

/-- The blocks that a step may turn. -/
def trio (b p ab : Nat) : Nat → Prop := fun k => k = b ∨ k = p ∨ k = ab
def lone1 (b : Nat) : Nat → Prop := fun k => k = b
/-- A latch and its cells, apart. -/
structure LC (w : World) (b p ab : Nat) (l : LM) (s : CM) : Prop where
  l : LatchAt w b l
  s : CellsAt w p ab s
  d1 : b ≠ p
  d2 : b ≠ ab
theorem ne_latch_cells {w : World} {b p ab : Nat} {l : LM} {s : CM} (h : LatchAt w b l) (k : CellsAt w p ab s) : b ≠ p ∧ b ≠ ab :=
  ⟨ne_of_blk h k.hp (by intro e; injection e with e1; have := congrArg Array.size e1; simp [LM.cells] at this), ne_of_blk h k.ha (by intro e; injection e with _ e2; exact absurd e2 (by decide))⟩
theorem LC.of {w : World} {b p ab : Nat} {l : LM} {s : CM} (h : LatchAt w b l) (k : CellsAt w p ab s) : LC w b p ab l s := ⟨h, k, (ne_latch_cells h k).1, (ne_latch_cells h k).2⟩
theorem LC.drewN {w : World} {b p ab : Nat} {l : LM} {s : CM} (h : LC w b p ab l s) (n : Nat) : LC (w.drewN n) b p ab l s := ⟨h.l, ⟨h.s.len, h.s.hp, h.s.ha, h.s.ne⟩, h.d1, h.d2⟩
theorem LC.frame {w w' : World} {b p ab : Nat} {l : LM} {s : CM} {S : Nat → Prop} (h : LC w b p ab l s) (hf : Fr S w w') (hb : ¬ S b) (hp : ¬ S p) (ha : ¬ S ab) : LC w' b p ab l s := ⟨h.l.frame hf hb, h.s.frame hf hp ha, h.d1, h.d2⟩
/-- Behind an access of the cells. -/
theorem LC.access {w w' : World} {b p ab : Nat} {l : LM} {s s' : CM} (h : LC w b p ab l s) (k : CellsAt w' p ab s') (hf : Fr (two p ab) w w') : LC w' b p ab l s' :=
  ⟨h.l.frame hf (by have := h.d1; have := h.d2; unfold two; omega), k, h.d1, h.d2⟩
/-- Behind a store into the latch. -/
theorem LC.stored {w w' : World} {b p ab : Nat} {l l' : LM} {s : CM} (h : LC w b p ab l s) (k : LatchAt w' b l') (hf : Fr (lone1 b) w w') : LC w' b p ab l' s :=
  ⟨k, h.s.frame hf (by have := h.d1; unfold lone1; omega) (by have := h.d2; unfold lone1; omega), h.d1, h.d2⟩
theorem fr_set (w : World) (b o : Nat) (v : Value) : Fr (lone1 b) w (w.setCell ⟨b, o, none⟩ v) := (Fr.refl (lone1 b) w).setCell (p := ⟨b, o, none⟩) (.inl rfl) v
theorem Fr.tri {a c : World} {b p ab : Nat} (h : Fr (lone1 b) a c) : Fr (trio b p ab) a c := h.mono (fun _ x => .inl x)
theorem Fr.tri2 {a c : World} {b p ab : Nat} (h : Fr (two p ab) a c) : Fr (trio b p ab) a c := h.mono (fun _ x => .inr x)
theorem Fr.tri0 {a c : World} {b p ab : Nat} (h : Fr (fun _ => False) a c) : Fr (trio b p ab) a c := h.mono (fun _ x => x.elim)
end Go.Proofs.Yteopldhcmddokaa
