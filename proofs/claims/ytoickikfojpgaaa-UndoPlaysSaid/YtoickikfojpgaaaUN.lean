/- Two logs, the program's and the document's, apart from each other: what each call does. -/
import Derived.Test.YtoickikfojpgaaaUH
import Derived.Test.YtoickikfojpgaaaUM
namespace Go.Proofs.Ytoickikfojpgaaa
open Go.RowKit

structure Two (w wr : World) (la : Nat) (va : Value) (xa : List Acc) (lb : Nat) (vb : Value) (xb : List Acc) (most : Int) : Prop where
  a : LogIn w wr la va xa most
  b : RLogAt wr lb vb xb most
  lb : w.heap.size ≤ lb
  own : ∀ g, vb.ownBlock = some g → w.heap.size ≤ g
  ap : ∀ g, va.ownBlock = some g → vb.ownBlock ≠ some g

theorem type_ne {w : World} {k : Nat} {x y : Array Value} {S T : TypeId} (h1 : w.heap[k]? = some (.cells x S (0, 0))) (h2 : w.heap[k]? = some (.cells y T (0, 0))) (h : S ≠ T) : False := by
  rw [h1] at h2
  injection h2 with h2
  injection h2 with _ h2
  exact h h2
theorem LogAt.offA {w : World} {la : Nat} {va : Value} {xa : List Acc} {most : Int} (h : LogAt w la va xa most) {k : Nat} {x : Array Value} {T : TypeId} (hb : w.heap[k]? = some (.cells x T (0, 0))) (h1 : T ≠ 51) (h2 : T ≠ 34) : ¬ LB la va k := by
  rintro (rfl | e)
  · exact type_ne hb h.blk h1
  · obtain ⟨cur, hc⟩ := row_own h.row e
    exact type_ne hb hc h2
theorem RLogAt.offB {w : World} {lb : Nat} {vb : Value} {xb : List Acc} {most : Int} (h : RLogAt w lb vb xb most) {k : Nat} {x : Array Value} {T : TypeId} (hb : w.heap[k]? = some (.cells x T (0, 0))) (h1 : T ≠ 45) (h2 : T ≠ 34) : ¬ LB lb vb k := by
  rintro (rfl | e)
  · exact type_ne hb h.blk h1
  · obtain ⟨cur, hc⟩ := row_own h.row e
    exact type_ne hb hc h2
section
variable {w wr w' : World} {la lb : Nat} {va vb : Value} {xa xb : List Acc} {most : Int}
theorem Two.frameF (h : Two w wr la va xa lb vb xb most) (hf : Fr (fun _ => False) wr w') : Two w w' la va xa lb vb xb most := ⟨h.a.frame hf, h.b.frameF hf, h.lb, h.own, h.ap⟩
/-- The document's log, behind a call on the program's. -/
theorem Two.keepB (h : Two w wr la va xa lb vb xb most) (hf : Fr (LB la va) wr w') : RLogAt w' lb vb xb most :=
  h.b.frame hf (h.a.at_.offA h.b.blk (by decide) (by decide)) (fun g hg => by
    rintro (e | e)
    · subst e
      obtain ⟨cur, hc⟩ := row_own h.b.row hg
      exact type_ne hc h.a.at_.blk (by decide)
    · exact h.ap g e hg)
theorem Two.keepA (h : Two w wr la va xa lb vb xb most) (hf : Fr (LB lb vb) wr w') : LogIn w w' la va xa most :=
  ⟨h.a.at_.frame hf (h.b.offB h.a.at_.blk (by decide) (by decide)) (fun g hg => by
    rintro (e | e)
    · subst e
      obtain ⟨cur, hc⟩ := row_own h.a.at_.row hg
      exact type_ne hc h.b.blk (by decide)
    · exact h.ap g hg e), h.a.fr.trans' hf (fun k hk hl => by
    rcases hk with rfl | hk
    · have := h.lb; omega
    · have := h.own k hk; omega), h.a.lb, h.a.own⟩
theorem Two.offNew (h : Two w wr la va xa lb vb xb most) : ¬ LB lb vb wr.heap.size := by
  rintro (e | e)
  · have := blk_lt h.b.blk; omega
  · obtain ⟨cur, hc⟩ := row_own h.b.row e
    have := blk_lt hc; omega
theorem Two.pushA (h : Two w wr la va xa lb vb xb most) (hlt : (xa.length : Int) < most) (x : Acc) : Calls Try.prog 9 #[.pointer (some ⟨la, 0, none⟩), .int .i64 x.1.1, .int .i64 x.1.2] wr fun e w' =>
    e = .returned (.int .i64 0) ∧ (∃ va', Two w w' la va' (xa ++ [x]) lb vb xb most) ∧ Fr (LB la va) wr w' := by
  refine (push_calls la va xa most x wr h.a.at_).mono ?_
  rintro e w1 (⟨h1, _⟩ | ⟨_, rfl, v', ha, ho, hf⟩)
  · omega
  · refine ⟨rfl, ⟨v', h.a.turn ha hf ho, h.keepB hf, h.lb, h.own, fun g hg e => ?_⟩, hf⟩
    rcases ho with e1 | ⟨g', e1, hb⟩
    · rw [e1] at hg; exact h.ap g hg e
    · rw [e1] at hg
      cases hg
      obtain ⟨cur, hc⟩ := row_own h.b.row e
      have := blk_lt hc
      omega
theorem Two.fullA (h : Two w wr la va xa lb vb xb most) (hlt : (xa.length : Int) = most) (x : Acc) : Calls Try.prog 9 #[.pointer (some ⟨la, 0, none⟩), .int .i64 x.1.1, .int .i64 x.1.2] wr fun e w' =>
    e = .returned (.int .i64 10) ∧ (∃ va', Two w w' la va' xa lb vb xb most) ∧ Fr (LB la va) wr w' := by
  refine (full_in h.a hlt x).mono ?_
  rintro e w1 ⟨rfl, _, hf⟩
  exact ⟨rfl, ⟨_, h.frameF hf⟩, hf.mono (fun _ x => x.elim)⟩
theorem Two.pushB (h : Two w wr la va xa lb vb xb most) (hlt : (xb.length : Int) < most) (x : Acc) : Calls Try.prog 14 #[.pointer (some ⟨lb, 0, none⟩), .int .i64 x.1.1, .int .i64 x.1.2] wr fun e w' =>
    e = .returned (.int .i64 0) ∧ (∃ vb', Two w w' la va xa lb vb' (xb ++ [x]) most) ∧ Fr (LB lb vb) wr w' := by
  refine (rpush_calls lb vb xb most x wr h.b hlt).mono ?_
  rintro e w1 ⟨rfl, v', hb, ho, hf⟩
  refine ⟨rfl, ⟨v', h.keepA hf, hb, h.lb, fun g hg => ?_, fun g hg e => ?_⟩, hf⟩
  · rcases ho with e1 | ⟨g', e1, hb⟩
    · rw [e1] at hg; exact h.own g hg
    · rw [e1] at hg; cases hg; have := h.a.fr.size; omega
  · rcases ho with e1 | ⟨g', e1, hb⟩
    · rw [e1] at e; exact h.ap g hg e
    · rw [e1] at e
      cases e
      obtain ⟨cur, hc⟩ := row_own h.a.at_.row hg
      have := blk_lt hc
      omega
theorem Two.fullB (h : Two w wr la va xa lb vb xb most) (hlt : (xb.length : Int) = most) (x : Acc) : Calls Try.prog 14 #[.pointer (some ⟨lb, 0, none⟩), .int .i64 x.1.1, .int .i64 x.1.2] wr fun e w' =>
    e = .returned (.int .i64 10) ∧ (∃ vb', Two w w' la va xa lb vb' xb most) ∧ Fr (LB lb vb) wr w' := by
  refine (rfull_calls lb vb xb most x.1.1 x.1.2 wr h.b hlt).mono ?_
  rintro e w1 ⟨rfl, hf⟩
  exact ⟨rfl, ⟨_, h.frameF hf⟩, hf.mono (fun _ x => x.elim)⟩
theorem Two.popA {ys : List Acc} {x : Acc} (h : Two w wr la va (ys ++ [x]) lb vb xb most) : Calls Try.prog 12 #[.pointer (some ⟨la, 0, none⟩)] wr fun e w' =>
    e = .returned (.tuple #[.agg #[.int .i64 x.1.1, .int .i64 x.1.2], .bool true]) ∧ (∃ va', Two w w' la va' ys lb vb xb most) ∧ Fr (LB la va) wr w' := by
  refine (pop_calls la va _ most wr h.a.at_).mono ?_
  rintro e w' (⟨h1, _⟩ | ⟨ys', x', h1, rfl, v', ha, ho, hf⟩)
  · simp at h1
  · obtain ⟨rfl, h2⟩ := List.append_inj' h1 rfl
    cases h2
    have hf' := hf.mono (T := LB la va) (fun k e => .inl e)
    exact ⟨rfl, ⟨v', h.a.turn ha hf' (.inl ho), h.keepB hf', h.lb, h.own, fun g hg => h.ap g (by rw [← ho]; exact hg)⟩, hf'⟩
theorem Two.noneA (h : Two w wr la va [] lb vb xb most) : Calls Try.prog 12 #[.pointer (some ⟨la, 0, none⟩)] wr fun e w' =>
    e = .returned (.tuple #[.agg #[.int .i64 0, .int .i64 0], .bool false]) ∧ (∃ va', Two w w' la va' [] lb vb xb most) ∧ Fr (LB la va) wr w' := by
  refine (none_in h.a).mono ?_
  rintro e w1 ⟨rfl, _, hf⟩
  exact ⟨rfl, ⟨_, h.frameF hf⟩, hf.mono (fun _ x => x.elim)⟩
theorem Two.popB {ys : List Acc} {x : Acc} (h : Two w wr la va xa lb vb (ys ++ [x]) most) : Calls Try.prog 15 #[.pointer (some ⟨lb, 0, none⟩)] wr fun e w' =>
    e = .returned (.tuple #[.agg #[.int .i64 x.1.1, .int .i64 x.1.2], .bool true]) ∧ (∃ vb', Two w w' la va xa lb vb' ys most) ∧ Fr (LB lb vb) wr w' := by
  refine (rpop_calls lb vb ys x most wr h.b).mono ?_
  rintro e w1 ⟨rfl, v', hb, ho, hf⟩
  have hf' := hf.mono (T := LB lb vb) (fun k e => .inl e)
  refine ⟨rfl, ⟨v', h.keepA hf', hb, h.lb, fun g hg => ?_, fun g hg e => ?_⟩, hf'⟩
  · have := ho g hg; have := h.a.fr.size; omega
  · have := ho g e
    obtain ⟨cur, hc⟩ := row_own h.a.at_.row hg
    have := blk_lt hc
    omega
theorem Two.noneB (h : Two w wr la va xa lb vb [] most) : Calls Try.prog 15 #[.pointer (some ⟨lb, 0, none⟩)] wr fun e w' =>
    e = .returned (.tuple #[.agg #[.int .i64 0, .int .i64 0], .bool false]) ∧ (∃ vb', Two w w' la va xa lb vb' [] most) ∧ Fr (LB lb vb) wr w' := by
  refine (rnone_calls lb vb most wr h.b).mono ?_
  rintro e w1 ⟨rfl, hf⟩
  exact ⟨rfl, ⟨_, h.frameF hf⟩, hf.mono (fun _ x => x.elim)⟩
theorem Two.clearA (h : Two w wr la va xa lb vb xb most) : Calls Try.prog 16 #[.pointer (some ⟨la, 0, none⟩)] wr fun e w' => e = .returned (.tuple #[]) ∧ Two w w' la (.slice none 0 0) [] lb vb xb most ∧ Fr (LB la va) wr w' := by
  refine (clear_in h.a).mono ?_
  rintro e w1 ⟨rfl, ha, hf⟩
  exact ⟨rfl, ⟨ha, h.keepB hf, h.lb, h.own, fun g hg => by cases hg⟩, hf⟩
theorem Two.clearB (h : Two w wr la va xa lb vb xb most) : Two w (wr.setCell ⟨lb, 1, none⟩ (.slice none 0 0)) la va xa lb (.slice none 0 0) [] most := by
  have hf : Fr (LB lb vb) wr (wr.setCell ⟨lb, 1, none⟩ (.slice none 0 0)) := (Fr.refl (LB lb vb) wr).setCell (p := ⟨lb, 1, none⟩) (.inl (.inl rfl)) _
  exact ⟨h.keepA hf, ⟨by rw [blk_set h.b.blk]; rfl, World.ownsRow_nil _ _ _ _, h.b.m1, h.b.m2, by have := h.b.m1; show (0 : Int) ≤ most; omega⟩, h.lb, fun g hg => (by cases hg), fun g hg e => (by cases e)⟩
theorem Two.firstA (h : Two w wr la va xa lb vb xb most) : Calls Try.prog 10 #[.pointer (some ⟨la, 0, none⟩)] wr fun e w' =>
    ∃ A out c, e = .returned (.slice A (List.length out) c) ∧ IsFirsts xa out ∧ Flat w' (fun k => wr.heap.size ≤ k) A (out.length * 2) (accInts out) ∧ Fr (fun _ => False) wr w' := by
  refine (first_in h.a).mono ?_
  rintro e w1 ⟨A, out, c, rfl, ho, hf, _, hfr⟩
  exact ⟨A, out, c, rfl, ho, hf, hfr⟩
theorem Two.firstB (h : Two w wr la va xa lb vb xb most) {A : Option Addr} {n c : Nat} (hv : vb = .slice A n c) : Calls Try.prog 19 #[.slice A n c] wr fun e w' =>
    ∃ A out c, e = .returned (.slice A (List.length out) c) ∧ IsFirsts xb out ∧ Flat w' (fun k => wr.heap.size ≤ k) A (out.length * 2) (accInts out) ∧ Fr (fun _ => False) wr w' := by
  subst hv
  obtain ⟨hn, hf⟩ := h.b.row.flat
  subst hn
  refine (refFirst_calls A xb.length c xb _ wr rfl hf (by have := h.b.m2; have := h.b.le; omega)).mono ?_
  rintro e w1 ⟨v, out, rfl, ho, hr, hfr⟩
  obtain ⟨A', c', rfl, _⟩ := hr.shape
  exact ⟨A', out, c', rfl, ho, hr.flat.2, hfr⟩
end
end Go.Proofs.Ytoickikfojpgaaa
