/- A log of the call's own: the contracts once more; the chapter's own example. -/
import Derived.Test.YtoickikfojpgaaaUE
namespace Go.Proofs.Ytoickikfojpgaaa
open Go.RowKit

/-- A log that was made behind w0, nothing of which has turned. -/
structure LogIn (w0 w : World) (lb : Nat) (v : Value) (xs : List Acc) (most : Int) : Prop where
  at_ : LogAt w lb v xs most
  fr : Fr (fun _ => False) w0 w
  lb : w0.heap.size ≤ lb
  own : ∀ g, v.ownBlock = some g → w0.heap.size ≤ g
theorem LogIn.frame {w0 w w' : World} {lb : Nat} {v : Value} {xs : List Acc} {most : Int} (h : LogIn w0 w lb v xs most) (hf : Fr (fun _ => False) w w') : LogIn w0 w' lb v xs most :=
  ⟨h.at_.frameF hf, h.fr.trans hf, h.lb, h.own⟩
theorem LogIn.turn {w0 w w' : World} {lb : Nat} {v v' : Value} {xs ys : List Acc} {most : Int} (h : LogIn w0 w lb v xs most) (ha : LogAt w' lb v' ys most) (hf : Fr (LB lb v) w w') (ho : v'.ownBlock = v.ownBlock ∨ ∃ g, v'.ownBlock = some g ∧ w.heap.size ≤ g) : LogIn w0 w' lb v' ys most :=
  ⟨ha, h.fr.trans' hf (fun i hi hl => by
    rcases hi with rfl | hi
    · have := h.lb; omega
    · have := h.own i hi; omega), h.lb, fun g hg => by
    rcases ho with e | ⟨g', e, hb⟩
    · rw [e] at hg; exact h.own g hg
    · rw [e] at hg; cases hg; have := h.fr.size; omega⟩
theorem LogIn.inLB {w0 w : World} {lb : Nat} {v : Value} {xs : List Acc} {most : Int} (h : LogIn w0 w lb v xs most) : ∀ k, LB lb v k → w0.heap.size ≤ k := fun k hk => by
  rcases hk with rfl | hk
  · exact h.lb
  · exact h.own k hk

theorem new_in (most : Int) (h1 : 1 ≤ most) (h2 : most ≤ 1000) (w0 w : World) (hw : Fr (fun _ => False) w0 w) : Calls Try.prog 8 #[.int .i64 most] w fun e w' => ∃ lb, e = .returned (.tuple #[.pointer (some ⟨lb, 0, none⟩), .int .i64 0]) ∧ LogIn w0 w' lb (.slice none 0 0) [] most ∧ Fr (fun _ => False) w w' := by
  refine (new_calls most w).mono ?_
  rintro e w' (⟨h, _⟩ | ⟨_, rfl, ha, hf⟩)
  · omega
  · exact ⟨_, rfl, ⟨ha, hw.trans hf, hw.size, fun g hg => by cases hg⟩, hf⟩
theorem push_in {w0 w : World} {lb : Nat} {v : Value} {xs : List Acc} {most : Int} (h : LogIn w0 w lb v xs most) (hlt : (xs.length : Int) < most) (x : Acc) : Calls Try.prog 9 #[.pointer (some ⟨lb, 0, none⟩), .int .i64 x.1.1, .int .i64 x.1.2] w fun e w' =>
    e = .returned (.int .i64 0) ∧ ∃ v', LogIn w0 w' lb v' (xs ++ [x]) most ∧ Fr (LB lb v) w w' := by
  refine (push_calls lb v xs most x w h.at_).mono ?_
  rintro e w' (⟨h1, _⟩ | ⟨_, rfl, v', ha, ho, hf⟩)
  · omega
  · exact ⟨rfl, v', h.turn ha hf ho, hf⟩
theorem full_in {w0 w : World} {lb : Nat} {v : Value} {xs : List Acc} {most : Int} (h : LogIn w0 w lb v xs most) (hlt : (xs.length : Int) = most) (x : Acc) : Calls Try.prog 9 #[.pointer (some ⟨lb, 0, none⟩), .int .i64 x.1.1, .int .i64 x.1.2] w fun e w' =>
    e = .returned (.int .i64 10) ∧ LogIn w0 w' lb v xs most ∧ Fr (fun _ => False) w w' := by
  refine (push_calls lb v xs most x w h.at_).mono ?_
  rintro e w' (⟨_, rfl, hf⟩ | ⟨h1, _⟩)
  · exact ⟨rfl, h.frame hf, hf⟩
  · omega
theorem pop_in {w0 w : World} {lb : Nat} {v : Value} {ys : List Acc} {x : Acc} {most : Int} (h : LogIn w0 w lb v (ys ++ [x]) most) : Calls Try.prog 12 #[.pointer (some ⟨lb, 0, none⟩)] w fun e w' =>
    e = .returned (.tuple #[.agg #[.int .i64 x.1.1, .int .i64 x.1.2], .bool true]) ∧ ∃ v', LogIn w0 w' lb v' ys most ∧ Fr (LB lb v) w w' := by
  refine (pop_calls lb v _ most w h.at_).mono ?_
  rintro e w' (⟨h1, _⟩ | ⟨ys', x', h1, rfl, v', ha, ho, hf⟩)
  · simp at h1
  · obtain ⟨rfl, h2⟩ := List.append_inj' h1 rfl
    cases h2
    have hf' := hf.mono (T := LB lb v) (fun k e => .inl e)
    exact ⟨rfl, v', h.turn ha hf' (.inl ho), hf'⟩
theorem none_in {w0 w : World} {lb : Nat} {v : Value} {most : Int} (h : LogIn w0 w lb v [] most) : Calls Try.prog 12 #[.pointer (some ⟨lb, 0, none⟩)] w fun e w' =>
    e = .returned (.tuple #[.agg #[.int .i64 0, .int .i64 0], .bool false]) ∧ LogIn w0 w' lb v [] most ∧ Fr (fun _ => False) w w' := by
  refine (pop_calls lb v _ most w h.at_).mono ?_
  rintro e w' (⟨_, rfl, hf⟩ | ⟨ys', x', h1, _⟩)
  · exact ⟨rfl, h.frame hf, hf⟩
  · simp at h1
theorem len_in {w0 w : World} {lb : Nat} {v : Value} {xs : List Acc} {most : Int} (h : LogIn w0 w lb v xs most) : Calls Try.prog 11 #[.pointer (some ⟨lb, 0, none⟩)] w fun e w' => e = .returned (.int .i64 xs.length) ∧ w' = w := len_calls lb v xs most w h.at_
theorem room_in {w0 w : World} {lb : Nat} {v : Value} {xs : List Acc} {most : Int} (h : LogIn w0 w lb v xs most) : Calls Try.prog 17 #[.pointer (some ⟨lb, 0, none⟩)] w fun e w' => e = .returned (.int .i64 (most - xs.length)) ∧ LogIn w0 w' lb v xs most ∧ Fr (fun _ => False) w w' := by
  refine (room_calls lb v xs most w h.at_).mono ?_
  rintro e w' ⟨rfl, hf⟩
  exact ⟨rfl, h.frame hf, hf⟩
theorem clear_in {w0 w : World} {lb : Nat} {v : Value} {xs : List Acc} {most : Int} (h : LogIn w0 w lb v xs most) : Calls Try.prog 16 #[.pointer (some ⟨lb, 0, none⟩)] w fun e w' => e = .returned (.tuple #[]) ∧ LogIn w0 w' lb (.slice none 0 0) [] most ∧ Fr (LB lb v) w w' := by
  refine (clear_calls lb v xs most w h.at_).mono ?_
  rintro e w' ⟨rfl, ha, hf⟩
  have hf' := hf.mono (T := LB lb v) (fun k e => .inl e)
  exact ⟨rfl, ⟨ha, h.fr.trans' hf' (fun i hi hl => by have := h.inLB i hi; omega), h.lb, fun g hg => by cases hg⟩, hf'⟩
/-- First, of a log. -/
theorem first_in {w0 w : World} {lb : Nat} {v : Value} {xs : List Acc} {most : Int} (h : LogIn w0 w lb v xs most) : Calls Try.prog 10 #[.pointer (some ⟨lb, 0, none⟩)] w fun e w' =>
    ∃ A out c, e = .returned (.slice A (List.length out) c) ∧ IsFirsts xs out ∧ Flat w' (fun k => w.heap.size ≤ k) A (out.length * 2) (accInts out) ∧ LogIn w0 w' lb v xs most ∧ Fr (fun _ => False) w w' := by
  obtain ⟨A, cap, rfl, hf⟩ := h.at_.slice
  refine (first_calls lb A xs cap most w h.at_.blk hf (by have := h.at_.len; omega)).mono ?_
  rintro e w' ⟨v, out, rfl, ho, hr, hb⟩
  obtain ⟨A2, c2, rfl, hfl⟩ := Flat.ofOwn hr
  have hf' := Fr.ofBelow hb (fun _ => False)
  exact ⟨A2, out, c2, rfl, ho, hfl, h.frame hf', hf'⟩
end Go.Proofs.Ytoickikfojpgaaa
