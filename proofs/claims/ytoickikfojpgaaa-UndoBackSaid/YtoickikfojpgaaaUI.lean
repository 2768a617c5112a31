/- Writes to words, each with what was there pushed first, and taken back: the plain law, and the words as a list of the call's own. -/
import Derived.Test.YtoickikfojpgaaaUH
import Derived.Test.YtoickikfojpgaaaAp
namespace Go.Proofs.Ytoickikfojpgaaa
open Go.RowKit

def mkD (a v : Int) : Acc := if h : (Lit.int .i64 a).wf = true ∧ (Lit.int .i64 v).wf = true then ⟨(a, v), h⟩ else acc0
theorem mkD_of {a v : Int} (h1 : (Lit.int .i64 a).wf = true) (h2 : (Lit.int .i64 v).wf = true) : (mkD a v).1 = (a, v) := by unfold mkD; rw [dif_pos ⟨h1, h2⟩]
/-- One write: the words, the log. -/
def wr1 (s : List Int × List Acc) (x : Acc) : List Int × List Acc := (s.1.set x.1.1.toNat x.1.2, s.2 ++ [mkD x.1.1 (s.1.getD x.1.1.toNat 0)])
def wrN (hs : List Int) (X : List Acc) : List Int × List Acc := X.foldl wr1 (hs, [])
theorem wrN_snoc (hs : List Int) (X : List Acc) (x : Acc) : wrN hs (X ++ [x]) = wr1 (wrN hs X) x := by simp [wrN]
def WfL (hs : List Int) : Prop := ∀ y ∈ hs, (Lit.int .i64 y).wf = true
theorem WfL.at_ {hs : List Int} (h : WfL hs) (i : Nat) : (Lit.int .i64 (hs.getD i 0)).wf = true := by
  rw [List.getD_eq_getElem?_getD]
  cases hx : hs[i]? with
  | none => rfl
  | some y => exact h y (List.mem_of_getElem? hx)
theorem WfL.set {hs : List Int} (h : WfL hs) (i : Nat) (x : Acc) : WfL (hs.set i x.1.2) := fun y hy => by
  rcases List.mem_or_eq_of_mem_set hy with hy | rfl
  · exact h y hy
  · exact x.2.2
theorem snocInd {p : List Acc → Prop} (h0 : p []) (h1 : ∀ X x, p X → p (X ++ [x])) : ∀ X, p X := by
  have h : ∀ Y : List Acc, p Y.reverse := by
    intro Y
    induction Y with
    | nil => exact h0
    | cons y Y ih => rw [List.reverse_cons]; exact h1 _ _ ih
  intro X
  have := h X.reverse
  rwa [List.reverse_reverse] at this
theorem wrN_parts (hs : List Int) (hw : WfL hs) (X : List Acc) : WfL (wrN hs X).1 ∧ (wrN hs X).1.length = hs.length ∧ (wrN hs X).2.length = X.length := by
  induction X using snocInd with
  | h0 => exact ⟨hw, rfl, rfl⟩
  | h1 X x ih =>
    obtain ⟨h1, h2, h3⟩ := ih
    rw [wrN_snoc]
    exact ⟨h1.set _ _, by show (List.set _ _ _).length = _; rw [List.length_set, h2], by show (_ ++ [_]).length = _; simp [h3]⟩
theorem valOf_append (xs ys : List Acc) (a : Int) : valOf (xs ++ ys) a = (valOf xs a).or (valOf ys a) := by
  induction xs with
  | nil => rfl
  | cons x xs ih =>
    rw [List.cons_append, valOf_cons, valOf_cons, ih]
    split
    · rfl
    · rfl
/-- What lies where: every write lies within. -/
def InR (hs : List Int) (X : List Acc) : Prop := ∀ x ∈ X, 0 ≤ x.1.1 ∧ x.1.1 < (hs.length : Int)
theorem wrN_first (hs : List Int) (hw : WfL hs) (X : List Acc) (hX : InR hs X) : (∀ a v, valOf (wrN hs X).2 a = some v → 0 ≤ a ∧ a < (hs.length : Int) ∧ v = hs.getD a.toNat 0) ∧ ∀ a, 0 ≤ a → valOf (wrN hs X).2 a = none → (wrN hs X).1.getD a.toNat 0 = hs.getD a.toNat 0 := by
  induction X using snocInd with
  | h0 => exact ⟨fun a v h => (by cases h), fun _ _ _ => rfl⟩
  | h1 X x ih =>
    obtain ⟨h1, h2⟩ := ih (fun y hy => hX y (List.mem_append_left _ hy))
    obtain ⟨hx0, hx1⟩ := hX x (by simp)
    have hp := wrN_parts hs hw X
    rw [wrN_snoc]
    generalize wrN hs X = s at h1 h2 hp
    have hd := mkD_of x.2.1 (hp.1.at_ x.1.1.toNat)
    have hv : ∀ a, valOf (wr1 s x).2 a = (valOf s.2 a).or (if x.1.1 = a then some (s.1.getD x.1.1.toNat 0) else none) := fun a => by
      show valOf (s.2 ++ [_]) a = _
      rw [valOf_append, valOf_cons, hd]; rfl
    refine ⟨fun a v h => ?_, fun a ha h => ?_⟩
    · rw [hv] at h
      cases hs2 : valOf s.2 a with
      | some u => rw [hs2] at h; cases h; exact h1 a _ hs2
      | none =>
        rw [hs2] at h
        rw [Option.none_or] at h
        split at h
        · rename_i e
          cases h
          subst e
          exact ⟨hx0, hx1, h2 _ hx0 hs2⟩
        · cases h
    · rw [hv] at h
      cases hs2 : valOf s.2 a with
      | some u => rw [hs2] at h; cases h
      | none =>
        rw [hs2, Option.none_or] at h
        split at h
        · cases h
        · rename_i e
          show (s.1.set _ _).getD _ 0 = _
          rw [List.getD_eq_getElem?_getD, List.getElem?_set_ne (by omega), ← List.getD_eq_getElem?_getD]
          exact h2 a ha hs2
/-- A write taken back. -/
theorem wrN_back (hs : List Int) (hw : WfL hs) (X : List Acc) (x : Acc) (hx : 0 ≤ x.1.1 ∧ x.1.1 < (hs.length : Int)) : ∃ o : Acc, (wrN hs (X ++ [x])).2 = (wrN hs X).2 ++ [o] ∧ o.1.1 = x.1.1 ∧ (wrN hs (X ++ [x])).1.set x.1.1.toNat o.1.2 = (wrN hs X).1 := by
  have hp := wrN_parts hs hw X
  rw [wrN_snoc]
  generalize wrN hs X = s at hp
  have hd := mkD_of x.2.1 (hp.1.at_ x.1.1.toNat)
  refine ⟨_, rfl, by rw [hd], ?_⟩
  rw [hd]
  show (s.1.set _ _).set _ _ = _
  rw [List.set_set]
  have hl : x.1.1.toNat < s.1.length := by rw [hp.2.1]; omega
  rw [List.getD_eq_getElem?_getD, List.getElem?_eq_getElem hl]
  exact List.set_getElem_self hl

/-- Words that came in. -/
structure IntsW (w : World) (A : Option Addr) (n : Nat) (xs : List Int) : Prop where
  flat : Flat w (fun _ => True) A n xs
  wf : WfL xs
theorem IntsW.of {W : World} {A : Option Addr} {n cap : Nat} {xs : List Int} (h : rdSlice rdInt 1 W xs [.slice A n cap]) : IntsW W A n xs := by
  refine ⟨Flat.ofInts (IntsIn.of h), fun y hy => ?_⟩
  rcases h with ⟨_, rfl⟩ | ⟨a, len, cap', h1, _, _, h3, h4⟩
  · cases hy
  · obtain ⟨i, hi⟩ := List.getElem?_of_mem hy
    obtain ⟨c, _, _, _, h8⟩ := h4 i y hi
    exact h8
theorem newL_own {w : World} {B : Nat} {v : Value} {n : Nat} {xs : List Int} (h : w.ownsRow B 3 1 v n (xs.map (Value.int .i64))) (h0 : 0 < n) : ∃ g c, v = .slice (some ⟨g, 0, none⟩) n c ∧ NewL w B 3 (some ⟨g, 0, none⟩) n xs := by
  rcases h.2 with ⟨rfl, h1⟩ | ⟨g, cap, cur, rfl, hb, hg, hn, hsz, hc⟩
  · omega
  · refine ⟨g, cap, rfl, by simpa using h.1, fun _ => ⟨g, cur, rfl, hb, hg, fun i hi => ?_⟩⟩
    have hl : i < xs.length := by rw [show xs.length = n by simpa using h.1]; exact hi
    have h1 : (List.take (n * 1) cur.toList)[i]? = some (.int .i64 (xs.getD i 0)) := by
      rw [hc.2, List.getElem?_map, List.getD_eq_getElem?_getD, List.getElem?_eq_getElem hl]; rfl
    rw [List.getElem?_take, if_pos (by omega)] at h1
    simpa using h1
theorem LogAt.apart {w : World} {lb : Nat} {v : Value} {xs : List Acc} {most : Int} (h : LogAt w lb v xs most) {B g m : Nat} {zs : List Int} (hn : NewL w B 3 (some ⟨g, 0, none⟩) m zs) (h0 : 0 < m) : ¬ LB lb v g := by
  obtain ⟨g', arr, e, _, hg, _⟩ := hn.at_ h0
  cases e
  rintro (rfl | e)
  · rw [h.blk] at hg
    injection hg with hg
    injection hg with _ hg
    revert hg; decide
  · obtain ⟨cur, hc⟩ := row_own h.row e
    rw [hc] at hg
    injection hg with hg
    injection hg with _ hg
    revert hg; decide
theorem LogIn.setH {w0 w : World} {lb : Nat} {v : Value} {xs : List Acc} {most : Int} (h : LogIn w0 w lb v xs most) {B g m : Nat} {zs : List Int} (hn : NewL w B 3 (some ⟨g, 0, none⟩) m zs) (h0 : 0 < m) (hb : w0.heap.size ≤ B) (i : Nat) (x : Value) : LogIn w0 (w.setCell ⟨g, i, none⟩ x) lb v xs most := by
  have hap := h.at_.apart hn h0
  have hf : Fr (fun k => k = g) w (w.setCell ⟨g, i, none⟩ x) := (Fr.refl (fun k => k = g) w).setCell (p := ⟨g, i, none⟩) (.inl rfl) x
  obtain ⟨g', arr, e, hB, hg, _⟩ := hn.at_ h0
  cases e
  exact ⟨h.at_.frame hf (fun e => hap (.inl e.symm)) (fun k hk e => hap (.inr (by rw [← e]; exact hk))), h.fr.trans' hf (fun k hk hl => by rw [hk] at hl; omega), h.lb, h.own⟩
theorem NewL.past {w w' : World} {lb : Nat} {v : Value} {xs : List Acc} {most : Int} (h : LogAt w lb v xs most) {B g m : Nat} {zs : List Int} (hn : NewL w B 3 (some ⟨g, 0, none⟩) m zs) (hf : Fr (LB lb v) w w') : NewL w' B 3 (some ⟨g, 0, none⟩) m zs := by
  refine ⟨hn.len, fun h0 => ?_⟩
  have hap := h.apart hn h0
  obtain ⟨g', arr, e, hB, hg, hc⟩ := hn.at_ h0
  cases e
  exact ⟨g, arr, rfl, hB, hf.heap hg hap, hc⟩
theorem NewL.cell {w : World} {B g m : Nat} {T : TypeId} {zs : List Int} (hn : NewL w B T (some ⟨g, 0, none⟩) m zs) {i : Nat} (hi : i < m) : w.cell? ⟨g, i, none⟩ = some (.int .i64 (zs.getD i 0)) := by
  obtain ⟨g', arr, e, hB, hg, hc⟩ := hn.at_ (by omega)
  cases e
  rw [blk_cell hg, hc i hi]
theorem NewL.frz {w : World} {B g m : Nat} {T : TypeId} {zs : List Int} (hn : NewL w B T (some ⟨g, 0, none⟩) m zs) (h0 : 0 < m) (o : Nat) : w.frozen? ⟨g, o, none⟩ = false := by
  obtain ⟨g', arr, e, hB, hg, hc⟩ := hn.at_ h0
  cases e
  exact blk_free hg o
end Go.Proofs.Ytoickikfojpgaaa
