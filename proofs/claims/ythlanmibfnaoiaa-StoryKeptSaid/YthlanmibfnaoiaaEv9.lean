/- A story: New, Add, All, Len. -/
import Derived.Test.YthlanmibfnaoiaaEv8
import Derived.Deep.RegionHeld3
import Derived.Deep.RegionWith
namespace Go.Proofs.Ythlanmibfnaoiaa
open Go.RowKit

theorem EvsAt.nil (w : World) (F : Nat → Prop) : EvsAt w F (.slice none 0 0) [] := ⟨⟨none, 0, [], rfl, Nat.le_refl _, fun _ => rfl, rfl, fun h => absurd h (by simp), fun i hi => absurd hi (by simp)⟩⟩

/-- A story's block, and its events. -/
structure StoryAt (w : World) (s : Nat) (F : Nat → Prop) (v : Value) (es : List Ev) : Prop where
  hb : w.heap[s]? = some (.cells #[v] 46 (0, 0))
  hev : EvsAt w F v es
  hF : ¬ F s
theorem StoryAt.frame {w w' : World} {F S : Nat → Prop} {s : Nat} {v : Value} {es : List Ev} (h : StoryAt w s F v es) (hf : Fr S w w') (h1 : ¬ S s) (hs : ∀ k, F k → S k → w.heap.size ≤ k) : StoryAt w' s F v es :=
  ⟨hf.heap h.hb h1, h.hev.frame hf hs, h.hF⟩
theorem StoryAt.mono {w : World} {F G : Nat → Prop} {s : Nat} {v : Value} {es : List Ev} (h : StoryAt w s F v es) (hs : ∀ k, k < w.heap.size → F k → G k) (hG : ¬ G s) : StoryAt w s G v es := ⟨h.hb, h.hev.mono hs, hG⟩

theorem EvsOwn.shape {T : TypeId} {B : Nat} {w : World} {F : Nat → Prop} {v : Value} {es : List Ev} (h : EvsOwn T B w F v es) : ∃ A c, v = .slice A es.length c := by
  obtain ⟨cs, h1, _⟩ := h
  obtain ⟨A, c, h2, _⟩ := ownsRow_shape h1
  exact ⟨A, c, h2⟩

theorem EvsOwn.shape' {T : TypeId} {B : Nat} {w : World} {F : Nat → Prop} {v : Value} {es : List Ev} (h : EvsOwn T B w F v es) : ∃ A c n, v = .slice A n c :=
  let ⟨A, c, h1⟩ := h.shape; ⟨A, c, _, h1⟩

set_option maxRecDepth 100000 in
theorem storyNew_calls (w : World) : Calls Try.prog 10 #[] w fun e w' => e = .returned (.pointer (some ⟨w.heap.size, 0, none⟩)) ∧ StoryAt w' w.heap.size (fun _ => False) (.slice none 0 0) [] ∧ Fr (fun _ => False) w w' ∧ w.heap.size < w'.heap.size := by
  go_enter Try.func10, Try.ntmps10
  go_wp2
  go_ret
  exact ⟨rfl, ⟨heap_alloc_new w _, EvsAt.nil _ _, fun x => x⟩, (Fr.refl _ _).alloc _, by simp⟩

set_option maxRecDepth 100000 in
theorem storyLen_calls (s : Nat) (v : Value) (es : List Ev) (F : Nat → Prop) (w : World) (h : StoryAt w s F v es) :
    Calls Try.prog 16 #[.pointer (some ⟨s, 0, none⟩)] w fun e w' => e = .returned (.int .i64 es.length) ∧ Fr (fun _ => False) w w' := by
  obtain ⟨A, c, cs, rfl, _⟩ := h.hev.ex
  have q0 : w.cell? ⟨s, 0, none⟩ = some (.slice A es.length c) := by rw [blk_cell h.hb]; rfl
  clear h
  go_enter Try.func16, Try.ntmps16
  go_wp2
  go_ret
  exact ⟨rfl, Fr.refl _ _⟩

set_option maxRecDepth 100000 in
theorem storyAll_calls (s : Nat) (v : Value) (es : List Ev) (F : Nat → Prop) (w : World) (h : StoryAt w s F v es) (hs : Smalls es) :
    Calls Try.prog 15 #[.pointer (some ⟨s, 0, none⟩)] w fun e w' => ∃ v', e = .returned v' ∧ EvsOwn 33 w.heap.size w' (fun k => w.heap.size ≤ k) v' es ∧ Fr (fun _ => False) w w' := by
  have q0 : w.cell? ⟨s, 0, none⟩ = some v := by rw [blk_cell h.hb]; rfl
  have hev := h.hev
  clear h
  obtain ⟨A, c, cs, rfl, _⟩ := id hev.ex
  go_enter Try.func15, Try.ntmps15
  go_wp2_with (go_at_call 21
               (with_reducible refine (told_calls _ es F _ hev hs).mono ?_)
               rintro ex w1 ⟨v1, rfl, h1, hf1⟩)
  go_ret
  exact ⟨_, rfl, h1, hf1⟩

set_option maxRecDepth 100000 in
set_option maxHeartbeats 1000000 in
theorem storyAdd_calls (s : Nat) (v u : Value) (es ns : List Ev) (F G : Nat → Prop) (w : World) (h : StoryAt w s F v es) (hu : EvsAt w G u ns) (h1 : es.length ≤ 20000) (h2 : Smalls ns) :
    Calls Try.prog 11 #[.pointer (some ⟨s, 0, none⟩), u] w fun e w' => e = .returned (.tuple #[]) ∧ (∃ v', StoryAt w' s (fun k => (k < w.heap.size ∧ F k) ∨ w.heap.size ≤ k) v' (es ++ ns)) ∧ Fr (fun k => k = s) w w' := by
  have hsb := blk_lt h.hb
  have q0 : w.cell? ⟨s, 0, none⟩ = some v := by rw [blk_cell h.hb]; rfl
  have z0 : w.frozen? ⟨s, 0, none⟩ = false := by rw [blk_free h.hb]
  obtain ⟨A, c, cs, rfl, x1⟩ := id h.hev.ex
  obtain ⟨B, d, ds, rfl, x2⟩ := id hu.ex
  clear x1 x2
  have HH := Lib.hid h
  have HU := Lib.hid hu
  have H2 := Lib.hid h2
  have hl2 := h2.1
  clear h hu h2
  go_enter Try.func11, Try.ntmps11
  go_region_with (first
    | (go_at_call 21
       (with_reducible refine (told_calls _ ns G _ (HU.out.frame (Fr.refl (fun _ => False) w).drew (fun _ _ x => x.elim)) H2.out).mono ?_)
       rintro ex w1 ⟨v1, rfl, ho1, hf1⟩
       have p0 : w1.cell? ⟨s, 0, none⟩ = some (.slice A es.length c) := by rw [blk_cell (hf1.heap (a := w.drew) HH.out.hb (fun x => x))]; rfl
       obtain ⟨E, ce, rfl⟩ := ho1.shape
       have HO1 := Lib.hid (And.intro ho1 hf1)
       have hs1 := hf1.size
       clear ho1 hf1)
    | (go_at_call 20
       have hfa := (Fr.refl (fun _ => False) w1).alloc (.cells #[.slice A es.length c, .slice E ns.length ce] 22)
       have e1 := Lib.hid ((HH.out.hev.mono (G := fun k => (k < w.heap.size ∧ F k) ∨ w.heap.size ≤ k) (fun k hk x => .inl ⟨hk, x⟩)).frame ((Fr.refl (fun _ => False) w).drew.trans (HO1.out.2.trans hfa)) (fun _ _ x => x.elim))
       have e2 := Lib.hid (((HO1.out.1.at_ (fun _ x => x)).frame hfa (fun _ _ x => x.elim)).mono (G := fun k => (k < w.heap.size ∧ F k) ∨ w.heap.size ≤ k) (fun k _ x => .inr x))
       (with_reducible refine (concat_calls w1.heap.size _ _ es ns _ _ (heap_alloc_new w1 _) e1.out e2.out h1 hl2).mono ?_)
       rintro ex w2 ⟨v2, rfl, ho2, hf2⟩
       obtain ⟨E2, ce2, m2, rfl⟩ := ho2.shape'
       have hb2 : w2.heap[s]? = _ := hf2.heap (hfa.heap (HO1.out.2.heap (a := w.drew) HH.out.hb (fun x => x)) (fun x => x)) (fun x => x)
       have y0 : w2.cell? ⟨s, 0, none⟩ = some (.slice A es.length c) := by rw [blk_cell hb2]; rfl
       have z2 : w2.frozen? ⟨s, 0, none⟩ = false := by rw [blk_free hb2]
       have HO2 := Lib.hid (And.intro ho2 (And.intro hf2 (And.intro hfa hb2)))
       clear ho2 hf2 hb2 hfa))
  all_goals
    go_wp2
    refine bodyPost_end (v := .tuple #[]) (by simp [results, Try.results11, go_sem]) rfl ?_
    have hF := HH.out.hF
    have hww : w.heap.size ≤ w1.heap.size := HO1.out.2.size
    have hfb : Fr (fun _ => False) w w2 := (Fr.refl (fun _ => False) w).drew.trans (HO1.out.2.trans (HO2.out.2.2.1.trans HO2.out.2.1))
    have hfc : Fr (fun k => k = s) w2 (w2.setCell ⟨s, 0, none⟩ (.slice E2 m2 ce2)) := (Fr.refl (fun k => k = s) w2).setCell (p := ⟨s, 0, none⟩) (.inl rfl) _
    refine ⟨rfl, ⟨.slice E2 m2 ce2, ?_, ?_, ?_⟩, (hfb.mono (fun _ x => x.elim)).trans hfc⟩
    · have := blk_set HO2.out.2.2.2 0 (.slice E2 m2 ce2)
      exact this
    · exact (HO2.out.1.at_ (fun k x => .inr (by simp at x; omega))).frame hfc (fun k x y => by
        subst y
        rcases x with x | x
        · exact absurd x.2 hF
        · omega)
    · rintro (x | x)
      · exact hF x.2
      · omega
end Go.Proofs.Ythlanmibfnaoiaa
