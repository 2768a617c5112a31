/- ltklaw16.StoryFind answers true. -/
import Derived.Test.YthlanmibfnaoiaaEvC
namespace Go.Proofs.Ythlanmibfnaoiaa
open Go.RowKit

theorem find_sum (es : List Ev) (K a b : Int) (h : a ≠ b) : (es.filter (·.keeps K [a, b])).length = (es.filter (·.keeps K [a])).length + (es.filter (·.keeps K [b])).length := by
  induction es with
  | nil => rfl
  | cons e es ih =>
    simp only [List.filter_cons, Ev.keeps, List.isEmpty_cons, Bool.false_or, List.mem_cons, List.not_mem_nil, or_false] at ih ⊢
    by_cases hk : e.k = K
    · by_cases h1 : e.th = a
      · have h2 : ¬ e.th = b := fun h3 => h (h1.symm.trans h3)
        have h3 : ¬ a = b := h
        simp [hk, h1, h3] at ih ⊢; omega
      · by_cases h2 : e.th = b
        · have h3 : ¬ b = a := fun x => h x.symm
          simp [hk, h2, h3] at ih ⊢; omega
        · simp [hk, h1, h2] at ih ⊢; omega
    · simp [hk] at ih ⊢; omega
theorem find_bab (K a b : Int) : (fun e : Ev => e.keeps K [b, a, b]) = fun e => e.keeps K [a, b] := by
  funext e
  simp only [Ev.keeps, List.isEmpty_cons, Bool.false_or, List.mem_cons, List.not_mem_nil, or_false]
  congr 2
  simp only [eq_iff_iff]
  constructor
  · rintro (h | h | h) <;> simp [h]
  · rintro (h | h) <;> simp [h]
theorem find_aa (K a : Int) : (fun e : Ev => e.keeps K [a, a]) = fun e => e.keeps K [a] := by
  funext e
  simp only [Ev.keeps, List.isEmpty_cons, Bool.false_or, List.mem_cons, List.not_mem_nil, or_false, or_self]
theorem flat_ints (w : World) (xs : List Int) (T : TypeId) : Flat (w.alloc (.cells (ints xs) T (0, 0))) (fun _ => True) (some ⟨w.heap.size, 0, none⟩) xs.length xs :=
  ⟨rfl, fun _ => ⟨_, rfl, trivial, fun i hi => by
    have h1 : (Addr.mk w.heap.size 0 none).add i = ⟨w.heap.size, i, none⟩ := by unfold Addr.add; split <;> simp_all
    rw [h1, blk_cell (heap_alloc_new w _), ints_get _ _ hi]⟩⟩
theorem EvsOwn.len {T : TypeId} {B : Nat} {w : World} {F : Nat → Prop} {A : Option Addr} {n c : Nat} {es : List Ev} (h : EvsOwn T B w F (.slice A n c) es) : n = es.length := by
  obtain ⟨A', c', h1⟩ := h.shape
  cases h1; rfl

set_option maxRecDepth 100000 in
theorem find_many (A : Option Addr) (n c : Nat) (es : List Ev) (K a b : Int) (w : World) (h : EvsAt w (fun _ => True) (.slice A n c) es) (hb : fewB es = false ∨ (fewB es = true ∧ a = b)) :
    Calls Try.prog 4 #[.slice A n c, .int .i64 K, .int .i64 a, .int .i64 b] w fun e w' => e = .returned (.bool true) ∧ Fr (fun _ => False) w w' := by
  have HF := Lib.hid (fun w' (hf : Fr (fun _ => False) w w') => few16_calls _ es _ w' (h.frame hf (fun _ _ x => x.elim)))
  rcases hb with hb | ⟨hb, rfl⟩
  all_goals
    rw [hb] at HF
    clear h hb
    go_enter Try.func4, Try.ntmps4
    go_wp2_with (first
      | (go_at_call 8
         (with_reducible refine (first16_calls w).mono ?_)
         rintro ex w1 ⟨rfl, hf1⟩)
      | (go_at_call 9
         (with_reducible refine (HF.out _ hf1).mono ?_)
         rintro ex w2 ⟨rfl, hf2⟩)
      | (go_at_call 8
         (with_reducible refine (first16_calls w2).mono ?_)
         rintro ex w3 ⟨rfl, hf3⟩))
    go_ret
    exact ⟨rfl, hf1.trans (hf2.trans hf3)⟩

set_option maxRecDepth 100000 in
set_option maxHeartbeats 4000000 in
theorem find_few (A : Option Addr) (n c : Nat) (es : List Ev) (K a b : Int) (w : World) (h : EvsAt w (fun _ => True) (.slice A n c) es) (hb : fewB es = true) (hab : a ≠ b) :
    Calls Try.prog 4 #[.slice A n c, .int .i64 K, .int .i64 a, .int .i64 b] w fun e w' => e = .returned (.bool true) ∧ Fr (fun _ => False) w w' := by
  have HF := Lib.hid (fun w' (hf : Fr (fun _ => False) w w') => few16_calls _ es _ w' (h.frame hf (fun _ _ x => x.elim)))
  rw [hb] at HF
  have HS := Lib.hid (fewB_smalls hb)
  have HLEN := Lib.hid (fewB_few hb).1
  have HE := Lib.hid (h.mono (G := fun k => k < w.heap.size) (fun k hk _ => hk))
  have HSUM := Lib.hid (find_sum es K a b hab)
  have hne : (a == b) = false := by simpa using hab
  clear h hb hab
  go_enter Try.func4, Try.ntmps4
  go_wp2_with (first
    | (go_at_call 8
       (with_reducible refine (first16_calls w).mono ?_)
       rintro ex w1 ⟨rfl, hf1⟩)
    | (go_at_call 9
       (with_reducible refine (HF.out _ hf1).mono ?_)
       rintro ex w2 ⟨rfl, hf2⟩)
    | (go_at_call 10
       (with_reducible refine (storyNew_calls w2).mono ?_)
       rintro ex w3 ⟨rfl, hs3, hf3, hz3⟩
       have hf03 := hf1.trans (hf2.trans hf3)
       have HA := Lib.hid (storyAdd_calls _ _ _ [] es _ _ w3 hs3 (HE.out.frame hf03 (fun _ _ x => x.elim)) (by simp) HS.out)
       clear hs3 HF)
    | (go_at_call 11
       (with_reducible refine HA.out.mono ?_)
       rintro ex w4 ⟨rfl, ⟨v4, hs4⟩, hf4⟩
       rw [List.nil_append] at hs4
       have h24 : Fr (fun _ => False) w w4 := hf03.trans' hf4 (fun i x y => by have := (hf1.trans hf2).size; omega)
       have HS4 := Lib.hid hs4
       have H04 := Lib.hid h24
       have HOF := Lib.hid (fun (kind : Int) (w' : World) (hf : Fr (fun _ => False) w4 w') (A' : Option Addr) (n' c' : Nat) (ls : List Int) (hl : Flat w' (fun _ => True) A' n' ls) (hn : n' ≤ 20000) => storyOf_calls _ _ es _ _ kind A' n' c' ls w' (HS4.out.frame hf (fun x => x) (fun _ _ x => x.elim)) HS.out hl hn)
       clear hs4 h24 hf4 HA hf03 hf1 hf2 hf3
       have HO1 := Lib.hid (HOF.out K _ ((Fr.refl (fun _ => False) w4).alloc (.cells #[.int .i64 a] 3)) _ 1 1 [a] (flat_ints w4 [a] 3) (by omega)))
    | (go_at_call 12
       (with_reducible refine HO1.out.mono ?_)
       rintro ex w5 ⟨v5, rfl, ho5, hf5⟩
       clear HO1
       obtain ⟨A5, c5, m5, rfl⟩ := ho5.shape'
       have HX5 := Lib.hid (And.intro ho5.len (And.intro (ho5.at_ (fun k x => x)) (((Fr.refl (fun _ => False) w4).alloc _).trans hf5)))
       clear ho5 hf5
       have HO2 := Lib.hid (HOF.out K _ (HX5.out.2.2.alloc (.cells #[.int .i64 b] 3)) _ 1 1 [b] (flat_ints w5 [b] 3) (by omega)))
    | (go_at_call 12
       (with_reducible refine HO2.out.mono ?_)
       rintro ex w6 ⟨v6, rfl, ho6, hf6⟩
       clear HO2
       obtain ⟨A6, c6, m6, rfl⟩ := ho6.shape'
       have HX6 := Lib.hid (And.intro ho6.len (And.intro (ho6.at_ (fun k x => x)) (((Fr.refl (fun _ => False) w5).alloc _).trans hf6)))
       clear ho6 hf6
       have HO3 := Lib.hid (HOF.out K _ ((HX5.out.2.2.trans HX6.out.2.2).alloc (.cells #[.int .i64 a, .int .i64 b] 3)) _ 2 2 [a, b] (flat_ints w6 [a, b] 3) (by omega)))
    | (go_at_call 12
       (with_reducible refine HO3.out.mono ?_)
       rintro ex w7 ⟨v7, rfl, ho7, hf7⟩
       clear HO3
       obtain ⟨A7, c7, m7, rfl⟩ := ho7.shape'
       have HX7 := Lib.hid (And.intro ho7.len (And.intro (ho7.at_ (fun k x => x)) (((Fr.refl (fun _ => False) w6).alloc _).trans hf7)))
       clear ho7 hf7
       have hm5 : m5 ≤ 300 := by rw [HX5.out.1]; exact Nat.le_trans (List.length_filter_le _ _) HLEN.out
       have hm6 : m6 ≤ 300 := by rw [HX6.out.1]; exact Nat.le_trans (List.length_filter_le _ _) HLEN.out
       have hsum : ((m7 : Int) == (m5 : Int) + (m6 : Int)) = true := by
         have h1 := HX5.out.1
         have h2 := HX6.out.1
         have h3 := HX7.out.1
         have h4 := HSUM.out
         simp only [beq_iff_eq]
         omega)
    | (go_at_call 8
       (with_reducible refine (first16_calls w7).mono ?_)
       rintro ex w8 ⟨rfl, hf8⟩
       have HF8 := Lib.hid hf8
       clear hf8
       have HO4 := Lib.hid (HOF.out K _ ((HX5.out.2.2.trans (HX6.out.2.2.trans (HX7.out.2.2.trans HF8.out))).alloc (.cells #[.int .i64 b, .int .i64 a, .int .i64 b] 3)) _ 3 3 [b, a, b] (flat_ints w8 [b, a, b] 3) (by omega)))
    | (go_at_call 12
       (with_reducible refine HO4.out.mono ?_)
       rintro ex w9 ⟨v9, rfl, ho9, hf9⟩
       clear HO4
       rw [find_bab] at ho9
       obtain ⟨A9, c9, m9, rfl⟩ := ho9.shape'
       have HX9 := Lib.hid (And.intro (ho9.at_ (fun k x => x)) (((Fr.refl (fun _ => False) w8).alloc _).trans hf9))
       clear ho9 hf9
       have HSE := Lib.hid (sameEvents_eq _ _ _ _ _ w9 HX9.out.1 (HX7.out.2.1.frame (HF8.out.trans HX9.out.2) (fun _ _ x => x.elim)) (HS.out.filter _)))
    | (go_at_call 13
       (with_reducible refine HSE.out.mono ?_)
       rintro ex w10 ⟨rfl, hf10⟩
       clear HSE
       have HF10 := Lib.hid hf10
       clear hf10
       have HO5 := Lib.hid (HOF.out K _ ((HX5.out.2.2.trans (HX6.out.2.2.trans (HX7.out.2.2.trans (HF8.out.trans (HX9.out.2.trans HF10.out))))).alloc (.cells #[.int .i64 a, .int .i64 a] 3)) _ 2 2 [a, a] (flat_ints w10 [a, a] 3) (by omega)))
    | (go_at_call 12
       (with_reducible refine HO5.out.mono ?_)
       rintro ex w11 ⟨v11, rfl, ho11, hf11⟩
       clear HO5
       rw [find_aa] at ho11
       obtain ⟨A11, c11, m11, rfl⟩ := ho11.shape'
       have HX11 := Lib.hid (And.intro (ho11.at_ (fun k x => x)) (((Fr.refl (fun _ => False) w10).alloc _).trans hf11))
       clear ho11 hf11
       have HSE2 := Lib.hid (sameEvents_eq _ _ _ _ _ w11 HX11.out.1 (HX5.out.2.1.frame (HX6.out.2.2.trans (HX7.out.2.2.trans (HF8.out.trans (HX9.out.2.trans (HF10.out.trans HX11.out.2))))) (fun _ _ x => x.elim)) (HS.out.filter _)))
    | (go_at_call 13
       (with_reducible refine HSE2.out.mono ?_)
       rintro ex w12 ⟨rfl, hf12⟩))
  go_ret
  exact ⟨rfl, H04.out.trans (HX5.out.2.2.trans (HX6.out.2.2.trans (HX7.out.2.2.trans (HF8.out.trans (HX9.out.2.trans (HF10.out.trans (HX11.out.2.trans hf12)))))))⟩

theorem find_walk (A : Option Addr) (n c : Nat) (es : List Ev) (K a b : Int) (w : World) (h : EvsAt w (fun _ => True) (.slice A n c) es) (_ : (Lit.int .i64 K).wf = true) (_ : (Lit.int .i64 a).wf = true) (_ : (Lit.int .i64 b).wf = true) :
    Calls Try.prog 4 #[.slice A n c, .int .i64 K, .int .i64 a, .int .i64 b] w fun e w' => e = .returned (.bool true) ∧ Fr (fun _ => False) w w' := by
  cases hb : fewB es with
  | false => exact find_many A n c es K a b w h (.inl hb)
  | true =>
    by_cases hab : a = b
    · exact find_many A n c es K a b w h (.inr ⟨hb, hab⟩)
    · exact find_few A n c es K a b w h hb hab
end Go.Proofs.Ythlanmibfnaoiaa
