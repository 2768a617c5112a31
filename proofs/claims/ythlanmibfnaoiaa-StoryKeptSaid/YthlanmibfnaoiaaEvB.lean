/- Of; the chapter's first; few events; events that came in. -/
import Derived.Test.YthlanmibfnaoiaaEv9
import Derived.Test.YthlanmibfnaoiaaEvA
namespace Go.Proofs.Ythlanmibfnaoiaa
open Go.RowKit

theorem Smalls.filter {es : List Ev} (h : Smalls es) (p : Ev → Bool) : Smalls (es.filter p) := ⟨Nat.le_trans (List.length_filter_le _ _) h.1, fun e he => h.2 e (List.mem_filter.1 he).1⟩
theorem EvsOwn.base {T : TypeId} {B C : Nat} {w : World} {F : Nat → Prop} {v : Value} {es : List Ev} (h : EvsOwn T B w F v es) (hc : C ≤ B) : EvsOwn T C w F v es :=
  let ⟨cs, h1, h2⟩ := h; ⟨cs, ownsRow_base h1 hc, h2⟩

set_option maxRecDepth 100000 in
theorem storyOf_calls (s : Nat) (v : Value) (es : List Ev) (F G : Nat → Prop) (kind : Int) (A : Option Addr) (n c : Nat) (ls : List Int) (w : World) (h : StoryAt w s F v es) (hs : Smalls es) (hl : Flat w G A n ls) (hn : n ≤ 20000) :
    Calls Try.prog 12 #[.pointer (some ⟨s, 0, none⟩), .int .i64 kind, .slice A n c] w fun e w' => ∃ v', e = .returned v' ∧ EvsOwn 33 w.heap.size w' (fun k => w.heap.size ≤ k) v' (es.filter (·.keeps kind ls)) ∧ Fr (fun _ => False) w w' := by
  have hsb := blk_lt h.hb
  have hfa := ((Fr.refl (fun _ => False) w).alloc (.cells #[.int .i64 kind] 3)).alloc (.cells #[.slice A n c] 31)
  have k1 := blk_alloc (heap_alloc_new w (.cells #[.int .i64 kind] 3)) (.cells #[.slice A n c] 31)
  have k2 := heap_alloc_new (w.alloc (.cells #[.int .i64 kind] 3)) (.cells #[.slice A n c] 31)
  rw [show (w.alloc (.cells #[.int .i64 kind] 3)).heap.size = w.heap.size + 1 by simp] at k2
  have hsz : ((w.alloc (.cells #[.int .i64 kind] 3)).alloc (.cells #[.slice A n c] 31)).heap.size = w.heap.size + 2 := by simp
  have HC := Lib.hid (show Caught ((w.alloc (.cells #[.int .i64 kind] 3)).alloc (.cells #[.slice A n c] 31)) (fun k => k < w.heap.size) w.heap.size (w.heap.size + 1) kind A n c ls from
    ⟨k1, k2, (hl.mono (fun k hk _ => hk)).frame hfa (fun _ _ x => x.elim), hn⟩)
  have q0 : ((w.alloc (.cells #[.int .i64 kind] 3)).alloc (.cells #[.slice A n c] 31)).cell? ⟨s, 0, none⟩ = some v := by rw [blk_cell (hfa.heap h.hb (fun x => x))]; rfl
  obtain ⟨A0, c0, cs0, rfl, x1⟩ := id h.hev.ex
  have HEV := Lib.hid ((h.hev.mono (G := fun k => k < w.heap.size) (fun k hk _ => hk)).frame hfa (fun _ _ x => x.elim))
  have HS := Lib.hid hs
  have hlen := hs.1
  have HFA := Lib.hid hfa
  clear x1 h hl hs k1 k2 hfa
  go_enter Try.func12, Try.ntmps12
  go_wp2_with (first
    | (go_at_call 25
       (with_reducible refine (cloneEv_calls _ es _ _ HEV.out hlen).mono ?_)
       rintro ex w1 ⟨v1, rfl, ho1, hf1⟩
       have hc1 := HC.out.frame hf1 (fun x => x) (fun x => x) (fun _ _ x => x.elim)
       rw [hsz] at ho1
       obtain ⟨A1, c1, n1, rfl⟩ := ho1.shape'
       have HD := Lib.hid (deleted_calls (w.heap.size + 2) _ es (fun k => k < w.heap.size) w.heap.size (w.heap.size + 1) kind A n c ls (fun k => k < w.heap.size) w1 ho1 (fun k x => by omega) (fun k x => by omega) (by omega) (by omega) hlen hc1)
       have HF1 := Lib.hid hf1
       clear ho1 hc1 hf1)
    | (go_at_call 24
       (with_reducible refine HD.out.mono ?_)
       rintro ex w2 ⟨v2, rfl, ho2, hf2⟩
       obtain ⟨A2, c2, n2, rfl⟩ := ho2.shape'
       have HT := Lib.hid (told_calls _ (es.filter (·.keeps kind ls)) (fun _ => True) w2 ((ho2.mono (G := fun _ => True) (fun _ _ _ => trivial)).at_ (fun _ _ => trivial)) (HS.out.filter _))
       have HF2 := Lib.hid (And.intro ho2 hf2)
       clear ho2 hf2)
    | (go_at_call 21
       (with_reducible refine HT.out.mono ?_)
       rintro ex w3 ⟨v3, rfl, ho3, hf3⟩
       have HF3 := Lib.hid (And.intro ho3 hf3)
       clear ho3 hf3))
  go_ret
  have f1 := HFA.out.trans HF1.out
  have f2 : Fr (fun _ => False) w w2 := f1.trans' HF2.out.2 (fun i x y => by omega)
  have hsz2 := f2.size
  exact ⟨_, rfl, (HF3.out.1.base hsz2).mono (fun k _ x => Nat.le_trans hsz2 x), f2.trans HF3.out.2⟩

set_option maxRecDepth 100000 in
theorem first16_calls (w : World) : Calls Try.prog 8 #[] w fun e w' => e = .returned (.bool true) ∧ Fr (fun _ => False) w w' := by
  go_enter Try.func8, Try.ntmps8
  go_wp2_with (first
    | (go_at_call 10
       (with_reducible refine (storyNew_calls w).mono ?_)
       rintro ex w1 ⟨rfl, hs1, hf1, hz1⟩
       have HO := Lib.hid (storyOf_calls w.heap.size _ [] _ (fun _ => True) 2 none 0 0 [] w1 hs1 ⟨by simp, fun e he => by cases he⟩ (Flat.nil _ _ _) (by omega))
       have HL := Lib.hid (fun w' (hf : Fr (fun _ => False) w1 w') => storyLen_calls w.heap.size _ [] _ w' (hs1.frame hf (fun x => x) (fun _ _ x => x.elim)))
       clear hs1)
    | (go_at_call 12
       (with_reducible refine HO.out.mono ?_)
       rintro ex w2 ⟨v2, rfl, ho2, hf2⟩
       obtain ⟨A2, c2, rfl⟩ := ho2.shape
       simp only [List.filter_nil, List.length_nil] at ho2 ⊢
       clear ho2)
    | (go_at_call 16
       (with_reducible refine (HL.out _ hf2).mono ?_)
       rintro ex w3 ⟨rfl, hf3⟩))
  go_ret
  exact ⟨rfl, hf1.trans (hf2.trans hf3)⟩
end Go.Proofs.Ythlanmibfnaoiaa
