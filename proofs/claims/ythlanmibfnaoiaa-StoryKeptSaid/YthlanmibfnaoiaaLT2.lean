/- ltklaw16.StoryKept: the copies. -/
import Derived.Test.YthlanmibfnaoiaaLT1
namespace Go.Proofs.Ythlanmibfnaoiaa
open Go.RowKit

/-- Events with lists of their own. -/
def EvM (B : Nat) (w : World) (v : Value) (es : List Ev) : Prop :=
  ∃ cs, w.ownsRow B 33 10 v es.length cs ∧ ∀ i, i < es.length → EvRowN w B cs i (es.getD i default)
theorem LiesN.lies {w : World} {B : Nat} {e : Ev} {A1 A2 A3 : Option Addr} {n1 c1 n2 c2 n3 c3 : Nat} (h : LiesN w B e A1 n1 c1 A2 n2 c2 A3 n3 c3) : Lies w (fun k => B ≤ k) e A1 n1 c1 A2 n2 c2 A3 n3 c3 := ⟨h.r.flat, h.w_.flat, h.g.flat⟩
theorem EvM.at_ {B : Nat} {w : World} {v : Value} {es : List Ev} (h : EvM B w v es) : EvsAt w (fun k => B ≤ k) v es := by
  obtain ⟨cs, h1, h2⟩ := h
  exact EvsOwn.at_ (B := B) ⟨cs, h1, fun i hi => by
    obtain ⟨A1, n1, c1, A2, n2, c2, A3, n3, c3, g1, g2⟩ := h2 i hi
    exact ⟨A1, n1, c1, A2, n2, c2, A3, n3, c3, g1, g2.lies⟩⟩ (fun _ x => x)
theorem EvM.nil (B : Nat) (w : World) : EvM B w (.slice none 0 0) [] := ⟨[], World.ownsRow_nil _ _ _ _, fun _ hi => absurd hi (Nat.not_lt_zero _)⟩
theorem EvRowN.frameOwn {w w' : World} {B C : Nat} {cs ds : List Value} {i n : Nat} {e : Ev} {v : Value} (h : EvRowN w B cs i e) (ho : w.ownsRow C 33 10 v n ds) (hf : Fr (fun k => v.ownBlock = some k) w w') : EvRowN w' B cs i e := by
  rcases ho.2 with ⟨rfl, _⟩ | ⟨g, cap, cur, rfl, _, hg, _⟩
  · exact h.frame hf (fun k _ _ x => by cases x)
  · have hf2 : Fr (fun k => k = g) w w' := hf.mono (fun k x => by cases x; rfl)
    obtain ⟨A1, n1, c1, A2, n2, c2, A3, n3, c3, g1, g2⟩ := h
    exact ⟨A1, n1, c1, A2, n2, c2, A3, n3, c3, g1, ⟨g2.r.frameT hg (by decide) hf2, g2.w_.frameT hg (by decide) hf2, g2.g.frameT hg (by decide) hf2⟩⟩
/-- One more event. -/
theorem EvM.snoc {B : Nat} {w w' : World} {v v' : Value} {es : List Ev} {cs : List Value} (hc : w.ownsRow B 33 10 v es.length cs) (hr : ∀ i, i < es.length → EvRowN w B cs i (es.getD i default)) {e : Ev} {A1 A2 A3 : Option Addr} {n1 c1 n2 c2 n3 c3 : Nat} (hL : LiesN w B e A1 n1 c1 A2 n2 c2 A3 n3 c3)
    (h2 : w'.ownsRow B 33 10 v' (es.length + 1) (cs ++ e.cells (.slice A1 n1 c1) (.slice A2 n2 c2) (.slice A3 n3 c3))) (hf : Fr (fun k => v.ownBlock = some k) w w') : EvM B w' v' (es ++ [e]) := by
  refine ⟨_, by rw [List.length_append]; exact h2, fun i hi => ?_⟩
  rw [List.length_append] at hi
  have hi' : i < es.length + 1 := hi
  have hlc := hc.1
  by_cases hlt : i < es.length
  · rw [getD_append_left hlt]
    obtain ⟨X1, x1, y1, X2, x2, y2, X3, x3, y3, g1, g2⟩ := (hr i hlt).frameOwn hc hf
    exact ⟨X1, x1, y1, X2, x2, y2, X3, x3, y3, fun j hj => by rw [List.getElem?_append_left (by omega)]; exact g1 j hj, g2⟩
  · obtain rfl : i = es.length := by omega
    rw [getD_append_last]
    have hn : EvRowN w B (e.cells (.slice A1 n1 c1) (.slice A2 n2 c2) (.slice A3 n3 c3)) 0 e := ⟨A1, n1, c1, A2, n2, c2, A3, n3, c3, fun j hj => by rw [Nat.zero_mul, Nat.zero_add], hL⟩
    obtain ⟨X1, x1, y1, X2, x2, y2, X3, x3, y3, g1, g2⟩ := hn.frameOwn hc hf
    exact ⟨X1, x1, y1, X2, x2, y2, X3, x3, y3, fun j hj => by
      rw [List.getElem?_append_right (by omega), hlc, show es.length * 10 + j - es.length * 10 = j by omega]
      have := g1 j hj
      rwa [Nat.zero_mul, Nat.zero_add] at this, g2⟩
theorem EvM.mut {B : Nat} {w : World} {v : Value} {es : List Ev} (h : EvM B w v es) (h0 : 0 < es.length) : ∃ g c, v = .slice (some ⟨g, 0, none⟩) es.length c ∧ MutOK w B w.heap.size g es.length := by
  obtain ⟨cs, ho, hr⟩ := h
  exact mut_of (Nat.le_refl _) ho hr h0

set_option maxRecDepth 100000 in
theorem kept_many (A : Option Addr) (n c : Nat) (es : List Ev) (w : World) (h : EvsAt w (fun _ => True) (.slice A n c) es) (hb : fewB es = false) :
    Calls Try.prog 5 #[.slice A n c] w fun e w' => e = .returned (.bool true) ∧ Fr (fun _ => False) w w' := by
  have HF := Lib.hid (fun w' (hf : Fr (fun _ => False) w w') => few16_calls _ es _ w' (h.frame hf (fun _ _ x => x.elim)))
  rw [hb] at HF
  have hk := Fr.refl (fun _ => False) w
  clear h hb
  go_enter Try.func5, Try.ntmps5
  go_wp2_with (first
    | (go_at_call 8
       (with_reducible refine (first16_calls _).mono ?_)
       rintro ex w1 ⟨rfl, hf⟩
       replace hk := hk.trans hf
       clear hf)
    | (go_at_call 9
       (with_reducible refine (HF.out _ hk).mono ?_)
       rintro ex w2 ⟨rfl, hf⟩
       replace hk := hk.trans hf
       clear hf))
  go_ret
  exact ⟨rfl, hk⟩
end Go.Proofs.Ythlanmibfnaoiaa
