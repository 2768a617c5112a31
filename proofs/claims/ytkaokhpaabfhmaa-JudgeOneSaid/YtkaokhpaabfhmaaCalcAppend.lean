/- append on slices of whole numbers that the call has made itself. -/
import Derived.Test.YtkaokhpaabfhmaaCalcFirst
import Derived.OwnWalk
import Derived.Laws.OwnMore
import Derived.Deep.AppendLies
namespace Go.Proofs.Ytkaokhpaabfhmaa
open Go.RowKit

/-- A slice of the call's own, which holds these numbers. -/
def Own (B : Nat) (w : World) (v : Value) (xs : List Int) : Prop := w.ownsRow B 3 1 v xs.length (xs.map (Value.int .i64))
theorem infoInt1 : (Try.prog.info? 3).map (fun i => (i.zero, i.size, i.bytes)) = some (some (.int .i64 0), 1, 8) := by kernel_rfl

theorem Own.nil (B : Nat) (w : World) : Own B w (.slice none 0 0) [] := World.ownsRow_nil _ _ _ _
theorem Own.empty {B : Nat} {w : World} (hB : B ≤ w.heap.size) : Own B (w.alloc (.cells #[] 3)) (.slice (some ⟨w.heap.size, 0, none⟩) 0 0) [] := World.ownsRow_made w #[] 0 hB (by unfold maxLen; omega) rfl
theorem Own.shape {B : Nat} {w : World} {v : Value} {xs : List Int} (h : Own B w v xs) (hx : ∀ x ∈ xs, I64 x) : ∃ A cap, v = .slice A xs.length cap ∧ IntsC w A xs.length cap xs ∧ ∀ a, A = some a → B ≤ a.block := by
  rcases h.2 with ⟨rfl, h0⟩ | ⟨g, cap, cur, rfl, hb, hg, hn, hm, hs, ht⟩
  · rw [h0]
    obtain rfl : xs = [] := List.length_eq_zero_iff.1 h0
    exact ⟨none, 0, rfl, IntsC.nil w, fun a h => by cases h⟩
  · refine ⟨_, cap, rfl, ⟨⟨rfl, fun h0 => ⟨_, rfl, fun i hi => ?_⟩⟩, hn, by unfold maxLen at hm; omega, hx⟩, fun a h => by cases h; exact hb⟩
    rw [add_none, Nat.zero_add, blk_cell hg]
    have h1 : (cur.toList.take (xs.length * 1))[i]? = some (.int .i64 (xs.getD i 0)) := by
      rw [ht, List.getElem?_map, List.getElem?_eq_getElem hi, List.getD_eq_getElem?_getD, List.getElem?_eq_getElem hi]; rfl
    rw [List.getElem?_take, if_pos (by omega)] at h1
    simpa using h1
theorem Own.frame {B : Nat} {w w' : World} {v : Value} {xs : List Int} {S : Nat → Prop} (h : Own B w v xs) (hf : Fr S w w') (hs : ∀ k, S k → k < B) : Own B w' v xs := by
  refine ⟨h.1, ?_⟩
  rcases h.2 with hn | ⟨g, cap, cur, rfl, hb, hg, rest⟩
  · exact .inl hn
  · exact .inr ⟨g, cap, cur, rfl, hb, hf.heap hg (fun x => by have := hs _ x; omega), rest⟩

theorem run_append_ints (w : World) (ty : TypeId) (B : Nat) (v : Value) (ys : List Int) (hown : Own B w v ys) (A : Option Addr) (m c : Nat) (zs : List Int) (hz : IntsC w A m c zs) (hA : A = none → c = 0)
    (hlen : ys.length + m ≤ 1000000) (hB : B ≤ w.heap.size) :
    ∃ v' w', (Builtin.append_ #[24, 24] ty #[v, .slice A m c]).run Try.prog w = .ok v' w' ∧ Own B w' v' (ys ++ zs) ∧ Fr (fun k => B ≤ k) w w' := by
  obtain ⟨i0, hi, hz0, hz1, hz2⟩ := info_parts infoInt1
  cases A with
  | none =>
    have hm : m = 0 := by
      by_cases h : m = 0
      · exact h
      · obtain ⟨_, h1, _⟩ := hz.row.at_ (by omega); cases h1
    subst hm
    rw [hA rfl]
    obtain rfl : zs = [] := List.length_eq_zero_iff.1 hz.row.len
    exact ⟨v, w, run_append_owned_none w B 24 ty 3 i0 1 Try.underlying24 hi v ys.length _ hown, by rw [List.append_nil]; exact hown, Fr.refl _ _⟩
  | some ad =>
    obtain ⟨v', w', hr, h2, hg, _⟩ := run_append_own (P := Try.prog) w B 24 ty 3 i0 (.int .i64 0) 1 8 Try.underlying24 hi hz0 hz1 hz2 rfl (by decide) v ys.length _ hown ad m c (zs.map (Value.int .i64)) (by rw [List.length_map, hz.row.len, Nat.mul_one])
      (by
        intro j u hj
        rw [List.getElem?_map] at hj
        cases hzj : zs[j]? with
        | none => rw [hzj] at hj; cases hj
        | some y =>
          rw [hzj] at hj; cases hj
          have hlt : j < m := by rw [← hz.row.len]; exact (List.getElem?_eq_some_iff.1 hzj).1
          obtain ⟨ad', h1, h2⟩ := hz.row.at_ (by omega)
          cases h1
          rw [h2 j hlt, List.getD_eq_getElem?_getD, hzj]; rfl)
      (by
        intro u hu
        obtain ⟨y, _, rfl⟩ := List.mem_map.1 hu
        rfl) (by unfold maxLen; omega) (by omega) hB
    refine ⟨v', w', hr, ?_, ⟨hg.os, hg.tape, hg.output, hg.size, fun k hk hs => hg.block k hk (fun e => hs (hown.lt k e.symm).1)⟩⟩
    unfold Own
    rw [List.length_append, hz.row.len, List.map_append]
    exact h2
theorem wp_append_ints {o : Oper} {a : Act} {K : Act → World → Prop} {Q : Exit → Act → World → Prop} (w : World) (s x : Operand)
    (ho : o.op = .call { callee := .builtin .append, args := #[s, x], argTypes := #[24, 24] }) (B : Nat)
    (v : Value) (ys : List Int) (hs : a.eval s = v) (hown : Own B w v ys) (A : Option Addr) (m c : Nat) (zs : List Int) (hx : a.eval x = .slice A m c) (hz : IntsC w A m c zs) (hA : A = none → c = 0)
    (hlen : ys.length + m ≤ 1000000) (hB : B ≤ w.heap.size)
    (h : ∀ v' w', Own B w' v' (ys ++ zs) → Fr (fun k => B ≤ k) w w' → K (a.put o.dst v') w') : o.wp Try.prog a w K Q := by
  obtain ⟨v', w', hr, h2, h3⟩ := run_append_ints w o.type B v ys hown A m c zs hz hA hlen hB
  unfold Oper.wp execOp
  simp only [ho, resolve, invoke, builtin, Sem.run_bind, Sem.run_pure, Result.andThen_ok, List.map_toArray, List.map_cons, List.map_nil, hs, hx, hr]
  exact h v' w' h2 h3
theorem append_ints {ops : Array Oper} {rest : List Oper} {o : Oper} {a : Act} {Q : Exit → Act → World → Prop} (w : World) (hgd : o.guard = none) (s x : Operand)
    (ho : o.op = .call { callee := .builtin .append, args := #[s, x], argTypes := #[24, 24] }) (B : Nat)
    (v : Value) (ys : List Int) (hs : a.eval s = v) (hown : Own B w v ys) (ad : Addr) (m c : Nat) (zs : List Int) (hx : a.eval x = .slice (some ad) m c) (hz : IntsC w (some ad) m c zs)
    (hlen : ys.length + m ≤ 1000000) (hB : B ≤ w.heap.size)
    (h : ∀ v' w', Own B w' v' (ys ++ zs) → Fr (fun k => B ≤ k) w w' → wpList Try.prog ops Q rest (a.put o.dst v') w') : wpList Try.prog ops Q (o :: rest) a w :=
  wpList_plain hgd fun _ hK => wp_append_ints w s x ho B v ys hs hown (some ad) m c zs hx hz (fun h => by cases h) hlen hB fun v' w' h2 h3 => hK _ _ (h v' w' h2 h3)
theorem step_append_ints {ops : Array Oper} {o : Oper} {a : Act} {K : Act → World → Prop} {Q : Exit → Act → World → Prop} {E : Prop} (w : World) (hgd : o.guard = none) (s x : Operand)
    (ho : o.op = .call { callee := .builtin .append, args := #[s, x], argTypes := #[24, 24] }) (B : Nat)
    (v : Value) (ys : List Int) (hs : a.eval s = v) (hown : Own B w v ys) (A : Option Addr) (m c : Nat) (zs : List Int) (hx : a.eval x = .slice A m c) (hz : IntsC w A m c zs) (hA : A = none → c = 0)
    (hlen : ys.length + m ≤ 1000000) (hB : B ≤ w.heap.size)
    (h : ∀ v' w', Own B w' v' (ys ++ zs) → Fr (fun k => B ≤ k) w w' → K (a.put o.dst v') w') :
    if Region.wanted o (yielded ops a.tmps) = true then Oper.wp Try.prog o a w K Q else E := by
  have hw : Region.wanted o (yielded ops a.tmps) = true := by simp [Region.wanted, hgd]
  rw [if_pos hw]
  exact wp_append_ints w s x ho B v ys hs hown A m c zs hx hz hA hlen hB h
end Go.Proofs.Ytkaokhpaabfhmaa
