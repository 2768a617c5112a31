/- slices.Grow at nil and slices.Concat of two slices of events. -/
import Derived.Test.YthlanmibfnaoiaaEv6
import Derived.Lib.AppendZerosOnto
import Derived.Lib.AppendZeros
namespace Go.Proofs.Ythlanmibfnaoiaa
open Go.RowKit

theorem run_append_evs (w : World) (ty : TypeId) (B : Nat) (v : Value) (n : Nat) (xs : List Value) (hown : w.ownsRow B 33 10 v n xs) (A : Option Addr) (m c : Nat) (cs : List Value) (hl : cs.length = m * 10) (hA : A = none → c = 0) (hm : m ≤ c)
    (hc : 0 < m → ∃ ad, A = some ad ∧ ∀ j u, cs[j]? = some u → w.cell? (ad.add j) = some u) (h1 : ∀ u ∈ cs, u.oneCell' = true) (hlen : n + m ≤ 1000000) (hB : B ≤ w.heap.size) :
    ∃ v' w', (Builtin.append_ #[22, 22] ty #[v, .slice A m c]).run Try.prog w = .ok v' w' ∧ w'.ownsRow B 33 10 v' (n + m) (xs ++ cs) ∧ Fr (fun k => v.ownBlock = some k) w w' := by
  obtain ⟨i0, hi, hz0, hz1, hz2⟩ := info_parts infoEv
  cases A with
  | none =>
    have hc0 := hA rfl
    subst hc0
    obtain rfl : m = 0 := by omega
    obtain rfl : cs = [] := List.length_eq_zero_iff.1 hl
    exact ⟨v, w, run_append_owned_none w B 22 ty 33 i0 10 Try.underlying22 hi v n _ hown, by rw [List.append_nil]; exact hown, Fr.refl _ _⟩
  | some ad =>
    obtain ⟨v', w', hr, h2, hg, _⟩ := run_append_own (P := Try.prog) w B 22 ty 33 i0 _ 10 128 Try.underlying22 hi hz0 hz1 hz2 rfl (by decide) v n _ hown ad m c cs hl
      (by
        by_cases h0 : m = 0
        · subst h0
          obtain rfl : cs = [] := List.length_eq_zero_iff.1 hl
          intro j u hj; cases hj
        · obtain ⟨ad', e, h⟩ := hc (by omega)
          cases e; exact h) h1 (by unfold maxLen; omega) (by omega) hB
    exact ⟨v', w', hr, h2, ⟨hg.os, hg.tape, hg.output, hg.size, fun k hk hs => hg.block k hk (fun e => hs e.symm)⟩⟩
theorem append_evs {ops : Array Oper} {rest : List Oper} {o : Oper} {a : Act} {Q : Exit → Act → World → Prop} (w : World) (hgd : o.guard = none) (s x : Operand)
    (ho : o.op = .call { callee := .builtin .append, args := #[s, x], argTypes := #[22, 22] }) (B : Nat)
    (v : Value) (n : Nat) (xs : List Value) (hs : a.eval s = v) (hown : w.ownsRow B 33 10 v n xs) (A : Option Addr) (m c : Nat) (cs : List Value) (hx : a.eval x = .slice A m c) (hl : cs.length = m * 10) (hA : A = none → c = 0) (hm : m ≤ c)
    (hc : 0 < m → ∃ ad, A = some ad ∧ ∀ j u, cs[j]? = some u → w.cell? (ad.add j) = some u) (h1 : ∀ u ∈ cs, u.oneCell' = true) (hlen : n + m ≤ 1000000) (hB : B ≤ w.heap.size)
    (h : ∀ v' w', w'.ownsRow B 33 10 v' (n + m) (xs ++ cs) → Fr (fun k => v.ownBlock = some k) w w' → wpList Try.prog ops Q rest (a.put o.dst v') w') : wpList Try.prog ops Q (o :: rest) a w :=
  wpList_plain hgd fun _ hK => by
    obtain ⟨v', w', hr, h2, h3⟩ := run_append_evs w o.type B v n xs hown A m c cs hl hA hm hc h1 hlen hB
    unfold Oper.wp execOp
    simp only [ho, resolve, invoke, builtin, Sem.run_bind, Sem.run_pure, Result.andThen_ok, List.map_toArray, List.map_cons, List.map_nil, hs, hx, hr]
    exact hK _ _ (h v' w' h2 h3)

set_option maxRecDepth 100000 in
theorem grow_calls (k : Nat) (w : World) (hk : k ≤ 100000) :
    Calls Try.prog 31 #[.slice none 0 0, .int .i64 k] w fun ex w' => ∃ v, ex = .returned v ∧ w'.ownsRow w.heap.size 33 10 v 0 [] ∧ Fr (fun _ => False) w w' := by
  by_cases h0 : k = 0
  · subst h0
    go_enter Try.func31, Try.ntmps31
    go_wp2
    go_ret
    exact ⟨_, rfl, World.ownsRow_nil _ _ _ _, Fr.refl _ _⟩
  · obtain ⟨i0, hi, hz0, hz1, hz2⟩ := info_parts infoEv
    have hfit : Builtin.nextslicecap (0 + k) 0 * i0.bytes ≤ 281474976710656 := by
      rw [Nat.zero_add, nextslicecap_zero (by omega), hz2]; omega
    have hrz := fun ty => Lib.run_append_grow_zeros (P := Try.prog) w 22 3 ty 33 i0 _ .i64 .i64 Try.underlying22 Try.underlying3 hi hz0 none 0 0 [] (run_firstCells_none w.drew i0.size 0 0 0) k (by omega) (by rw [hz1]; omega) (by omega) (by omega) (by rw [hz2]; omega) hfit
    have hge : k ≤ grownCap w (0 + k) 0 33 := by have := grownCap_ge w (0 + k) 0 33; omega
    have hle := grownCap_le_maxLen w (0 + k) 0 33 (by unfold maxLen; omega)
    simp only [Nat.zero_add] at hrz hge hle
    generalize grownCap w k 0 33 = G at hrz hge hle
    obtain ⟨cur, hcur, hsz⟩ : ∃ cur : Array Value, cur = (#[] : Array Value) ++ Builtin.zeroCells (Value.agg #[.int .i64 0, .int .i64 0, .int .i64 0, .int .i64 0, .int .i64 0, .int .i64 0, .int .i64 0, .slice none 0 0, .slice none 0 0, .slice none 0 0]).cells k ++ Builtin.zeroCells (Value.agg #[.int .i64 0, .int .i64 0, .int .i64 0, .int .i64 0, .int .i64 0, .int .i64 0, .int .i64 0, .slice none 0 0, .slice none 0 0, .slice none 0 0]).cells (G - k) ∧ cur.size = G * 10 := by
      refine ⟨_, rfl, ?_⟩
      rw [Array.size_append, Array.size_append, size_zeroCells, size_zeroCells]
      simp [Value.cells]
      omega
    have hrz' : ∀ ty, (Builtin.append_ #[22, 3] ty #[.slice none 0 0, .int .i64 (k : Int)]).run Try.prog w = .ok (.slice (some ⟨w.heap.size, 0, none⟩) k G) (w.drew.alloc (.cells cur 33)) := fun ty => by rw [hcur]; exact hrz ty
    clear hrz hi hz0 hz1 hz2 hfit hcur
    have hG : G ≤ 9223372036854775807 := by unfold maxLen at hle; omega
    have hpos : (0 : Int) < k := by omega
    have HZ := Lib.hid (And.intro hle hsz)
    clear hle hsz
    go_enter Try.func31, Try.ntmps31
    go_wp2_with (at_builtin; refine Lib.wpList_append_run _ rfl _ _ _ _ rfl _ _ rfl rfl _ _ (hrz' _) ?_)
    go_ret
    exact ⟨_, rfl, World.ownsRow_made w.drew cur G (Nat.le_refl _) HZ.out.1 HZ.out.2, (Fr.refl _ _).drew.alloc _⟩
end Go.Proofs.Ythlanmibfnaoiaa
