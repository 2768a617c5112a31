/- The atomic machine's state in a world; one more access behind a list of them. -/
import Derived.Test.YtkaokhpaabfhmaaP3
import Derived.Test.YtkaokhpaabfhmaaEv3
import Derived.Laws.AppendOwn
import Derived.Laws.Append
namespace Go.Proofs.Ytkaokhpaabfhmaa
open Go.RowKit

/-- The cells of an access. -/
def accCells (a v : Int) : List Value := [.int .i64 a, .int .i64 v]
theorem acc_news {w : World} {b : Nat} {a v : Int} {T : TypeId} (h : w.heap[b]? = some (.cells #[.int .i64 a, .int .i64 v] T (0, 0))) : ∀ j u, (accCells a v)[j]? = some u → w.cell? ((⟨b, 0, none⟩ : Addr).add j) = some u := by
  intro j u hj
  have h1 : (Addr.mk b 0 none).add j = ⟨b, j, none⟩ := by unfold Addr.add; split <;> simp_all
  rw [h1, blk_cell h]
  have : j < 2 := by have := (List.getElem?_eq_some_iff.1 hj).1; exact this
  have : j = 0 ∨ j = 1 := by omega
  rcases this with rfl | rfl <;> exact hj
theorem acc_run (w : World) (ty : TypeId) (B : Nat) (v : Value) (n : Nat) (xs : List Value) (hown : w.ownsRow B 54 2 v n xs) (b : Nat) (a u : Int) (hb : w.heap[b]? = some (.cells #[.int .i64 a, .int .i64 u] 54 (0, 0)))
    (hn : n ≤ 100000) (hB : B ≤ w.heap.size) :
    ∃ v' w', (Builtin.append_ #[44, 44] ty #[v, .slice (some ⟨b, 0, none⟩) 1 1]).run Try.prog w = .ok v' w' ∧ w'.ownsRow B 54 2 v' (n + 1) (xs ++ accCells a u) ∧ Fr (fun k => v.ownBlock = some k) w w' ∧
      (v'.ownBlock = v.ownBlock ∨ v'.ownBlock = some w.heap.size) ∧ ∃ g c, v' = .slice (some ⟨g, 0, none⟩) (n + 1) c := by
  obtain ⟨i0, hi, hz0, hz1, hz2⟩ := info_parts infoAcc
  obtain ⟨v', w', hr, h2, hg, _⟩ := run_append_own (P := Try.prog) w B 44 ty 54 i0 _ 2 16 Try.underlying44 hi hz0 hz1 hz2 rfl (by decide) v n xs hown ⟨b, 0, none⟩ 1 1 (accCells a u) rfl (acc_news hb)
    (by intro z hz; unfold accCells at hz; simp at hz; rcases hz with rfl | rfl <;> rfl) (by unfold maxLen; omega) (by omega) hB
  refine ⟨v', w', hr, h2, ⟨hg.os, hg.tape, hg.output, hg.size, fun k hk hs => hg.block k hk (fun e => hs e.symm)⟩, ?_, ?_⟩
  · rcases hown.2 with ⟨rfl, rfl⟩ | ⟨g, cap, cur, rfl, hbg, hgg, hnc, hcm, hcs, htake⟩
    · have h3 := run_append_nil (P := Try.prog) w 44 ty 54 i0 _ Try.underlying44 hi hz0 ⟨b, 0, none⟩ 1 1 (accCells a u) (by rw [hz1]; rfl) (acc_news hb) (by omega) (by omega) (by rw [hz2]; omega)
      rw [h3] at hr
      cases hr
      exact .inr rfl
    · by_cases hroom : n + 1 ≤ cap
      · have h3 := run_append_room (P := Try.prog) w 44 ty 54 i0 Try.underlying44 hi g n cap cur hgg ⟨b, 0, none⟩ 1 1 (accCells a u) (by rw [hz1]; rfl) (acc_news hb)
          (by intro z hz; unfold accCells at hz; simp at hz; rcases hz with rfl | rfl <;> rfl) hroom (by rw [hz1, hcs]; show n * 2 + 2 ≤ cap * 2; omega)
        rw [h3] at hr
        cases hr
        exact .inl rfl
      · have h3 := run_append_grow (P := Try.prog) w 44 ty 54 i0 _ Try.underlying44 hi hz0 ⟨g, 0, none⟩ n cap xs (by rw [hz1]; exact hown.1) (hown.cells (g := g) rfl) ⟨b, 0, none⟩ 1 1 (accCells a u) (by rw [hz1]; rfl) (acc_news hb) (by omega) (by omega)
          (growslice_fits (by omega) (by rw [hz2]; omega))
        rw [h3] at hr
        cases hr
        exact .inr rfl
  · rcases h2.2 with ⟨_, h0⟩ | ⟨g, cap, cur, rfl, _⟩
    · omega
    · exact ⟨g, cap, rfl⟩
/-- append of one access, in a list of operations. -/
theorem append_acc {ops : Array Oper} {rest : List Oper} {o : Oper} {a : Act} {Q : Exit → Act → World → Prop} (w : World) (hgd : o.guard = none) (s x : Operand)
    (ho : o.op = .call { callee := .builtin .append, args := #[s, x], argTypes := #[44, 44] }) (B : Nat)
    (v : Value) (n : Nat) (xs : List Value) (hs : a.eval s = v) (hown : w.ownsRow B 54 2 v n xs) (b : Nat) (p u : Int) (hx : a.eval x = .slice (some ⟨b, 0, none⟩) 1 1) (hb : w.heap[b]? = some (.cells #[.int .i64 p, .int .i64 u] 54 (0, 0)))
    (hn : n ≤ 100000) (hB : B ≤ w.heap.size)
    (h : ∀ v' w', w'.ownsRow B 54 2 v' (n + 1) (xs ++ accCells p u) → Fr (fun k => v.ownBlock = some k) w w' → (v'.ownBlock = v.ownBlock ∨ v'.ownBlock = some w.heap.size) → (∃ g c, v' = .slice (some ⟨g, 0, none⟩) (n + 1) c) → wpList Try.prog ops Q rest (a.put o.dst v') w') : wpList Try.prog ops Q (o :: rest) a w :=
  wpList_plain hgd fun _ hK => by
    obtain ⟨v', w', hr, h2, h3, h4, h5⟩ := acc_run w o.type B v n xs hown b p u hb hn hB
    unfold Oper.wp execOp
    simp only [ho, resolve, invoke, builtin, Sem.run_bind, Sem.run_pure, Result.andThen_ok, List.map_toArray, List.map_cons, List.map_nil, hs, hx, hr]
    exact hK _ _ (h v' w' h2 h3 h4 h5)

theorem step_append_acc {ops : Array Oper} {o : Oper} {a : Act} {K : Act → World → Prop} {Q : Exit → Act → World → Prop} {E : Prop} (w : World) (hgd : o.guard = none) (s x : Operand)
    (ho : o.op = .call { callee := .builtin .append, args := #[s, x], argTypes := #[44, 44] }) (B : Nat)
    (v : Value) (n : Nat) (xs : List Value) (hs : a.eval s = v) (hown : w.ownsRow B 54 2 v n xs) (b : Nat) (p u : Int) (hx : a.eval x = .slice (some ⟨b, 0, none⟩) 1 1) (hb : w.heap[b]? = some (.cells #[.int .i64 p, .int .i64 u] 54 (0, 0)))
    (hn : n ≤ 100000) (hB : B ≤ w.heap.size)
    (h : ∀ v' w', w'.ownsRow B 54 2 v' (n + 1) (xs ++ accCells p u) → Fr (fun k => v.ownBlock = some k) w w' → (v'.ownBlock = v.ownBlock ∨ v'.ownBlock = some w.heap.size) → (∃ g c, v' = .slice (some ⟨g, 0, none⟩) (n + 1) c) → K (a.put o.dst v') w') :
    if Region.wanted o (yielded ops a.tmps) = true then Oper.wp Try.prog o a w K Q else E := by
  have hw : Region.wanted o (yielded ops a.tmps) = true := by simp [Region.wanted, hgd]
  rw [if_pos hw]
  obtain ⟨v', w', hr, h2, h3, h4, h5⟩ := acc_run w o.type B v n xs hown b p u hb hn hB
  unfold Oper.wp execOp
  simp only [ho, resolve, invoke, builtin, Sem.run_bind, Sem.run_pure, Result.andThen_ok, List.map_toArray, List.map_cons, List.map_nil, hs, hx, hr]
  exact h v' w' h2 h3 h4 h5

/-- The machine in a world: what is told (block ob), the registers (rb), the reads and the writes (vr, vw), the heap (hb). -/
structure MAt (w : World) (B ob rb hb hc : Nat) (vr vw : Value) (s : PS) : Prop where
  ho : w.heap[ob]? = some (.cells #[.int .i64 s.e, .slice (some ⟨rb, 0, none⟩) s.regs.length s.regs.length, vr, vw] 46 (0, 0))
  hr : w.heap[rb]? = some (.cells (ints s.regs) 3 (0, 0))
  hrs : w.ownsRow B 54 2 vr (s.rs.length / 2) (s.rs.map (Value.int .i64))
  hws : w.ownsRow B 54 2 vw (s.ws.length / 2) (s.ws.map (Value.int .i64))
  hh : w.ownsRow B 3 1 (.slice (some ⟨hb, 0, none⟩) s.heap.length hc) s.heap.length (s.heap.map (Value.int .i64))
  dv : ∀ g, vr.ownBlock = some g → vw.ownBlock ≠ some g
  dr : rb ≠ hb
  b1 : B ≤ ob
  b2 : B ≤ rb
  b3 : B ≤ hb
theorem row_block {w : World} {B : Nat} {T : TypeId} {k n g : Nat} {v : Value} {xs : List Value} (h : w.ownsRow B T k v n xs) (hg : v.ownBlock = some g) : B ≤ g ∧ ∃ cur, w.heap[g]? = some (.cells cur T (0, 0)) := by
  rcases h.2 with ⟨rfl, _⟩ | ⟨g', cap, cur, rfl, hb, hgg, _⟩
  · cases hg
  · cases hg; exact ⟨hb, cur, hgg⟩
/-- Nothing of the machine turns where only other blocks do. -/
theorem MAt.frame {w w' : World} {B ob rb hb hc : Nat} {vr vw : Value} {s : PS} {S : Nat → Prop} (h : MAt w B ob rb hb hc vr vw s) (hf : Fr S w w') (hs : ∀ k, S k → k < B ∨ w.heap.size ≤ k) : MAt w' B ob rb hb hc vr vw s := by
  have no : ∀ k, B ≤ k → k < w.heap.size → ¬ S k := fun k h1 h2 x => by have := hs k x; omega
  have row : ∀ {T : TypeId} {k n : Nat} {v : Value} {xs : List Value}, w.ownsRow B T k v n xs → w'.ownsRow B T k v n xs := fun hr => ownsRow_frame hr hf (fun g hg => by
    obtain ⟨h1, cur, h2⟩ := row_block hr hg
    exact no g h1 (blk_lt h2))
  exact ⟨hf.heap h.ho (no _ h.b1 (blk_lt h.ho)), hf.heap h.hr (no _ h.b2 (blk_lt h.hr)), row h.hrs, row h.hws, row h.hh, h.dv, h.dr, h.b1, h.b2, h.b3⟩
theorem MAt.flat {w : World} {B ob rb hb hc : Nat} {vr vw : Value} {s : PS} (h : MAt w B ob rb hb hc vr vw s) : Flat w (fun k => k = rb) (some ⟨rb, 0, none⟩) s.regs.length s.regs :=
  ⟨rfl, fun _ => ⟨_, rfl, rfl, fun i hi => by
    have h1 : (Addr.mk rb 0 none).add i = ⟨rb, i, none⟩ := by unfold Addr.add; split <;> simp_all
    rw [h1, blk_cell h.hr, ints_get _ _ hi]⟩⟩
theorem MAt.heapCell {w : World} {B ob rb hb hc : Nat} {vr vw : Value} {s : PS} (h : MAt w B ob rb hb hc vr vw s) (i : Nat) (hi : i < s.heap.length) : w.cell? ⟨hb, i, none⟩ = some (.int .i64 (s.heap.getD i 0)) := by
  have := h.hh.cellAt i (by omega)
  rw [this, List.getElem?_map, List.getElem?_eq_getElem hi, List.getD_eq_getElem?_getD, List.getElem?_eq_getElem hi]; rfl
theorem MAt.regCell {w : World} {B ob rb hb hc : Nat} {vr vw : Value} {s : PS} (h : MAt w B ob rb hb hc vr vw s) (i : Nat) (hi : i < s.regs.length) : w.cell? ⟨rb, i, none⟩ = some (.int .i64 (s.regs.getD i 0)) := by
  rw [blk_cell h.hr, ints_get _ _ hi]
end Go.Proofs.Ytkaokhpaabfhmaa
