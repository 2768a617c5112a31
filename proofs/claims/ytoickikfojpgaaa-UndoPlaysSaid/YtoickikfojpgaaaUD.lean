/- A log in a world; New, Push, Pop, Clear, Len, Room. -/
import Derived.Test.YtoickikfojpgaaaUC
import Derived.Laws.AppendOwn
import Derived.Laws.Append
namespace Go.Proofs.Ytoickikfojpgaaa
open Go.RowKit

theorem acc_run (w : World) (ty : TypeId) (B : Nat) (v : Value) (n : Nat) (xs : List Value) (hown : w.ownsRow B 34 2 v n xs) (b : Nat) (a u : Int) (hb : w.heap[b]? = some (.cells #[.int .i64 a, .int .i64 u] 34 (0, 0)))
    (hn : n ≤ 100000) (hB : B ≤ w.heap.size) :
    ∃ v' w', (Builtin.append_ #[31, 31] ty #[v, .slice (some ⟨b, 0, none⟩) 1 1]).run Try.prog w = .ok v' w' ∧ w'.ownsRow B 34 2 v' (n + 1) (xs ++ [.int .i64 a, .int .i64 u]) ∧ Fr (fun k => v.ownBlock = some k) w w' ∧
      (v'.ownBlock = v.ownBlock ∨ v'.ownBlock = some w.heap.size) ∧ ∃ g c, v' = .slice (some ⟨g, 0, none⟩) (n + 1) c := by
  obtain ⟨i0, hi, hz0, hz1, hz2⟩ := info_parts infoAcc
  obtain ⟨v', w', hr, h2, hg, _⟩ := run_append_own (P := Try.prog) w B 31 ty 34 i0 _ 2 16 Try.underlying31 hi hz0 hz1 hz2 rfl (by decide) v n xs hown ⟨b, 0, none⟩ 1 1 [.int .i64 a, .int .i64 u] rfl (acc_news hb)
    (by intro z hz; simp at hz; rcases hz with rfl | rfl <;> rfl) (by unfold maxLen; omega) (by omega) hB
  refine ⟨v', w', hr, h2, ⟨hg.os, hg.tape, hg.output, hg.size, fun k hk hs => hg.block k hk (fun e => hs e.symm)⟩, ?_, ?_⟩
  · rcases hown.2 with ⟨rfl, rfl⟩ | ⟨g, cap, cur, rfl, hbg, hgg, hnc, hcm, hcs, htake⟩
    · have h3 := run_append_nil (P := Try.prog) w 31 ty 34 i0 _ Try.underlying31 hi hz0 ⟨b, 0, none⟩ 1 1 [.int .i64 a, .int .i64 u] (by rw [hz1]; rfl) (acc_news hb) (by omega) (by omega) (by rw [hz2]; omega)
      rw [h3] at hr
      cases hr
      exact .inr rfl
    · by_cases hroom : n + 1 ≤ cap
      · have h3 := run_append_room (P := Try.prog) w 31 ty 34 i0 Try.underlying31 hi g n cap cur hgg ⟨b, 0, none⟩ 1 1 [.int .i64 a, .int .i64 u] (by rw [hz1]; rfl) (acc_news hb)
          (by intro z hz; simp at hz; rcases hz with rfl | rfl <;> rfl) hroom (by rw [hz1, hcs]; show n * 2 + 2 ≤ cap * 2; omega)
        rw [h3] at hr
        cases hr
        exact .inl rfl
      · have h3 := run_append_grow (P := Try.prog) w 31 ty 34 i0 _ Try.underlying31 hi hz0 ⟨g, 0, none⟩ n cap xs (by rw [hz1]; exact hown.1) (hown.cells (g := g) rfl) ⟨b, 0, none⟩ 1 1 [.int .i64 a, .int .i64 u] (by rw [hz1]; rfl) (acc_news hb) (by omega) (by omega)
          (growslice_fits (by omega) (by rw [hz2]; omega))
        rw [h3] at hr
        cases hr
        exact .inr rfl
  · rcases h2.2 with ⟨_, h0⟩ | ⟨g, cap, cur, rfl, _⟩
    · omega
    · exact ⟨g, cap, rfl⟩
theorem append_acc {ops : Array Oper} {rest : List Oper} {o : Oper} {a : Act} {Q : Exit → Act → World → Prop} (w : World) (hgd : o.guard = none) (s x : Operand)
    (ho : o.op = .call { callee := .builtin .append, args := #[s, x], argTypes := #[31, 31] }) (B : Nat)
    (v : Value) (n : Nat) (xs : List Value) (hs : a.eval s = v) (hown : w.ownsRow B 34 2 v n xs) (b : Nat) (p u : Int) (hx : a.eval x = .slice (some ⟨b, 0, none⟩) 1 1) (hb : w.heap[b]? = some (.cells #[.int .i64 p, .int .i64 u] 34 (0, 0)))
    (hn : n ≤ 100000) (hB : B ≤ w.heap.size)
    (h : ∀ v' w', w'.ownsRow B 34 2 v' (n + 1) (xs ++ [.int .i64 p, .int .i64 u]) → Fr (fun k => v.ownBlock = some k) w w' → (v'.ownBlock = v.ownBlock ∨ v'.ownBlock = some w.heap.size) → (∃ g c, v' = .slice (some ⟨g, 0, none⟩) (n + 1) c) → wpList Try.prog ops Q rest (a.put o.dst v') w') : wpList Try.prog ops Q (o :: rest) a w :=
  wpList_plain hgd fun _ hK => by
    obtain ⟨v', w', hr, h2, h3, h4, h5⟩ := acc_run w o.type B v n xs hown b p u hb hn hB
    unfold Oper.wp execOp
    simp only [ho, resolve, invoke, builtin, Sem.run_bind, Sem.run_pure, Result.andThen_ok, List.map_toArray, List.map_cons, List.map_nil, hs, hx, hr]
    exact hK _ _ (h v' w' h2 h3 h4 h5)

/-- A log. -/
structure LogAt (w : World) (lb : Nat) (v : Value) (xs : List Acc) (most : Int) : Prop where
  blk : w.heap[lb]? = some (.cells #[v, .int .i64 most] 51 (0, 0))
  row : w.ownsRow 0 34 2 v xs.length ((accInts xs).map (Value.int .i64))
  m1 : 1 ≤ most
  m2 : most ≤ 1000
  le : (xs.length : Int) ≤ most
theorem row_own {w : World} {B : Nat} {T : TypeId} {k n g : Nat} {v : Value} {xs : List Value} (h : w.ownsRow B T k v n xs) (hg : v.ownBlock = some g) : ∃ cur, w.heap[g]? = some (.cells cur T (0, 0)) := by
  rcases h.2 with ⟨rfl, _⟩ | ⟨g', cap, cur, rfl, _, hh, _⟩
  · cases hg
  · cases hg; exact ⟨cur, hh⟩
theorem LogAt.frame {w w' : World} {S : Nat → Prop} {lb : Nat} {v : Value} {xs : List Acc} {most : Int} (h : LogAt w lb v xs most) (hf : Fr S w w') (h1 : ¬ S lb) (h2 : ∀ g, v.ownBlock = some g → ¬ S g) : LogAt w' lb v xs most :=
  ⟨hf.heap h.blk h1, ownsRow_frame h.row hf h2, h.m1, h.m2, h.le⟩
theorem LogAt.frameF {w w' : World} {lb : Nat} {v : Value} {xs : List Acc} {most : Int} (h : LogAt w lb v xs most) (hf : Fr (fun _ => False) w w') : LogAt w' lb v xs most := h.frame hf (fun x => x) (fun _ _ x => x)
/-- The log's blocks. -/
def LB (lb : Nat) (v : Value) : Nat → Prop := fun k => k = lb ∨ v.ownBlock = some k
theorem LogAt.ne {w : World} {lb : Nat} {v : Value} {xs : List Acc} {most : Int} (h : LogAt w lb v xs most) : v.ownBlock ≠ some lb := fun e => by
  obtain ⟨cur, hc⟩ := row_own h.row e
  rw [h.blk] at hc
  injection hc with hc
  injection hc with _ hc
  revert hc; decide
theorem LogAt.len {w : World} {lb : Nat} {v : Value} {xs : List Acc} {most : Int} (h : LogAt w lb v xs most) : xs.length ≤ 1000 := by have := h.m2; have := h.le; omega
theorem LogAt.slice {w : World} {lb : Nat} {v : Value} {xs : List Acc} {most : Int} (h : LogAt w lb v xs most) : ∃ A cap, v = .slice A xs.length cap ∧ Flat w (fun k => k < w.heap.size) A (xs.length * 2) (accInts xs) := by
  obtain ⟨A, cap, rfl, hf⟩ := Flat.ofOwn h.row
  exact ⟨A, cap, rfl, hf.mono (fun k hk _ => hk)⟩

def NewR (most : Int) (w : World) (e : Ending) (w' : World) : Prop :=
  ((most < 1 ∨ 1000 < most) ∧ e = .returned (.tuple #[.pointer none, .int .i64 1]) ∧ w' = w) ∨ ((1 ≤ most ∧ most ≤ 1000) ∧ e = .returned (.tuple #[.pointer (some ⟨w.heap.size, 0, none⟩), .int .i64 0]) ∧ LogAt w' w.heap.size (.slice none 0 0) [] most ∧ Fr (fun _ => False) w w')
theorem new_calls (most : Int) (w : World) : Calls Try.prog 8 #[.int .i64 most] w fun e w' => NewR most w e w' := by
  by_cases h1 : most < 1
  · go_enter Try.func8, Try.ntmps8
    go_wp2
    go_ret2
    exact .inl ⟨.inl h1, rfl, rfl⟩
  · by_cases h2 : most ≤ 1000
    · go_enter Try.func8, Try.ntmps8
      go_wp2
      go_ret2
      exact .inr ⟨⟨by omega, h2⟩, rfl, ⟨heap_alloc_new w _, World.ownsRow_nil _ _ _ _, by omega, h2, by show (0 : Int) ≤ most; omega⟩, (Fr.refl _ _).alloc _⟩
    · go_enter Try.func8, Try.ntmps8
      go_wp2
      go_ret2
      exact .inl ⟨.inr (by omega), rfl, rfl⟩

theorem len_calls (lb : Nat) (v : Value) (xs : List Acc) (most : Int) (w : World) (h : LogAt w lb v xs most) : Calls Try.prog 11 #[.pointer (some ⟨lb, 0, none⟩)] w fun e w' => e = .returned (.int .i64 xs.length) ∧ w' = w := by
  obtain ⟨A, cap, rfl, _⟩ := h.slice
  have c0 := blk_cell h.blk 0
  simp only [List.getElem?_toArray, List.getElem?_cons_zero] at c0
  go_enter Try.func11, Try.ntmps11
  go_wp2
  go_ret
  exact ⟨rfl, rfl⟩

set_option maxRecDepth 100000 in
theorem room_calls (lb : Nat) (v : Value) (xs : List Acc) (most : Int) (w : World) (h : LogAt w lb v xs most) : Calls Try.prog 17 #[.pointer (some ⟨lb, 0, none⟩)] w fun e w' => e = .returned (.int .i64 (most - xs.length)) ∧ Fr (fun _ => False) w w' := by
  obtain ⟨A, cap, rfl, _⟩ := h.slice
  have c0 := blk_cell h.blk 0
  have c1 := blk_cell h.blk 1
  simp only [List.getElem?_toArray, List.getElem?_cons_zero, List.getElem?_cons_succ] at c0 c1
  have h1 := h.m1
  have h2 := h.m2
  have h3 := h.le
  go_enter Try.func17, Try.ntmps17
  go_wp2
  go_quiet (fail)
  go_wp2
  go_ret
  exact ⟨by go_num, by first | exact (Fr.refl _ _).drewN _ | exact (Fr.refl _ _).drew⟩

theorem clear_calls (lb : Nat) (v : Value) (xs : List Acc) (most : Int) (w : World) (h : LogAt w lb v xs most) : Calls Try.prog 16 #[.pointer (some ⟨lb, 0, none⟩)] w fun e w' => e = .returned (.tuple #[]) ∧ LogAt w' lb (.slice none 0 0) [] most ∧ Fr (fun k => k = lb) w w' := by
  have c0 := blk_cell h.blk 0
  have f0 := blk_free h.blk 0
  simp only [List.getElem?_toArray, List.getElem?_cons_zero] at c0
  go_enter Try.func16, Try.ntmps16
  go_wp2
  go_end0
  exact ⟨rfl, ⟨by rw [blk_set h.blk]; rfl, World.ownsRow_nil _ _ _ _, h.m1, h.m2, by have := h.m1; show (0 : Int) ≤ most; omega⟩, (Fr.refl (fun k => k = lb) _).setCell (.inl rfl) _⟩
end Go.Proofs.Ytoickikfojpgaaa
