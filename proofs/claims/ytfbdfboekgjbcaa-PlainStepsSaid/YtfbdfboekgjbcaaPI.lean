/- ltklaw7.PlainSteps answers true. -/
import Derived.Test.YtfbdfboekgjbcaaPH
import Derived.Test.YtfbdfboekgjbcaaPF
namespace Go.Proofs.Ytfbdfboekgjbcaa
open Go.RowKit

theorem infoIns : (Try.prog.info? 41).map (fun i => (i.zero, i.size, i.bytes)) = some (some (.agg #[.int .i64 0, .int .i64 0, .int .i64 0, .int .i64 0, .slice none 0 0]), 5, 56) := by kernel_rfl
theorem arr_news {w : World} {b : Nat} {arr : Array Value} {T : TypeId} (h : w.heap[b]? = some (.cells arr T (0, 0))) : ∀ j u, arr.toList[j]? = some u → w.cell? ((⟨b, 0, none⟩ : Addr).add j) = some u := by
  intro j u hj
  have h1 : (Addr.mk b 0 none).add j = ⟨b, j, none⟩ := by unfold Addr.add; split <;> simp_all
  rw [h1, blk_cell h, ← hj]
  simp
theorem ins_run (w : World) (ty : TypeId) (B : Nat) (v : Value) (n : Nat) (xs : List Value) (hown : w.ownsRow B 41 5 v n xs) (b m : Nat) (arr : Array Value) (hb : w.heap[b]? = some (.cells arr 41 (0, 0)))
    (hl : arr.toList.length = m * 5) (h1 : ∀ u ∈ arr.toList, u.oneCell' = true) (hm : 0 < m) (hn : n + m ≤ 1000) (hB : B ≤ w.heap.size) :
    ∃ v' w', (Builtin.append_ #[25, 25] ty #[v, .slice (some ⟨b, 0, none⟩) m m]).run Try.prog w = .ok v' w' ∧ w'.ownsRow B 41 5 v' (n + m) (xs ++ arr.toList) ∧ Fr (fun k => v.ownBlock = some k) w w' ∧
      (v'.ownBlock = v.ownBlock ∨ v'.ownBlock = some w.heap.size) ∧ ∃ g c, v' = .slice (some ⟨g, 0, none⟩) (n + m) c := by
  obtain ⟨i0, hi, hz0, hz1, hz2⟩ := info_parts infoIns
  obtain ⟨v', w', hr, h2, hg, _⟩ := run_append_own (P := Try.prog) w B 25 ty 41 i0 _ 5 56 Try.underlying25 hi hz0 hz1 hz2 rfl (by decide) v n xs hown ⟨b, 0, none⟩ m m arr.toList hl (arr_news hb) h1 (by unfold maxLen; omega) (by omega) hB
  refine ⟨v', w', hr, h2, ⟨hg.os, hg.tape, hg.output, hg.size, fun k hk hs => hg.block k hk (fun e => hs e.symm)⟩, ?_, ?_⟩
  · rcases hown.2 with ⟨rfl, rfl⟩ | ⟨g, cap, cur, rfl, hbg, hgg, hnc, hcm, hcs, htake⟩
    · have h3 := run_append_nil (P := Try.prog) w 25 ty 41 i0 _ Try.underlying25 hi hz0 ⟨b, 0, none⟩ m m arr.toList (by rw [hz1]; exact hl) (arr_news hb) (by omega) (by omega) (by rw [hz2]; omega)
      rw [h3] at hr
      cases hr
      exact .inr rfl
    · by_cases hroom : n + m ≤ cap
      · have h3 := run_append_room (P := Try.prog) w 25 ty 41 i0 Try.underlying25 hi g n cap cur hgg ⟨b, 0, none⟩ m m arr.toList (by rw [hz1]; exact hl) (arr_news hb) h1 hroom (by rw [hz1, hcs, hl]; omega)
        rw [h3] at hr
        cases hr
        exact .inl rfl
      · have h3 := run_append_grow (P := Try.prog) w 25 ty 41 i0 _ Try.underlying25 hi hz0 ⟨g, 0, none⟩ n cap xs (by rw [hz1]; exact hown.1) (hown.cells (g := g) rfl) ⟨b, 0, none⟩ m m arr.toList (by rw [hz1]; exact hl) (arr_news hb) (by omega) (by omega)
          (growslice_fits (by omega) (by rw [hz2]; omega))
        rw [h3] at hr
        cases hr
        exact .inr rfl
  · rcases h2.2 with ⟨_, h0⟩ | ⟨g, cap, cur, rfl, _⟩
    · omega
    · exact ⟨g, cap, rfl⟩
theorem append_ins {ops : Array Oper} {rest : List Oper} {o : Oper} {a : Act} {Q : Exit → Act → World → Prop} (w : World) (hgd : o.guard = none) (s x : Operand)
    (ho : o.op = .call { callee := .builtin .append, args := #[s, x], argTypes := #[25, 25] }) (B : Nat)
    (v : Value) (n : Nat) (xs : List Value) (hs : a.eval s = v) (hown : w.ownsRow B 41 5 v n xs) (b m : Nat) (arr : Array Value) (hx : a.eval x = .slice (some ⟨b, 0, none⟩) m m) (hb : w.heap[b]? = some (.cells arr 41 (0, 0)))
    (hl : arr.toList.length = m * 5) (h1 : ∀ u ∈ arr.toList, u.oneCell' = true) (hm : 0 < m) (hn : n + m ≤ 1000) (hB : B ≤ w.heap.size)
    (h : ∀ v' w', w'.ownsRow B 41 5 v' (n + m) (xs ++ arr.toList) → Fr (fun k => v.ownBlock = some k) w w' → (v'.ownBlock = v.ownBlock ∨ v'.ownBlock = some w.heap.size) → (∃ g c, v' = .slice (some ⟨g, 0, none⟩) (n + m) c) → wpList Try.prog ops Q rest (a.put o.dst v') w') : wpList Try.prog ops Q (o :: rest) a w :=
  wpList_plain hgd fun _ hK => by
    obtain ⟨v', w', hr, h2, h3, h4, h5⟩ := ins_run w o.type B v n xs hown b m arr hb hl h1 hm hn hB
    unfold Oper.wp execOp
    simp only [ho, resolve, invoke, builtin, Sem.run_bind, Sem.run_pure, Result.andThen_ok, List.map_toArray, List.map_cons, List.map_nil, hs, hx, hr]
    exact hK _ _ (h v' w' h2 h3 h4 h5)
/-- The rows of a program whose slice is v. -/
def RowsOf (w : World) (bs : Nat) (v : Value) (vs : List Value) (p : List Ins) : Prop := ∀ j, j < p.length → InsRow w (fun k => bs ≤ k ∧ v.ownBlock ≠ some k) vs j (p.getD j default)
theorem RowsOf.nil (w : World) (bs : Nat) (v : Value) (vs : List Value) : RowsOf w bs v vs [] := fun _ h => absurd h (Nat.not_lt_zero _)
theorem insAt_l {xs ys : List Value} {i : Nat} {x : Ins} {v : Value} (h : InsAt xs i x v) (hi : i * 5 + 5 ≤ xs.length) : InsAt (xs ++ ys) i x v := fun j hj => by
  rw [List.getElem?_append_left (by omega)]; exact h j hj
theorem insAt_r {xs ys : List Value} {i n : Nat} {x : Ins} {v : Value} (h : InsAt ys i x v) (hl : xs.length = n * 5) : InsAt (xs ++ ys) (n + i) x v := fun j hj => by
  rw [List.getElem?_append_right (by omega), show (n + i) * 5 + j - xs.length = i * 5 + j by omega]; exact h j hj
theorem RowsOf.more {wr w2 w' : World} {bs : Nat} {p q : List Ins} {v v' : Value} {vs news : List Value} (hvs : vs.length = p.length * 5) (hr : RowsOf wr bs v vs p)
    (hn : ∀ r, r < q.length → InsRow w2 (fun k => bs ≤ k ∧ v.ownBlock ≠ some k ∧ k < w2.heap.size) news r (q.getD r default)) (h2 : Fr (fun _ => False) wr w2) (hf : Fr (fun k => v.ownBlock = some k) w2 w') (hc : v'.ownBlock = v.ownBlock ∨ v'.ownBlock = some w2.heap.size) :
    RowsOf w' bs v' (vs ++ news) (p ++ q) := by
  have hsz := h2.size
  have hup : ∀ k, k < w'.heap.size → (bs ≤ k ∧ v.ownBlock ≠ some k ∧ k < w2.heap.size) → bs ≤ k ∧ v'.ownBlock ≠ some k := by
    rintro k _ ⟨h1, h2, h3⟩
    refine ⟨h1, fun e => ?_⟩
    rcases hc with h | h
    · rw [h] at e; exact h2 e
    · rw [h] at e; cases e; omega
  intro j hj
  by_cases h : j < p.length
  · rw [getD_app_l h]
    have h0 := ((hr j h).mono (G := fun k => bs ≤ k ∧ v.ownBlock ≠ some k ∧ k < w2.heap.size) (fun k hk hx => ⟨hx.1, hx.2, by omega⟩)).frame h2 (fun _ _ x => x.elim)
    obtain ⟨A, n, c, g1, g2, g3⟩ := (h0.frame hf (fun k x y => absurd y x.2.1)).mono hup
    exact ⟨A, n, c, insAt_l g1 (by omega), g2, g3⟩
  · rw [getD_app_r (by omega)]
    rw [List.length_append] at hj
    obtain ⟨A, n, c, g1, g2, g3⟩ := ((hn (j - p.length) (by omega)).frame hf (fun k x y => absurd y x.2.1)).mono hup
    refine ⟨A, n, c, ?_, g2, g3⟩
    have := insAt_r (xs := vs) g1 hvs
    rw [show p.length + (j - p.length) = j by omega] at this
    exact this
theorem prog_own {w : World} {bs N : Nat} {v : Value} {vs : List Value} {p : List Ins} (ho : w.ownsRow bs 41 5 v N vs) (hr : RowsOf w bs v vs p) (hp : p.length = N) (hi : ∀ x ∈ p, I64 x.b) :
    ∃ A cap, v = .slice A N cap ∧ ProgAt w (fun k => bs ≤ k) A N cap p := by
  have hrow : ∀ i, i < N → InsRow w (fun k => bs ≤ k) vs i (p.getD i default) := fun i h => (hr i (by omega)).mono (fun k _ x => x.1)
  rcases id ho.2 with ⟨rfl, rfl⟩ | ⟨g, cap, cur, rfl, hb, hg, hnc, _⟩
  · exact ⟨none, 0, rfl, ⟨hp, Nat.le_refl _, ⟨vs, fun h => absurd h (Nat.lt_irrefl _), hrow⟩, hi⟩⟩
  · exact ⟨_, cap, rfl, ⟨hp, hnc, ⟨vs, fun _ => ⟨_, rfl, hb, ho.cells (g := g) rfl⟩, hrow⟩, hi⟩⟩
theorem own_lt' {w : World} {B : Nat} {T : TypeId} {k n : Nat} {v : Value} {xs : List Value} (h : w.ownsRow B T k v n xs) {g : Nat} (hg : v.ownBlock = some g) : B ≤ g ∧ g < w.heap.size := by
  rcases h.2 with ⟨rfl, _⟩ | ⟨g', cap, cur, rfl, hb, hg', _⟩
  · cases hg
  · cases hg
    exact ⟨hb, blk_lt hg'⟩
/-- Four rows more. -/
theorem rows_round {wr w' : World} {bs i t : Nat} {v v' : Value} {vs : List Value} (ho : wr.ownsRow bs 41 5 v (4 * i) vs) (hr : RowsOf wr bs v vs (stepsP t i)) (hb : bs ≤ wr.heap.size) {b : Nat} (hbe : wr.heap.size = b)
    (hf : Fr (fun k => v.ownBlock = some k) ((wr.alloc (.cells #[.int .i64 0, .int .i64 1] 3)).alloc (.cells #[.int .i64 1, .int .i64 0, .int .i64 t, .int .i64 (-1), .slice none 0 0, .int .i64 3, .int .i64 1, .int .i64 1, .int .i64 0, .slice none 0 0, .int .i64 4, .int .i64 0, .int .i64 0, .int .i64 0, .slice (some ⟨b, 0, none⟩) 2 2, .int .i64 2, .int .i64 0, .int .i64 t, .int .i64 (-1), .slice none 0 0] 41)) w')
    (hc : v'.ownBlock = v.ownBlock ∨ v'.ownBlock = some (b + 1 + 1)) :
    RowsOf w' bs v' (vs ++ [.int .i64 1, .int .i64 0, .int .i64 t, .int .i64 (-1), .slice none 0 0, .int .i64 3, .int .i64 1, .int .i64 1, .int .i64 0, .slice none 0 0, .int .i64 4, .int .i64 0, .int .i64 0, .int .i64 0, .slice (some ⟨b, 0, none⟩) 2 2, .int .i64 2, .int .i64 0, .int .i64 t, .int .i64 (-1), .slice none 0 0]) (stepsP t (i + 1)) := by
  subst hbe
  refine RowsOf.more (by rw [stepsP_len]; exact ho.1) hr (fun r hlt => ?_) (((Fr.refl (fun _ => False) _).alloc _).alloc _) hf (by simpa using hc)
  have hr4 : r < 4 := hlt
  have : r = 0 ∨ r = 1 ∨ r = 3 ∨ r = 2 := by omega
  rcases this with rfl | rfl | rfl | rfl
  iterate 3 exact row_nil _ _ _ _ _ (insAt rfl rfl rfl rfl rfl) rfl
  refine ⟨_, 2, 2, insAt rfl rfl rfl rfl rfl, Nat.le_refl _, ?_⟩
  refine ((flat_new wr [0, 1] (arr := #[.int .i64 0, .int .i64 1]) 3 rfl (n := 2) rfl (b := wr.heap.size) rfl).frame ((Fr.refl (fun _ => False) _).alloc _) (fun _ _ x => x.elim)).mono ?_
  rintro k _ rfl
  refine ⟨hb, fun e => ?_, by simp; omega⟩
  have := own_lt' ho e
  omega
/-- The last row. -/
theorem rows_last {wr w' : World} {bs n t : Nat} {en k6 : Int} {v v' : Value} {vs : List Value} (ho : wr.ownsRow bs 41 5 v (4 * n) vs) (hr : RowsOf wr bs v vs (stepsP t n)) (he : en ≠ 0) (hk : k6 = 5 + en) {b : Nat} (hbe : wr.heap.size = b)
    (hf : Fr (fun k => v.ownBlock = some k) (wr.alloc (.cells #[.int .i64 k6, .int .i64 0, .int .i64 0, .int .i64 0, .slice none 0 0] 41)) w')
    (hc : v'.ownBlock = v.ownBlock ∨ v'.ownBlock = some (b + 1)) :
    RowsOf w' bs v' (vs ++ [.int .i64 k6, .int .i64 0, .int .i64 0, .int .i64 0, .slice none 0 0]) (progS t n en) := by
  subst hk hbe
  unfold progS endP
  rw [if_neg he]
  refine RowsOf.more (by rw [stepsP_len]; exact ho.1) hr (fun r hlt => ?_) ((Fr.refl (fun _ => False) _).alloc _) hf (by simpa using hc)
  obtain rfl : r = 0 := by simpa using hlt
  exact row_nil _ _ _ _ _ (insAt rfl rfl rfl rfl rfl) rfl
end Go.Proofs.Ytfbdfboekgjbcaa
