/- Events without lists, as a call builds them; one append of them. -/
import Derived.Test.YtkaokhpaabfhmaaJ1
import Derived.Deep.RegionLaw
namespace Go.Proofs.Ytkaokhpaabfhmaa
open Go.RowKit

abbrev T3 := Int × Int × Int
def mkE (t : T3) : Ev := ⟨t.1, t.2.1, 0, t.2.2, 0, 0, 0, [], [], []⟩
def cE (t : T3) : List Value := [.int .i64 t.1, .int .i64 t.2.1, .int .i64 0, .int .i64 t.2.2, .int .i64 0, .int .i64 0, .int .i64 0, .slice none 0 0, .slice none 0 0, .slice none 0 0]
def cN : List T3 → List Value
  | [] => []
  | t :: ts => cE t ++ cN ts
theorem cN_len : ∀ ts : List T3, (cN ts).length = ts.length * 10
  | [] => rfl
  | t :: ts => by unfold cN; rw [List.length_append, cN_len ts, List.length_cons]; show 10 + _ = _; omega
theorem cN_append : ∀ a b : List T3, cN (a ++ b) = cN a ++ cN b
  | [], b => rfl
  | t :: ts, b => by show cE t ++ cN (ts ++ b) = (cE t ++ cN ts) ++ cN b; rw [cN_append ts b, List.append_assoc]
theorem cN_get : ∀ (ts : List T3) (i j : Nat), i < ts.length → j < 10 → (cN ts)[i * 10 + j]? = (cE (ts.getD i default))[j]?
  | t :: ts, 0, j, _, hj => by
    unfold cN
    rw [List.getElem?_append_left (show 0 * 10 + j < (cE t).length from by show 0 * 10 + j < 10; omega), show 0 * 10 + j = j by omega]; rfl
  | t :: ts, i + 1, j, hi, hj => by
    unfold cN
    rw [List.getElem?_append_right (show (cE t).length ≤ (i + 1) * 10 + j from by show 10 ≤ (i + 1) * 10 + j; omega), show (i + 1) * 10 + j - (cE t).length = i * 10 + j from by show (i + 1) * 10 + j - 10 = _; omega, cN_get ts i j (by simp at hi; omega) hj]
    rfl
theorem cN_one : ∀ (ts : List T3), ∀ u ∈ cN ts, u.oneCell' = true
  | [], u, h => by cases h
  | t :: ts, u, h => by
    unfold cN at h
    rcases List.mem_append.1 h with h | h
    · unfold cE at h
      simp only [List.mem_cons, List.not_mem_nil, or_false] at h
      rcases h with rfl | rfl | rfl | rfl | rfl | rfl | rfl | rfl | rfl | rfl <;> rfl
    · exact cN_one ts u h
def EvN (B : Nat) (w : World) (v : Value) (ts : List T3) : Prop := w.ownsRow B 50 10 v ts.length (cN ts)
theorem EvN.frame {B : Nat} {w w' : World} {v : Value} {ts : List T3} {S : Nat → Prop} (h : EvN B w v ts) (hf : Fr S w w') (hs : ∀ g, v.ownBlock = some g → ¬ S g) : EvN B w' v ts := ownsRow_frame h hf hs
theorem EvN.frameF {B : Nat} {w w' : World} {v : Value} {ts : List T3} (h : EvN B w v ts) (hf : Fr (fun _ => False) w w') : EvN B w' v ts := ownsRow_frame h hf (fun _ _ x => x)
theorem EvN.base {B C : Nat} {w : World} {v : Value} {ts : List T3} (h : EvN B w v ts) (hc : C ≤ B) : EvN C w v ts := ownsRow_base h hc
theorem EvN.nil (B : Nat) (w : World) : EvN B w (.slice none 0 0) [] := World.ownsRow_nil _ _ _ _
theorem EvN.shape {B : Nat} {w : World} {v : Value} {ts : List T3} (h : EvN B w v ts) : ∃ A c, v = .slice A ts.length c ∧ ts.length ≤ c ∧ (A = none → c = 0) ∧ (0 < ts.length → ∃ ad, A = some ad ∧ B ≤ ad.block ∧ ∀ j u, (cN ts)[j]? = some u → w.cell? (ad.add j) = some u) := by
  rcases id h.2 with ⟨rfl, h0⟩ | ⟨g, cap, cur, rfl, hb, hg, hn, hm, hs, ht⟩
  · exact ⟨none, 0, by rw [h0], by omega, fun _ => rfl, fun h => by omega⟩
  · refine ⟨_, cap, rfl, hn, ?_, fun _ => ?_⟩
    · intro e; cases e
    · exact ⟨_, rfl, hb, World.ownsRow.cells h (g := g) rfl⟩
theorem EvN.at_ {B : Nat} {w : World} {v : Value} {ts : List T3} (h : EvN B w v ts) : EvsAt w (fun _ => True) v (ts.map mkE) := by
  obtain ⟨A, c, rfl, hc, hA, hx⟩ := h.shape
  have hl : (ts.map mkE).length = ts.length := List.length_map ..
  refine ⟨A, c, cN ts, by rw [hl], by rw [hl]; exact hc, hA, by rw [hl, cN_len], fun h0 => ?_, fun i hi => ?_⟩
  · obtain ⟨ad, h1, _, h3⟩ := hx (by omega)
    exact ⟨ad, h1, trivial, h3⟩
  · rw [hl] at hi
    have he : (ts.map mkE).getD i default = mkE (ts.getD i default) := by
      rw [List.getD_eq_getElem?_getD, List.getElem?_map, List.getD_eq_getElem?_getD, List.getElem?_eq_getElem hi]; rfl
    rw [he]
    exact ⟨none, 0, 0, none, 0, 0, none, 0, 0, fun j hj => cN_get ts i j hi hj, ⟨Flat.nil _ _ _, Flat.nil _ _ _, Flat.nil _ _ _⟩⟩
theorem EvN.blk {B b : Nat} {w : World} {arr : Array Value} {ts : List T3} (h : w.heap[b]? = some (.cells arr 50 (0, 0))) (ha : arr.toList = cN ts) (hB : B ≤ b) (hl : ts.length ≤ 1000) : EvN B w (.slice (some ⟨b, 0, none⟩) ts.length ts.length) ts := by
  have hs : arr.size = ts.length * 10 := by rw [← Array.length_toList, ha, cN_len]
  refine ⟨by rw [cN_len], .inr ⟨b, ts.length, arr, rfl, hB, h, Nat.le_refl _, by unfold maxLen; omega, hs, ?_⟩⟩
  rw [ha, List.take_of_length_le (by rw [cN_len]; exact Nat.le_refl _)]
theorem evN_run (w : World) (ty : TypeId) (B : Nat) (v : Value) (ts : List T3) (h : EvN B w v ts) (A : Option Addr) (m c : Nat) (news : List T3) (Bs : Nat) (hs : EvN Bs w (.slice A m c) news) (hm : news.length = m) (hlen : ts.length + m ≤ 1000000) (hB : B ≤ w.heap.size) :
    ∃ v' w', (Builtin.append_ #[26, 26] ty #[v, .slice A m c]).run Try.prog w = .ok v' w' ∧ EvN B w' v' (ts ++ news) ∧ Fr (fun k => v.ownBlock = some k) w w' := by
  obtain ⟨A', c', e, hc, hA, hx⟩ := hs.shape
  cases e
  obtain ⟨v', w', hr, h2, h3⟩ := run_append_evs w ty B v ts.length (cN ts) h A news.length c (cN news) (cN_len news) hA hc (fun h0 => by obtain ⟨ad, g1, _, g3⟩ := hx h0; exact ⟨ad, g1, g3⟩) (cN_one news) hlen hB
  refine ⟨v', w', hr, ?_, h3⟩
  unfold EvN
  rw [List.length_append, cN_append]
  exact h2
theorem append_evN {ops : Array Oper} {rest : List Oper} {o : Oper} {a : Act} {Q : Exit → Act → World → Prop} (w : World) (hgd : o.guard = none) (s x : Operand)
    (ho : o.op = .call { callee := .builtin .append, args := #[s, x], argTypes := #[26, 26] }) (B : Nat)
    (v : Value) (ts : List T3) (hs : a.eval s = v) (hown : EvN B w v ts) (A : Option Addr) (m c : Nat) (news : List T3) (Bs : Nat) (hx : a.eval x = .slice A m c) (hsrc : EvN Bs w (.slice A m c) news) (hm : news.length = m) (hlen : ts.length + m ≤ 1000000) (hB : B ≤ w.heap.size)
    (h : ∀ v' w', EvN B w' v' (ts ++ news) → Fr (fun k => v.ownBlock = some k) w w' → wpList Try.prog ops Q rest (a.put o.dst v') w') : wpList Try.prog ops Q (o :: rest) a w :=
  wpList_plain hgd fun _ hK => by
    obtain ⟨v', w', hr, h2, h3⟩ := evN_run w o.type B v ts hown A m c news Bs hsrc hm hlen hB
    unfold Oper.wp execOp
    simp only [ho, resolve, invoke, builtin, Sem.run_bind, Sem.run_pure, Result.andThen_ok, List.map_toArray, List.map_cons, List.map_nil, hs, hx, hr]
    exact hK _ _ (h v' w' h2 h3)
theorem step_evN {ops : Array Oper} {o : Oper} {a : Act} {K : Act → World → Prop} {Q : Exit → Act → World → Prop} {E : Prop} (w : World) (hgd : o.guard = none) (s x : Operand)
    (ho : o.op = .call { callee := .builtin .append, args := #[s, x], argTypes := #[26, 26] }) (B : Nat)
    (v : Value) (ts : List T3) (hs : a.eval s = v) (hown : EvN B w v ts) (A : Option Addr) (m c : Nat) (news : List T3) (Bs : Nat) (hx : a.eval x = .slice A m c) (hsrc : EvN Bs w (.slice A m c) news) (hm : news.length = m) (hlen : ts.length + m ≤ 1000000) (hB : B ≤ w.heap.size)
    (h : ∀ v' w', EvN B w' v' (ts ++ news) → Fr (fun k => v.ownBlock = some k) w w' → K (a.put o.dst v') w') :
    if Region.wanted o (yielded ops a.tmps) = true then Oper.wp Try.prog o a w K Q else E := by
  have hw : Region.wanted o (yielded ops a.tmps) = true := by simp [Region.wanted, hgd]
  rw [if_pos hw]
  obtain ⟨v', w', hr, h2, h3⟩ := evN_run w o.type B v ts hown A m c news Bs hsrc hm hlen hB
  unfold Oper.wp execOp
  simp only [ho, resolve, invoke, builtin, Sem.run_bind, Sem.run_pure, Result.andThen_ok, List.map_toArray, List.map_cons, List.map_nil, hs, hx, hr]
  exact h v' w' h2 h3
theorem EvN.lt {B : Nat} {w : World} {v : Value} {ts : List T3} (h : EvN B w v ts) {g : Nat} (hg : v.ownBlock = some g) : B ≤ g ∧ g < w.heap.size := World.ownsRow.lt h g hg

/-! The law, in plain Lean. -/
theorem mkE_th (t : T3) : (mkE t).th = t.2.1 := rfl
def quietT (th : Int) (t : T3) : Prop := t.1 ≠ 2 ∧ (t.2.1 ≠ th ∨ t.1 = 5)
theorem back_const {es : List Ev} {th : Int} {m : Nat} (h0 : skipB es th m = false) : ∀ n, (∀ j, m < j → j < m + 1 + n → skipB es th j = true) → backK es th (m + 1 + n) = m
  | 0, _ => by
    show backK es th (m + 1) = m
    unfold backK
    rw [h0]; rfl
  | n + 1, h => by
    show backK es th (m + 1 + n + 1) = m
    unfold backK
    rw [h (m + 1 + n) (by omega) (by omega), if_pos rfl]
    exact back_const h0 n (fun j h1 h2 => h j h1 (by omega))
theorem getD_cons_l {b : T3} {M : List T3} {E : List T3} {j : Nat} (h : j < M.length) : ((b :: M ++ E).map mkE).getD (j + 1) default = mkE (M.getD j default) := by
  rw [List.getD_eq_getElem?_getD, List.getElem?_map, List.cons_append, List.getElem?_cons_succ, List.getElem?_append_left h, List.getD_eq_getElem?_getD, List.getElem?_eq_getElem h]; rfl
theorem getD_cons_r {b : T3} {M : List T3} {E : List T3} {j : Nat} (h : j < E.length) : ((b :: M ++ E).map mkE).getD (M.length + 1 + j) default = mkE (E.getD j default) := by
  rw [List.getD_eq_getElem?_getD, List.getElem?_map, List.cons_append, show M.length + 1 + j = M.length + j + 1 by omega, List.getElem?_cons_succ, List.getElem?_append_right (by omega), show M.length + j - M.length = j by omega, List.getD_eq_getElem?_getD, List.getElem?_eq_getElem h]; rfl
theorem quiet_skip {th : Int} {b : T3} {M E : List T3} (hM : ∀ t ∈ M, quietT th t) {j : Nat} (h : j < M.length) : skipB ((b :: M ++ E).map mkE) th (j + 1) = true := by
  have hq := hM (M.getD j default) (by rw [List.getD_eq_getElem?_getD, List.getElem?_eq_getElem h]; exact List.getElem_mem _)
  unfold skipB
  rw [getD_cons_l h]
  rcases hq.2 with h1 | h1
  · have : ((mkE (M.getD j default)).th != th) = true := by rw [mkE_th]; simpa using h1
    rw [this]; rfl
  · have : ((mkE (M.getD j default)).k == 5) = true := by show ((M.getD j default).1 == 5) = true; simpa using h1
    rw [this]; simp
/-- A begin, what is not its own, and the commit. -/
theorem ahead_mine {th tr : Int} {M : List T3} (hM : ∀ t ∈ M, quietT th t) : aheadB (((1, th, tr) :: M ++ [(2, th, tr)]).map mkE) = true := by
  refine aheadB_true fun i hi => ?_
  rw [List.length_map, List.length_append, List.length_cons] at hi
  have hi' : i < M.length + 2 := hi
  by_cases h0 : i = 0
  · subst h0; rfl
  · obtain ⟨j, rfl⟩ : ∃ j, i = j + 1 := ⟨i - 1, by omega⟩
    by_cases hj : j < M.length
    · unfold okAt
      rw [getD_cons_l hj]
      have hq := (hM (M.getD j default) (by rw [List.getD_eq_getElem?_getD, List.getElem?_eq_getElem hj]; exact List.getElem_mem _)).1
      have : ((mkE (M.getD j default)).k != 2) = true := by show ((M.getD j default).1 != 2) = true; simpa using hq
      rw [this]; rfl
    · obtain rfl : j = M.length := by omega
      unfold okAt
      rw [show M.length + 1 = M.length + 1 + 0 from rfl, getD_cons_r (E := [(2, th, tr)]) (by simp)]
      have hb : backK (((1, th, tr) :: M ++ [(2, th, tr)]).map mkE) th (0 + 1 + M.length) = (0 : Nat) := back_const (m := 0) (by unfold skipB; simp [mkE]) M.length (fun j h1 h2 => by
        obtain ⟨q, rfl⟩ : ∃ q, j = q + 1 := ⟨j - 1, by omega⟩
        exact quiet_skip hM (by omega))
      rw [show 0 + 1 + M.length = M.length + 1 + 0 by omega] at hb
      show (_ || (!decide (backK _ th (M.length + 1 + 0) < 0) && begins (List.getD _ (backK _ th (M.length + 1 + 0)).toNat default) _)) = true
      rw [hb]
      simp [begins, mkE]
/-- Another try. -/
theorem ahead_other {th tr tr2 : Int} {M : List T3} (hM : ∀ t ∈ M, t.2.1 ≠ th ∨ t.1 = 5) (hn : tr2 ≠ tr) : aheadB (((1, th, tr) :: M ++ [(2, th, tr2)]).map mkE) = false := by
  refine aheadB_false (i := M.length + 1 + 0) (by simp) ?_
  unfold okAt
  rw [getD_cons_r (E := [(2, th, tr2)]) (by simp)]
  have hb : backK (((1, th, tr) :: M ++ [(2, th, tr2)]).map mkE) th (0 + 1 + M.length) = (0 : Nat) := back_const (m := 0) (by unfold skipB; simp [mkE]) M.length (fun j h1 h2 => by
    obtain ⟨q, rfl⟩ : ∃ q, j = q + 1 := ⟨j - 1, by omega⟩
    have hq : q < M.length := by omega
    have hh := hM (M.getD q default) (by rw [List.getD_eq_getElem?_getD, List.getElem?_eq_getElem hq]; exact List.getElem_mem _)
    unfold skipB
    rw [getD_cons_l hq]
    rcases hh with h3 | h3
    · have : ((mkE (M.getD q default)).th != th) = true := by rw [mkE_th]; simpa using h3
      rw [this]; rfl
    · have : ((mkE (M.getD q default)).k == 5) = true := by show ((M.getD q default).1 == 5) = true; simpa using h3
      rw [this]; simp)
  rw [show 0 + 1 + M.length = M.length + 1 + 0 by omega] at hb
  show (_ || (!decide (backK _ th (M.length + 1 + 0) < 0) && begins (List.getD _ (backK _ th (M.length + 1 + 0)).toNat default) _)) = false
  rw [hb]
  simp [begins, mkE]
  exact fun h => hn h.symm
/-- Something of its own between. -/
theorem ahead_amidst {th tr : Int} {M : List T3} : aheadB (((1, th, tr) :: M ++ [(3, th, tr), (2, th, tr)]).map mkE) = false := by
  refine aheadB_false (i := M.length + 1 + 1) (by simp) ?_
  unfold okAt
  rw [getD_cons_r (E := [(3, th, tr), (2, th, tr)]) (by simp)]
  have hs : skipB (((1, th, tr) :: M ++ [(3, th, tr), (2, th, tr)]).map mkE) th (M.length + 1 + 0) = false := by
    unfold skipB
    rw [getD_cons_r (E := [(3, th, tr), (2, th, tr)]) (by simp)]
    simp [mkE]
  have hb : backK (((1, th, tr) :: M ++ [(3, th, tr), (2, th, tr)]).map mkE) th (M.length + 1 + 1) = ((M.length + 1 + 0 : Nat) : Int) := by
    show backK _ th (M.length + 1 + 0 + 1) = _
    unfold backK
    rw [hs]; rfl
  show (_ || (!decide (backK _ th (M.length + 1 + 1) < 0) && begins (List.getD _ (backK _ th (M.length + 1 + 1)).toNat default) _)) = false
  rw [hb, Int.toNat_natCast, getD_cons_r (E := [(3, th, tr), (2, th, tr)]) (by simp)]
  simp [begins, mkE]
end Go.Proofs.Ytkaokhpaabfhmaa
