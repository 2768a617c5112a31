/- The eldest access of each address, inserted one by one: the plain law; lists of accesses of the call's own, in drawn regions. -/
import Derived.Test.YtlanchijcefncaaUB
import Derived.Laws.AppendOwn
import Derived.Laws.Append
import Derived.Laws.AppendOwnNone
import Derived.Deep.AppendSrc
import Derived.Deep.Upon
import Derived.Deep.RegionHeld3
namespace Go.Proofs.Ytlanchijcefncaa
open Go.RowKit

theorem nodupLen : ∀ (l m : List Int), l.Nodup → (∀ a ∈ l, a ∈ m) → l.length ≤ m.length
  | [], _, _, _ => Nat.zero_le _
  | a :: l, m, hn, hs => by
    have ha : a ∈ m := hs a (List.mem_cons_self ..)
    have h1 := nodupLen l (m.erase a) (List.nodup_cons.1 hn).2 (fun b hb => (List.mem_erase_of_ne (by rintro rfl; exact (List.nodup_cons.1 hn).1 hb)).2 (hs b (List.mem_cons_of_mem _ hb)))
    rw [List.length_erase_of_mem ha] at h1
    have := List.length_pos_of_mem ha
    rw [List.length_cons]; omega
theorem firstsLen {xs out : List Acc} (h : IsFirsts xs out) : out.length ≤ xs.length := by
  have h1 := nodupLen (out.map (·.1.1)) (xs.map (·.1.1)) (List.pairwise_map.2 (h.1.imp fun {a b} hab e => by rw [e] at hab; exact absurd hab (Int.lt_irrefl _))) (fun a ha => by
    obtain ⟨p, hp, rfl⟩ := List.mem_map.1 ha
    obtain ⟨x, hx, e⟩ := valOf_some ((h.2 p.1.1 p.1.2).1 ⟨p, hp, rfl⟩)
    exact List.mem_map.2 ⟨x, hx, by rw [e]⟩)
  simpa using h1
theorem takeSnoc {xs : List Acc} {i : Nat} (h : i < xs.length) : xs.take (i + 1) = xs.take i ++ [xs.getD i acc0] := by
  rw [List.take_add_one, List.getD_eq_getElem?_getD, List.getElem?_eq_getElem h]; rfl
theorem valOfAppend (xs ys : List Acc) (a : Int) : valOf (xs ++ ys) a = (valOf xs a).or (valOf ys a) := by
  induction xs with
  | nil => rfl
  | cons x xs ih =>
    rw [List.cons_append, valOf_cons, valOf_cons, ih]
    split
    · rfl
    · rfl
theorem valOf_snoc (xs : List Acc) (x : Acc) (a v : Int) : valOf (xs ++ [x]) a = some v ↔ valOf xs a = some v ∨ (valOf xs a = none ∧ x.1 = (a, v)) := by
  rw [valOfAppend, valOf_cons, valOf_nil]
  cases h : valOf xs a with
  | some u => simp
  | none =>
    rw [Option.none_or]
    constructor
    · intro e
      split at e
      · rename_i e2
        cases e
        exact .inr ⟨rfl, by rw [← e2]⟩
      · cases e
    · rintro (e | ⟨_, e⟩)
      · cases e
      · rw [if_pos (by rw [e]), show x.1.2 = v by rw [e]]
theorem firsts0 : IsFirsts [] [] := ⟨List.Pairwise.nil, fun a v => ⟨fun ⟨p, hp, _⟩ => (by cases hp), fun h => (by cases h)⟩⟩
theorem getD_mem {out : List Acc} {k : Nat} (hk : k < out.length) : out.getD k acc0 ∈ out := by rw [List.getD_eq_getElem?_getD, List.getElem?_eq_getElem hk]; exact List.getElem_mem _
theorem firsts_same {xs out : List Acc} {x : Acc} {k : Nat} (h : IsFirsts xs out) (hk : k < out.length) (he : (out.getD k acc0).1.1 = x.1.1) : IsFirsts (xs ++ [x]) out := by
  refine ⟨h.1, fun a v => ?_⟩
  rw [valOf_snoc, h.2]
  refine ⟨.inl, ?_⟩
  rintro (e | ⟨e, e2⟩)
  · exact e
  · have := (h.2 _ _).1 ⟨_, getD_mem hk, rfl⟩
    rw [he, show x.1.1 = a by rw [e2], e] at this
    cases this
theorem firsts_ins {xs out : List Acc} {x : Acc} {k : Nat} (h : IsFirsts xs out) (hk : k ≤ out.length) (hlo : ∀ j, j < k → (out.getD j acc0).1.1 < x.1.1) (hhi : k < out.length → x.1.1 < (out.getD k acc0).1.1) : IsFirsts (xs ++ [x]) (out.take k ++ [x] ++ out.drop k) := by
  have hL : ∀ p ∈ out.take k, p.1.1 < x.1.1 := by
    intro p hp
    obtain ⟨j, hj, rfl⟩ := List.mem_iff_getElem.1 hp
    rw [List.length_take] at hj
    have := hlo j (by omega)
    rw [List.getD_eq_getElem?_getD, List.getElem?_eq_getElem (by omega)] at this
    rw [List.getElem_take]; exact this
  have hpw := h.1
  rw [← List.take_append_drop k out] at hpw
  have hR : ∀ p ∈ out.drop k, x.1.1 < p.1.1 := by
    intro p hp
    obtain ⟨j, hj, rfl⟩ := List.mem_iff_getElem.1 hp
    rw [List.length_drop] at hj
    have h1 := hhi (by omega)
    rw [List.getElem_drop]
    rw [List.getD_eq_getElem?_getD, List.getElem?_eq_getElem (by omega)] at h1
    by_cases h0 : j = 0
    · subst h0; exact h1
    · exact Int.lt_trans h1 (List.pairwise_iff_getElem.1 h.1 k (k + j) (by omega) (by omega) (by omega))
  have hnone : valOf xs x.1.1 = none := by
    cases hv : valOf xs x.1.1 with
    | none => rfl
    | some v =>
      obtain ⟨p, hp, e⟩ := (h.2 _ _).2 hv
      rw [← List.take_append_drop k out] at hp
      have e1 : p.1.1 = x.1.1 := by rw [e]
      rcases List.mem_append.1 hp with hp | hp
      · have := hL p hp; omega
      · have := hR p hp; omega
  refine ⟨?_, fun a v => ?_⟩
  · obtain ⟨p1, p2, p3⟩ := List.pairwise_append.1 hpw
    refine List.pairwise_append.2 ⟨List.pairwise_append.2 ⟨p1, List.pairwise_singleton _ _, fun a ha b hb => ?_⟩, p2, fun a ha b hb => ?_⟩
    · rw [List.mem_singleton.1 hb]; exact hL a ha
    · rcases List.mem_append.1 ha with ha | ha
      · exact p3 a ha b hb
      · rw [List.mem_singleton.1 ha]; exact hR b hb
  · rw [valOf_snoc, ← h.2]
    constructor
    · rintro ⟨p, hp, e⟩
      rcases List.mem_append.1 hp with hp | hp
      · rcases List.mem_append.1 hp with hp | hp
        · exact .inl ⟨p, List.mem_of_mem_take hp, e⟩
        · rw [List.mem_singleton.1 hp] at e
          exact .inr ⟨by rw [← hnone, e], e⟩
      · exact .inl ⟨p, List.mem_of_mem_drop hp, e⟩
    · rintro (⟨p, hp, e⟩ | ⟨_, e⟩)
      · rw [← List.take_append_drop k out] at hp
        rcases List.mem_append.1 hp with hp | hp
        · exact ⟨p, by simp [hp], e⟩
        · exact ⟨p, by simp [hp], e⟩
      · exact ⟨x, by simp, e⟩

/-- A list of accesses of the call's own. -/
def OwnAcc (w : World) (B : Nat) (v : Value) (L : List Acc) : Prop := w.ownsRow B 27 2 v L.length ((accInts L).map (Value.int .i64))
theorem OwnAcc.shape {w : World} {B : Nat} {v : Value} {L : List Acc} (h : OwnAcc w B v L) : ∃ A c, v = .slice A L.length c ∧ L.length ≤ c := by
  rcases h.2 with ⟨rfl, h0⟩ | ⟨g, cap, cur, rfl, hb, hg, hn, rest⟩
  · exact ⟨none, 0, by rw [h0], by omega⟩
  · exact ⟨_, cap, rfl, hn⟩
theorem OwnAcc.flat {w : World} {B n : Nat} {A : Option Addr} {c : Nat} {L : List Acc} (h : OwnAcc w B (.slice A n c) L) : n = L.length ∧ Flat w (fun k => B ≤ k) A (L.length * 2) (accInts L) := by
  obtain ⟨A', c', e, hf⟩ := Flat.ofOwn h
  cases e
  exact ⟨rfl, hf⟩
theorem OwnAcc.frame {w w' : World} {S : Nat → Prop} {B : Nat} {v : Value} {L : List Acc} (h : OwnAcc w B v L) (hf : Fr S w w') (hs : ∀ g, v.ownBlock = some g → ¬ S g) : OwnAcc w' B v L := ownsRow_frame h hf hs
theorem OwnAcc.made (w : World) (B : Nat) (h : B ≤ w.heap.size) : OwnAcc (w.alloc (.cells #[] 27)) B (.slice (some ⟨w.heap.size, 0, none⟩) 0 0) [] := World.ownsRow_made w #[] 0 h (Nat.zero_le _) (by simp)
theorem accInts_one {w : World} {b : Nat} (x : Acc) (h : w.heap[b]? = some (.cells #[.int .i64 x.1.1, .int .i64 x.1.2] 27 (0, 0))) : Flat w (fun _ => True) (some ⟨b, 0, none⟩) (1 * 2) (accInts [x]) := by
  refine ⟨rfl, fun _ => ⟨_, rfl, trivial, fun i hi => ?_⟩⟩
  have h1 : (Addr.mk b 0 none).add i = ⟨b, i, none⟩ := by unfold Addr.add; split <;> simp_all
  rw [h1, blk_cell h]
  have : i = 0 ∨ i = 1 := by omega
  rcases this with rfl | rfl <;> rfl
theorem own_run (w : World) (ty : TypeId) (B : Nat) (v : Value) (L : List Acc) (hown : OwnAcc w B v L) (A : Option Addr) (m c : Nat) (M : List Acc) (F : Nat → Prop) (hm : M.length = m) (hf : Flat w F A (m * 2) (accInts M)) (hn : L.length + m ≤ 100000) (hB : B ≤ w.heap.size) :
    ∃ A' c' w', (Builtin.append_ #[38, 38] ty #[v, .slice A m c]).run Try.prog w = .ok (.slice A' (L.length + m) c') w' ∧ OwnAcc w' B (.slice A' (L.length + m) c') (L ++ M) ∧ Fr (fun k => v.ownBlock = some k) w w' := by
  obtain ⟨i0, hi, hz0, hz1, hz2⟩ := info_parts infoAcc
  by_cases h0 : 0 < m
  · obtain ⟨ad, rfl, _, hc⟩ := hf.at_ (by omega)
    obtain ⟨v', w', hr, h2, hg, _⟩ := run_append_own (P := Try.prog) w B 38 ty 27 i0 _ 2 16 Try.underlying38 hi hz0 hz1 hz2 rfl (by decide) v L.length _ hown ad m c ((accInts M).map (Value.int .i64)) (by rw [List.length_map, accInts_len, hm])
      (cells_ints hf.len hc) (one_ints _) (by unfold maxLen; omega) (by omega) hB
    have h3 : OwnAcc w' B v' (L ++ M) := by
      unfold OwnAcc
      rw [List.length_append, hm, accInts_append, List.map_append]; exact h2
    obtain ⟨A', c', rfl, _⟩ := h3.shape
    rw [List.length_append, hm] at hr h3
    exact ⟨A', c', w', hr, h3, ⟨hg.os, hg.tape, hg.output, hg.size, fun k hk hs => hg.block k hk (fun e => hs e.symm)⟩⟩
  · obtain rfl : m = 0 := by omega
    obtain rfl : M = [] := List.length_eq_zero_iff.1 hm
    obtain ⟨A', c', rfl, hle⟩ := hown.shape
    have hr : (Builtin.append_ #[38, 38] ty #[.slice A' L.length c', .slice A 0 c]).run Try.prog w = .ok (.slice A' L.length c') w := by
      cases A with
      | none => exact run_append_nothing w _ _ ty _ i0 Try.underlying38 hi A' _ _ hle _ (Src.ofNil (w := w) Try.underlying38 c)
      | some a => exact run_append_nothing w _ _ ty _ i0 Try.underlying38 hi A' _ _ hle _ (Src.ofSlice (w := w) Try.underlying38 a 0 c [] (by simp) (fun j u hj => by cases hj) (fun u hu => by cases hu))
    exact ⟨A', c', w, hr, by rw [List.append_nil]; exact hown, Fr.refl _ _⟩
theorem step_own {ops : Array Oper} {o : Oper} {a : Act} {K : Act → World → Prop} {Q : Exit → Act → World → Prop} {E : Prop} (w : World) (hgd : o.guard = none) (s x : Operand)
    (ho : o.op = .call { callee := .builtin .append, args := #[s, x], argTypes := #[38, 38] }) (B : Nat) (v : Value) (L : List Acc) (hs : a.eval s = v) (A : Option Addr) (m c : Nat) (M : List Acc) (F : Nat → Prop) (hx : a.eval x = .slice A m c) (n' : Nat) (Z : List Acc)
    (hz : M.length = m ∧ L.length + m = n' ∧ L ++ M = Z ∧ L.length + m ≤ 100000) (hown : OwnAcc w B v L) (hf : Flat w F A (m * 2) (accInts M)) (hB : B ≤ w.heap.size)
    (h : ∀ A' c' w', OwnAcc w' B (.slice A' n' c') Z → Fr (fun k => v.ownBlock = some k) w w' → K (a.put o.dst (.slice A' n' c')) w') :
    if Region.wanted o (yielded ops a.tmps) = true then Oper.wp Try.prog o a w K Q else E := by
  have hw : Region.wanted o (yielded ops a.tmps) = true := by simp [Region.wanted, hgd]
  rw [if_pos hw]
  obtain ⟨hm, rfl, rfl, hn⟩ := hz
  obtain ⟨A', c', w', hr, h2, h3⟩ := own_run w o.type B v L hown A m c M F hm hf hn hB
  unfold Oper.wp execOp
  simp only [ho, resolve, invoke, builtin, Sem.run_bind, Sem.run_pure, Result.andThen_ok, List.map_toArray, List.map_cons, List.map_nil, hs, hx, hr]
  exact h A' c' w' h2 h3
theorem cut2 {P Q : Prop} (hp : P) (h : P → Q) : Q := h hp
/-- A part of a list. -/
theorem accInts_take (L : List Acc) (k : Nat) : accInts (L.take k) = (accInts L).take (k * 2) := by
  induction L generalizing k with
  | nil => simp [accInts]
  | cons x L ih =>
    cases k with
    | zero => simp [accInts]
    | succ k =>
      have e : ∀ M : List Acc, accInts (x :: M) = x.1.1 :: x.1.2 :: accInts M := fun _ => rfl
      rw [List.take_succ_cons, e, e, ih, show (k + 1) * 2 = k * 2 + 1 + 1 by omega, List.take_succ_cons, List.take_succ_cons]
theorem accInts_drop (L : List Acc) (k : Nat) : accInts (L.drop k) = (accInts L).drop (k * 2) := by
  induction L generalizing k with
  | nil => simp [accInts]
  | cons x L ih =>
    cases k with
    | zero => simp
    | succ k =>
      have e : accInts (x :: L) = x.1.1 :: x.1.2 :: accInts L := rfl
      rw [List.drop_succ_cons, e, ih, show (k + 1) * 2 = k * 2 + 1 + 1 by omega, List.drop_succ_cons, List.drop_succ_cons]
theorem flat_take {w : World} {F : Nat → Prop} {A : Option Addr} {L : List Acc} (h : Flat w F A (L.length * 2) (accInts L)) {k : Nat} (hk : k ≤ L.length) : Flat w F A (k * 2) (accInts (L.take k)) := by
  refine ⟨by rw [accInts_len, List.length_take]; omega, fun h0 => ?_⟩
  obtain ⟨ad, h1, h2, h3⟩ := h.at_ (by omega)
  refine ⟨ad, h1, h2, fun i hi => ?_⟩
  rw [h3 i (by omega), accInts_take, List.getD_eq_getElem?_getD, List.getD_eq_getElem?_getD, List.getElem?_take, if_pos hi]
theorem flat_drop {w : World} {F : Nat → Prop} {ad : Addr} {L : List Acc} (h : Flat w F (some ad) (L.length * 2) (accInts L)) {k : Nat} (hk : k ≤ L.length) : Flat w F (some (ad.add (k * 2))) ((L.length - k) * 2) (accInts (L.drop k)) := by
  refine ⟨by rw [accInts_len, List.length_drop], fun h0 => ?_⟩
  obtain ⟨ad', h1, h2, h3⟩ := h.at_ (by omega)
  cases h1
  refine ⟨_, rfl, by rw [add_blk]; exact h2, fun i hi => ?_⟩
  have e : (ad.add (k * 2)).add i = ad.add (k * 2 + i) := by
    by_cases hi0 : i = 0
    · subst hi0; unfold Addr.add; simp
    · rw [add_past _ _ _ (by omega)]
      unfold Addr.add
      rw [if_neg hi0]
  rw [e, h3 (k * 2 + i) (by omega), accInts_drop, List.getD_eq_getElem?_getD, List.getD_eq_getElem?_getD, List.getElem?_drop]
end Go.Proofs.Ytlanchijcefncaa
