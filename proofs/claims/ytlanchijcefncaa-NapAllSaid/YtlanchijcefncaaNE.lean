/- nap.Sleep. -/
import Derived.Test.YtlanchijcefncaaND
namespace Go.Proofs.Ytlanchijcefncaa
open Go.RowKit Go.Shelf Go.Maps
attribute [local go_sem] Oper.semAt_some

set_option maxRecDepth 100000 in
set_option maxHeartbeats 4000000 in
theorem sleepNo_calls (nb mb nn B : Nat) (D : DataW Unit) (S : List NapE) (a : Int) (v : Value) (w : World) (h : NapAt w B nb mb nn D S) (ha : (Lit.int .i64 a).wf = true) (hn : S.any (fun p => p.1 == a) = true) :
    Calls Try.prog 9 #[.pointer (some ⟨nb, 0, none⟩), .int .i64 a, v] w fun e w' => e = .returned (.bool false) ∧ w' = w := by
  have cA := asleep_calls nb mb nn B D S a w h ha
  rw [hn] at cA
  go_enter Try.func9, Try.ntmps9
  go_wp2_with (go_at_call 16; (with_reducible refine cA.mono ?_); rintro e w1 ⟨rfl, rfl⟩)
  go_ret
  exact ⟨rfl, rfl⟩

def insS (S : List NapE) (a : Int) (b : Nat) (xs : List Acc) : List NapE := S.filter (fun q => decide (q.1 < a)) ++ [(a, b, xs)] ++ S.filter (fun q => decide (a < q.1))
theorem mem_insS {S : List NapE} {a : Int} {b : Nat} {xs : List Acc} (hn : S.any (fun p => p.1 == a) = false) (p : NapE) : p ∈ insS S a b xs ↔ p = (a, b, xs) ∨ p ∈ S := by
  unfold insS
  rw [List.mem_append, List.mem_append, List.mem_filter, List.mem_filter, List.mem_singleton]
  constructor
  · rintro ((h | h) | h)
    · exact .inr h.1
    · exact .inl h
    · exact .inr h.1
  · rintro (h | h)
    · exact .inl (.inr h)
    · have h1 : p.1 ≠ a := fun e => by
        rw [List.any_eq_false] at hn
        exact hn p h (by simpa using e)
      by_cases h2 : p.1 < a
      · exact .inl (.inl ⟨h, by simpa using h2⟩)
      · exact .inr ⟨h, by simp; omega⟩
theorem NapAt.put {w w' : World} {B nb mb nn b : Nat} {D : DataW Unit} {S : List NapE} {a : Int} {xs : List Acc} (h : NapAt w B nb mb nn D S) (ha : (Lit.int .i64 a).wf = true) (hn : S.any (fun p => p.1 == a) = false) (hb : OwnI w b xs) (hbB : B ≤ b) (hbm : b ≠ mb) (hnn : nn < 100000)
    (ho : w'.ownsMap Try.prog 3 refElem mb (nn + 1) (D.put (.int .i64 a) (.lit (.int .i64 (b : Int))))) (ht : w.mapTurned w' mb) : NapAt w' B nb mb (nn + 1) (D.put (.int .i64 a) (.lit (.int .i64 (b : Int)))) (insS S a b xs) := by
  have hf := Fr.turned ht
  have hD := h.own.isMap
  refine ⟨hf.heap h.blk h.ne, ho, fun u => ?_, fun p hp z => ?_, fun p hp => ?_, fun p hp => ?_, ?_, ⟨h.base.1, h.base.2.1, fun p hp => ?_⟩, by omega⟩
  · by_cases e : u = a
    · subst e
      rw [has_put_same hD (keyL _)]
      symm
      rw [List.any_eq_true]
      exact ⟨(u, b, xs), (mem_insS hn _).2 (.inl rfl), by simp⟩
    · rw [has_put_other (key_ne e), h.has, Bool.eq_iff_iff, List.any_eq_true, List.any_eq_true]
      constructor
      · rintro ⟨p, hp, e2⟩
        exact ⟨p, (mem_insS hn _).2 (.inr hp), e2⟩
      · rintro ⟨p, hp, e2⟩
        rcases (mem_insS hn _).1 hp with rfl | hp
        · exact absurd (by simpa using e2) (fun x : a = u => e x.symm)
        · exact ⟨p, hp, e2⟩
  · rcases (mem_insS hn _).1 hp with rfl | hp
    · exact atKey_put_same hD (keyL _) _ _
    · have : p.1 ≠ a := fun e => by
        rw [List.any_eq_false] at hn
        exact hn p hp (by simpa using e)
      rw [atKey_put_other (key_ne this)]
      exact h.at_ p hp z
  · rcases (mem_insS hn _).1 hp with rfl | hp
    · exact ownsMap_fr hb hf hbm
    · exact ownsMap_fr (h.inn p hp) hf (h.base.2.2 p hp).2
  · rcases (mem_insS hn _).1 hp with rfl | hp
    · exact ha
    · exact h.wf p hp
  · unfold insS
    refine List.pairwise_append.2 ⟨List.pairwise_append.2 ⟨h.rise.filter _, List.pairwise_singleton _ _, fun p hp q hq => ?_⟩, h.rise.filter _, fun p hp q hq => ?_⟩
    · rw [List.mem_singleton.1 hq]
      simpa using (List.mem_filter.1 hp).2
    · have h2 : a < q.1 := by simpa using (List.mem_filter.1 hq).2
      rcases List.mem_append.1 hp with hp | hp
      · have h1 : p.1 < a := by simpa using (List.mem_filter.1 hp).2
        omega
      · rw [List.mem_singleton.1 hp]; exact h2
  · rcases (mem_insS hn _).1 hp with rfl | hp
    · exact ⟨hbB, hbm⟩
    · exact h.base.2.2 p hp
set_option maxRecDepth 100000 in
set_option maxHeartbeats 4000000 in
theorem sleep_calls (nb mb nn B : Nat) (D : DataW Unit) (S : List NapE) (a : Int) (A : Option Addr) (xs : List Acc) (cap : Nat) (w : World) (h : NapAt w B nb mb nn D S) (ha : (Lit.int .i64 a).wf = true) (hn : S.any (fun p => p.1 == a) = false) (hx : Flat w (fun k => k < w.heap.size) A (xs.length * 2) (accInts xs)) (hlen : xs.length ≤ 20000) (hnn : nn < 100000) :
    Calls Try.prog 9 #[.pointer (some ⟨nb, 0, none⟩), .int .i64 a, .slice A xs.length cap] w fun e w' => e = .returned (.bool true) ∧ ∃ D', NapAt w' B nb mb (nn + 1) D' (insS S a w.heap.size xs) ∧ Fr (fun k => k = mb) w w' := by
  refine (callsIn_wide (n := 8)).1 ?_
  have hmm := @run_makeMap Try.prog
  have cB : ∀ a len cap W, CallsIn Fence.wide 7 Try.prog 22 #[.slice a len cap] W fun e w' => e = .returned (.func (.func 27) #[] #[.pointer (some ⟨W.heap.size, 0, none⟩)]) ∧ w' = W.alloc (.cells #[.slice a len cap] 38) := fun a len cap W => backward_in Fence.wide 7 trivial rfl a len cap W
  have cA0 := asleep_calls nb mb nn B D S a w h ha
  rw [hn] at cA0
  have cA : CallsIn Fence.wide 7 Try.prog 16 _ w _ := callsIn_wide.2 cA0
  have hfB : Fence.wide.fn 22 := trivial
  have hfA : Fence.wide.fn 16 := trivial
  refine callsIn_of_wp_marks Try.func9 rfl trivial ?_ rfl
  simp only [Try.ntmps9, List.size_toArray, List.length_cons, List.length_nil, Nat.reduceAdd, Nat.reduceSub, Array.replicate_succ, Array.replicate_zero, List.push_toArray, List.append_toArray, List.nil_append, List.cons_append]
  gi_wp2_with (first
    | (gi_at_call 16; (with_reducible refine cA.mono ?_); rintro e w1 ⟨rfl, e1⟩; rw [e1]; clear e1 w1)
    | (gi_at_call 22; refine (cB _ _ _ _).mono ?_; rintro e w' ⟨rfl, rfl⟩))
  obtain ⟨W0, hW0⟩ : ∃ W0, W0 = (((w.alloc (.map #[] 0)).alloc (.cells #[.map (some w.heap.size)] 49)).alloc (.cells #[.slice A xs.length cap] 38)) := ⟨_, rfl⟩
  have hsz : W0.heap.size = w.heap.size + 3 := by rw [hW0]; simp
  have hm0 : W0.ownsMap Try.prog 3 (plainElem (H := Unit) Try.prog 3) w.heap.size 0 (.map []) := by
    rw [hW0]; exact ((World.ownsMap_made w Try.prog 3 _).alloc _).alloc _
  have hB0 : Below w.heap.size w W0 := by rw [hW0]; exact (((Below.refl _ w).alloc (Nat.le_refl _) _).alloc (by simp) _).alloc (by simp; omega) _
  have hbx : W0.cell? ⟨w.heap.size + 1, 0, none⟩ = some (.map (some w.heap.size)) := by
    have h1 := (Boxed.new (w.alloc (.map #[] 0)) 49 (.map (some w.heap.size))).alloc (.cells #[.slice A xs.length cap] 38)
    simp only [World.size_alloc] at h1
    rw [hW0]; exact h1.cell
  have hsx : W0.cell? ⟨w.heap.size + 2, 0, none⟩ = some (.slice A xs.length cap) := by
    have h1 := Boxed.new ((w.alloc (.map #[] 0)).alloc (.cells #[.map (some w.heap.size)] 49)) 38 (.slice A xs.length cap)
    simp only [World.size_alloc] at h1
    rw [hW0]; exact h1.cell
  rw [← hW0]
  have hA0 : AccsAt (fun k => k < w.heap.size + 3 ∧ k ≠ w.heap.size) W0 A xs :=
    AccsAt.ofFlat (hx.frame (Fr.ofBelow hB0 (fun _ => False)) (fun _ _ x => x.elim)) (fun k _ hk => ⟨by omega, by omega⟩)
  clear hW0
  refine wpIn_rangeFunc_ownH rfl (by omega) (gf := 27) (lb := #[.pointer (some ⟨w.heap.size + 1 + 1, 0, none⟩)]) rfl trivial (enters_of Try.func27 (by kernel_rfl) rfl)
    (back_stops Fence.wide 7 trivial rfl (by omega) (w.heap.size + 1 + 1) cap (fun k => k < w.heap.size + 3 ∧ k ≠ w.heap.size) A xs hlen W0 (by omega) ⟨by omega, by omega⟩ (fun k hk => by omega) hsx hA0) Kb.trans (kb_b (fun k hk => by omega)) (Below.refl _ _) (fun _ => rfl)
    (fun (pre : List (Nat × Acc)) W => (Kb (fun k => k < w.heap.size + 3 ∧ k ≠ w.heap.size) W0 W ∧ W.ownsMap Try.prog 3 (plainElem (H := Unit) Try.prog 3) w.heap.size pre.length (bkD pre)) ∧ Below w.heap.size w W)
    (fun _ _ _ => False)
    (OwnFrom.and (fun s X Y row hs hg hr => ⟨hs.1.grown hg (fun k e => by have := (hr k e).1; omega), hs.2.kept hg (fun e => by have := (hr _ e.symm).1; omega)⟩) (ownFrom_below (Nat.le_refl _) (by omega)))
    (fun _ _ _ _ _ hs _ _ => hs)
    ⟨⟨Kb.refl _ _, hm0⟩, hB0⟩
    (fun x a' W => ∃ Bx, w.heap.size + 3 ≤ Bx ∧ W.heap[Bx]? = some (.cells #[.int .i64 x.2.1.1, .int .i64 x.2.1.2] 27 (0, 0)) ∧ a' = {
      tmps := #[.pointer (some ⟨nb, 0, none⟩), .int .i64 a, .slice A xs.length cap, undef, undef, undef, .bool false, .pointer (some ⟨w.heap.size + 1, 0, none⟩), undef, .pointer (some ⟨Bx, 0, none⟩), .pointer (some ⟨nb, 0, none⟩), .int .i64 a, .bool false,
          .map (some w.heap.size), .slice A xs.length cap, .func (.func 27) #[] #[.pointer (some ⟨w.heap.size + 1 + 1, 0, none⟩)], .int .i64 (x.1 : Int), .agg #[.int .i64 x.2.1.1, .int .i64 x.2.1.2],
          undef, undef, undef, undef, undef, undef, undef, undef, undef, undef, undef],
      defers := [] })
    (fun x a' s X Y row hs hg hr => by
      obtain ⟨Bx, h1, h2, h3⟩ := hs
      refine ⟨Bx, h1, (hg.block Bx (blk_lt h2) (fun e => ?_)).trans h2, h3⟩
      obtain ⟨o, ho, hc⟩ := (hr Bx e.symm).2
      rw [h2] at ho; cases ho; cases hc) ?assign ?body ?done ?stop
  case assign =>
    rintro l pre x W K ⟨⟨hk, hown⟩, hB⟩ hK
    have hWs := hk.size
    gi_wp2
    exact hK _ _ ((KeepsOthers.alloc _ _).from _) ((Kb.refl _ W).alloc _) ⟨⟨hk.alloc _, hown.alloc _⟩, hB.alloc hB.size _⟩ ⟨W.heap.size, by omega, heap_alloc_new W _, rfl⟩
  case body =>
    rintro l pre x a' W hl ⟨r, hr⟩ ⟨⟨hk, hown⟩, hB⟩ ⟨Bx, hBx, hbX, rfl⟩ hlt
    have hml : pre.length < maxLen := by unfold maxLen; omega
    have q0 := blk_cell hbX 0
    have q1 := blk_cell hbX 1
    simp only [List.getElem?_toArray, List.getElem?_cons_zero, List.getElem?_cons_succ] at q0 q1
    have hbx' := hk.cell hbx (by show w.heap.size + 1 < w.heap.size + 3 ∧ w.heap.size + 1 ≠ w.heap.size; omega)
    have hkey := Maps.keyOf_int_mk Try.underlying3 x.2.2.1
    have hval := plainElem_int (H := Unit) Try.underlying3 x.2.2.2
    gi_wp2_with (first
      | (gi_at_mapUpdate; refine wpListIn_mapUpdate_own _ rfl _ _ _ 49 rfl 3 3 (Maps.int_keyed Try.underlying3) Try.underlying49 _ w.heap.size pre.length _ rfl hown hml _ _ _ rfl rfl hkey _ [] hval ?_; intro w1 hown1 hgrow1))
    have hr1 : ∀ k, some w.heap.size = some k → ¬ (k < w.heap.size + 3 ∧ k ≠ w.heap.size) := fun k e => by cases e; omega
    exact ⟨KeepsFrom.of_grownBy hgrow1 (fun j e => by cases e; omega), (Kb.refl _ W).grown hgrow1 hr1,
      ⟨⟨hk.grown hgrow1 hr1, by rw [bkD_snoc, List.length_append]; exact hown1⟩, hB.grown hgrow1 hB.size (fun k e => by cases e; exact Nat.le_refl _)⟩⟩
  case done =>
    rintro DD ys W hD rfl ⟨⟨hk, hown⟩, hB⟩ hK
    rw [bkD_all, back_length] at hown
    have hWs : w.heap.size + 3 ≤ W.heap.size := by have := hk.size; omega
    have hDs : DD < W.heap.size := blk_lt hK
    have hbx' := hk.cell hbx (by show w.heap.size + 1 < w.heap.size + 3 ∧ w.heap.size + 1 ≠ w.heap.size; omega)
    have hNW := h.frameF (Fr.ofBelow hB (fun _ => False))
    have c1 := blk_cell hNW.blk 0
    simp only [List.getElem?_toArray, List.getElem?_cons_zero] at c1
    have hmu : ∀ V : World, V.heap = W.heap → ∃ V', (Instr.mapUpdate 46 (.map (some mb)) (.int .i64 a) (.map (some w.heap.size))).run Try.prog V = .ok () V' ∧ V'.ownsMap Try.prog 3 refElem mb (nn + 1) (D.put (.int .i64 a) (.lit (.int .i64 (w.heap.size : Int)))) ∧ V.mapTurned V' mb := fun V hV =>
      World.ownsMap.store (by obtain ⟨es, clock, hb, r⟩ := hNW.own; exact ⟨es, clock, by rw [hV]; exact hb, r⟩) keyedI Try.underlying46 (by unfold maxLen; omega) (keyI ha) rfl
    obtain ⟨V1, hr1, ho1, ht1⟩ := hmu W.drew rfl
    clear cA cA0 cB hfA hfB hmm hmu
    gi_wp2
    gi_region
    gi_wp2
    have hft := Fr.turned ht1
    have hNd := hNW.frameF ((Fr.refl (fun _ => False) W).drew)
    have hKd : V1.heap[DD]? = some (.deferred (some [])) := hft.heap (a := W.drew) hK (fun e => by
      obtain ⟨es, clock, hb, _⟩ := hNW.own
      rw [← e, hK] at hb; cases hb)
    have hN1 := hNd.put ha hn (xs := xs) (b := w.heap.size) (by have h2 := ownsMap_fr hown ((Fr.refl (fun _ => False) W).drew) (fun x => x); exact h2) (by have := h.base.1; have := blk_lt h.blk; omega) (by have := h.own.lt; omega) hnn ho1 ht1
    refine ⟨by simp, .inl ⟨_, _, rfl, run_takeDeferred hKd, ?_⟩⟩
    have hfp : Fr (fun k => k = DD) V1 (V1.putObj DD (.deferred none)) := ⟨rfl, rfl, rfl, by simp [World.putObj], fun k _ hs => World.putObj_heap_other (fun e => hs e)⟩
    refine ⟨_, results_tmp rfl _ _ _, rfl, _, hN1.frame hfp ?_ ?_ ?_, ?_⟩
    · have := blk_lt h.blk; omega
    · have := h.own.lt; omega
    · intro p hp e
      rcases (mem_insS hn _).1 hp with rfl | hp
      · dsimp only at e; omega
      · have := (h.inn p hp).lt; omega
    · have hf1 : Fr (fun k => k = mb) w V1 := ((Fr.ofBelow hB (fun k => k = mb)).drew).trans hft
      exact hf1.trans' hfp (fun k hk hl => by omega)
  case stop =>
    rintro DD c pre W _ _ h _
    exact h.elim
end Go.Proofs.Ytlanchijcefncaa
