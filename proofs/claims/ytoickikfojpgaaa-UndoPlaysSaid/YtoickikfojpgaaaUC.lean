/- (*Log).First. -/
import Derived.Test.YtoickikfojpgaaaUB
import Derived.Test.YtoickikfojpgaaaSh14
import Derived.Maps.OwnIn
import Derived.Maps.AppendAt
import Derived.Lib.Hide
namespace Go.Proofs.Ytoickikfojpgaaa
open Go.RowKit Go.Shelf Go.Maps
attribute [local go_sem] Oper.semAt_some

theorem acc_news {w : World} {b : Nat} {a v : Int} {T : TypeId} (h : w.heap[b]? = some (.cells #[.int .i64 a, .int .i64 v] T (0, 0))) : ∀ j u, ([.int .i64 a, .int .i64 v] : List Value)[j]? = some u → w.cell? ((⟨b, 0, none⟩ : Addr).add j) = some u := by
  intro j u hj
  have h1 : (Addr.mk b 0 none).add j = ⟨b, j, none⟩ := by unfold Addr.add; split <;> simp_all
  rw [h1, blk_cell h]
  have : j < 2 := by have := (List.getElem?_eq_some_iff.1 hj).1; exact this
  have : j = 0 ∨ j = 1 := by omega
  rcases this with rfl | rfl <;> exact hj
theorem sorted_row {xs : List Acc} {ss : List Int} {W : World} {B : Nat} {T : TypeId} {v : Value} (hS : ss.Perm (intKeys (putD xs))) (hrow : W.ownsRow B T 1 v ss.length ((ss.mergeSort fun x y => decide (x ≤ y)).map encZ)) :
    ∃ ks A c, v = .slice A (List.length ks) c ∧ (List.Pairwise (· < ·) ks ∧ ∀ a, a ∈ ks ↔ (valOf xs a).isSome = true) ∧ Flat W (fun k => B ≤ k) A (ks.length * 1) ks ∧ ks.length = Maps.size (putD xs) := by
  have hl : (ss.mergeSort leI).length = ss.length := List.length_mergeSort ..
  rw [← hl] at hrow
  obtain ⟨A, c, hv, hf⟩ := Flat.ofOwn hrow
  obtain ⟨es, he⟩ := putD_isMap xs
  have h2 := hS.length_eq
  rw [he] at h2
  exact ⟨ss.mergeSort leI, A, c, hv, sorted_keys hS, hf, by rw [hl, h2, he]; simp [intKeys, Maps.size]⟩
theorem sorts (m : Nat) : AnyZI.SortsIn Try.prog laySORTED_ren Fence.wide m :=
  ⟨fun blk off cap ss W hH hblk hsz => callsIn_wide.2 (AnyM.slices_Sort_int laySORT blk off cap ss W hH hblk hsz),
   fun p cap W => callsIn_wide.2 (AnyM.slices_Sort_int_none laySORT p cap W)⟩

set_option maxRecDepth 100000 in
set_option maxHeartbeats 4000000 in
theorem first_calls (lb : Nat) (A : Option Addr) (xs : List Acc) (cap : Nat) (most : Int) (w : World) (hlog : w.heap[lb]? = some (.cells #[.slice A xs.length cap, .int .i64 most] 51 (0, 0)))
    (hx : Flat w (fun k => k < w.heap.size) A (xs.length * 2) (accInts xs)) (hlen : xs.length ≤ 20000) :
    Calls Try.prog 10 #[.pointer (some ⟨lb, 0, none⟩)] w fun e w' => ∃ v out, e = .returned v ∧ IsFirsts xs out ∧ w'.ownsRow w.heap.size 34 2 v out.length ((accInts out).map (Value.int .i64)) ∧ Below w.heap.size w w' := by
  refine (callsIn_wide (n := 8)).1 ?_
  have hmm := @run_makeMap Try.prog
  have hll := blk_lt hlog
  have c0 := blk_cell hlog 0
  simp only [List.getElem?_toArray, List.getElem?_cons_zero] at c0
  have cB : ∀ a len cap W, CallsIn Fence.wide 7 Try.prog 20 #[.slice a len cap] W fun e w' => e = .returned (.func (.func 23) #[] #[.pointer (some ⟨W.heap.size, 0, none⟩)]) ∧ w' = W.alloc (.cells #[.slice a len cap] 31) := fun a len cap W => backward_in Fence.wide 7 trivial rfl a len cap W
  have hfB : Fence.wide.fn 20 := trivial
  refine callsIn_of_wp_marks Try.func10 rfl trivial ?_ rfl
  simp only [Try.ntmps10, List.size_toArray, List.length_cons, List.length_nil, Nat.reduceAdd, Nat.reduceSub, Array.replicate_succ, Array.replicate_zero, List.push_toArray, List.append_toArray, List.nil_append, List.cons_append]
  gi_wp2_with (gi_at_call 20; refine (cB _ _ _ _).mono ?_; rintro e w' ⟨rfl, rfl⟩)
  obtain ⟨W0, hW0⟩ : ∃ W0, W0 = (((w.alloc (.map #[] 0)).alloc (.cells #[.map (some w.heap.size)] 52)).alloc (.cells #[.slice A xs.length cap] 31)) := ⟨_, rfl⟩
  have hsz : W0.heap.size = w.heap.size + 3 := by rw [hW0]; simp
  have hm0 : W0.ownsMap Try.prog 3 (plainElem (H := Unit) Try.prog 3) w.heap.size 0 (.map []) := by
    rw [hW0]; exact ((World.ownsMap_made w Try.prog 3 _).alloc _).alloc _
  have hB0 : Below w.heap.size w W0 := by rw [hW0]; exact (((Below.refl _ w).alloc (Nat.le_refl _) _).alloc (by simp) _).alloc (by simp; omega) _
  have hbx : W0.cell? ⟨w.heap.size + 1, 0, none⟩ = some (.map (some w.heap.size)) := by
    have h1 := (Boxed.new (w.alloc (.map #[] 0)) 52 (.map (some w.heap.size))).alloc (.cells #[.slice A xs.length cap] 31)
    simp only [World.size_alloc] at h1
    rw [hW0]; exact h1.cell
  have hsx : W0.cell? ⟨w.heap.size + 2, 0, none⟩ = some (.slice A xs.length cap) := by
    have h1 := Boxed.new ((w.alloc (.map #[] 0)).alloc (.cells #[.map (some w.heap.size)] 52)) 31 (.slice A xs.length cap)
    simp only [World.size_alloc] at h1
    rw [hW0]; exact h1.cell
  rw [← hW0]
  have hA0 : AccsAt (fun k => k < w.heap.size + 3 ∧ k ≠ w.heap.size) W0 A xs :=
    AccsAt.ofFlat (hx.frame (Fr.ofBelow hB0 (fun _ => False)) (fun _ _ x => x.elim)) (fun k _ hk => ⟨by omega, by omega⟩)
  clear hW0
  refine wpIn_rangeFunc_ownH rfl (by omega) (gf := 23) (lb := #[.pointer (some ⟨w.heap.size + 1 + 1, 0, none⟩)]) rfl trivial (enters_of Try.func23 (by kernel_rfl) rfl)
    (back_stops Fence.wide 7 trivial rfl (by omega) (w.heap.size + 1 + 1) cap (fun k => k < w.heap.size + 3 ∧ k ≠ w.heap.size) A xs hlen W0 (by omega) ⟨by omega, by omega⟩ (fun k hk => by omega) hsx hA0) Kb.trans (kb_b (fun k hk => by omega)) (Below.refl _ _) (fun _ => rfl)
    (fun (pre : List (Nat × Acc)) W => (Kb (fun k => k < w.heap.size + 3 ∧ k ≠ w.heap.size) W0 W ∧ W.ownsMap Try.prog 3 (plainElem (H := Unit) Try.prog 3) w.heap.size pre.length (bkD pre)) ∧ Below w.heap.size w W)
    (fun _ _ _ => False)
    (OwnFrom.and (fun s X Y row hs hg hr => ⟨hs.1.grown hg (fun k e => by have := (hr k e).1; omega), hs.2.kept hg (fun e => by have := (hr _ e.symm).1; omega)⟩) (ownFrom_below (Nat.le_refl _) (by omega)))
    (fun _ _ _ _ _ hs _ _ => hs)
    ⟨⟨Kb.refl _ _, hm0⟩, hB0⟩
    (fun x a' W => ∃ Bx, w.heap.size + 3 ≤ Bx ∧ W.heap[Bx]? = some (.cells #[.int .i64 x.2.1.1, .int .i64 x.2.1.2] 34 (0, 0)) ∧ a' = {
      tmps := #[.pointer (some ⟨lb, 0, none⟩), undef, .slice none 0 0, .pointer (some ⟨w.heap.size + 1, 0, none⟩), undef, .pointer (some ⟨Bx, 0, none⟩), undef, undef, undef,
          .map (some w.heap.size), .pointer (some ⟨lb, 0, none⟩), .pointer (some ⟨lb, 0, none⟩), .pointer (some ⟨lb, 0, none⟩), .slice A xs.length cap,
          .func (.func 23) #[] #[.pointer (some ⟨w.heap.size + 1 + 1, 0, none⟩)], .int .i64 (x.1 : Int), .agg #[.int .i64 x.2.1.1, .int .i64 x.2.1.2],
          undef, undef, undef, undef, undef, undef, undef, undef, undef, undef, undef, undef, undef, undef, undef, undef, undef, undef, undef, undef, undef, undef, undef],
      defers := [] })
    (fun x a' s X Y row hs hg hr => by
      obtain ⟨Bx, h1, h2, h3⟩ := hs
      refine ⟨Bx, h1, (hg.block Bx (blk_lt h2) (fun e => ?_)).trans h2, h3⟩
      obtain ⟨o, ho, hc⟩ := (hr Bx e.symm).2
      rw [h2] at ho; cases ho; cases hc) ?assign ?body ?done ?stop
  case assign =>
    rintro l pre x W K ⟨⟨hk, hown⟩, hB⟩ hK
    have hWs := hk.size
    gi_wp2
    exact hK _ _ ((KeepsOthers.alloc _ _).from _) ((Kb.refl _ W).alloc _) ⟨⟨hk.alloc _, hown.alloc _⟩, hB.alloc hB.size _⟩ ⟨W.heap.size, by omega, heap_alloc_new W _, rfl⟩
  case body =>
    rintro l pre x a' W hl ⟨r, hr⟩ ⟨⟨hk, hown⟩, hB⟩ ⟨Bx, hBx, hbX, rfl⟩ hlt
    have hml : pre.length < maxLen := by unfold maxLen; omega
    have q0 := blk_cell hbX 0
    have q1 := blk_cell hbX 1
    simp only [List.getElem?_toArray, List.getElem?_cons_zero, List.getElem?_cons_succ] at q0 q1
    have hbx' := hk.cell hbx (by show w.heap.size + 1 < w.heap.size + 3 ∧ w.heap.size + 1 ≠ w.heap.size; omega)
    have hkey := Maps.keyOf_int_mk Try.underlying3 x.2.2.1
    have hval := plainElem_int (H := Unit) Try.underlying3 x.2.2.2
    gi_wp2_with (first
      | (gi_at_mapUpdate; refine wpListIn_mapUpdate_own _ rfl _ _ _ 52 rfl 3 3 (Maps.int_keyed Try.underlying3) Try.underlying52 _ w.heap.size pre.length _ rfl hown hml _ _ _ rfl rfl hkey _ [] hval ?_; intro w1 hown1 hgrow1))
    have hr1 : ∀ k, some w.heap.size = some k → ¬ (k < w.heap.size + 3 ∧ k ≠ w.heap.size) := fun k e => by cases e; omega
    exact ⟨KeepsFrom.of_grownBy hgrow1 (fun j e => by cases e; omega), (Kb.refl _ W).grown hgrow1 hr1,
      ⟨⟨hk.grown hgrow1 hr1, by rw [bkD_snoc, List.length_append]; exact hown1⟩, hB.grown hgrow1 hB.size (fun k e => by cases e; exact Nat.le_refl _)⟩⟩
  case done =>
    rintro D ys W hD rfl ⟨⟨hk, hown⟩, hB⟩ hK
    rw [bkD_all, back_length] at hown
    have hWs : w.heap.size + 3 ≤ W.heap.size := by have := hk.size; omega
    have hDs : D < W.heap.size := blk_lt hK
    have hbx' := hk.cell hbx (by show w.heap.size + 1 < w.heap.size + 3 ∧ w.heap.size + 1 ≠ w.heap.size; omega)
    have hms := hown.size_le
    have hmax : Maps.size (putD xs) ≤ maxLen := by unfold maxLen; omega
    have hbytes : Maps.size (putD xs) * 8 ≤ 140737488355328 := by omega
    have hbl := hown.lt
    have hseq : SeqGives Fence.wide 4 Try.prog 26 #[.pointer (some ⟨W.heap.size, 0, none⟩)] encZ (fun ss => ss.Perm (intKeys (putD xs))) (Maps.size (putD xs)) (W.alloc (.cells #[.map (some w.heap.size)] 52)) :=
      AnyZI.keys_gives (ρ := layKEYS_ren) { layKEYS with } Fence.wide _ trivial rfl (by omega) W.heap.size w.heap.size xs.length (putD xs) _ (by simp) (by simp) (hown.alloc _)
    have cK : ∀ mb V, CallsIn Fence.wide 7 Try.prog 22 #[.map mb] V fun e w' => e = .returned (.func (.func 26) #[] #[.pointer (some ⟨V.heap.size, 0, none⟩)]) ∧ w' = V.alloc (.cells #[.map mb] 52) := fun mb V => AnyZI.keys_in layKEYS Fence.wide 7 trivial rfl mb V
    have cS := AnyZI.sorted_in laySORTED Fence.wide 7 trivial trivial trivial trivial rfl (by omega) (sorts _) (enters_of Try.func25 (by kernel_rfl) rfl) 26 #[.pointer (some ⟨W.heap.size, 0, none⟩)] trivial (enters_of Try.func26 (by kernel_rfl) rfl) _ _ hmax hbytes _ hseq
    change CallsIn _ _ Try.prog 21 _ _ _ at cS
    have hfK : Fence.wide.fn 22 := trivial
    have hfS : Fence.wide.fn 21 := trivial
    gi_wp2_with (first
      | (gi_at_call 22; refine (cK _ _).mono ?_; rintro e w' ⟨rfl, rfl⟩)
      | (gi_at_call 21; refine cS.mono ?_; rintro e W2 ⟨v, ss, rfl, hS, hrow, hnil, hb⟩; obtain ⟨ks, A2, c2, rfl, hsk, hfl, hksz⟩ := sorted_row hS hrow; clear hnil hrow hS))
    clear cK cS hseq hfK hfS cB hfB hmm
    obtain ⟨hP, hM⟩ := hsk
    rw [World.size_alloc] at hb
    have hB2 : Below (W.heap.size + 1) (W.alloc (.cells #[.map (some w.heap.size)] 52)) W2 := hb
    have hWW : ∀ k, k < W.heap.size → W2.heap[k]? = W.heap[k]? := fun k h => (hB2.block k (by omega)).trans (Below.heap_alloc W _ k h)
    have hs2 : W.heap.size + 1 ≤ W2.heap.size := by have := hB2.size; simpa using this
    have hBW : Below w.heap.size w W2 := (hB.alloc hB.size _).trans (hB2.mono (by omega))
    have hKW : W2.heap[D]? = some (.deferred (some [])) := (hWW D hDs).trans hK
    have hown2 : W2.ownsMap Try.prog 3 (plainElem (H := Unit) Try.prog 3) w.heap.size xs.length (putD xs) := by
      obtain ⟨es, clock, hb3, Ft, hs3, hD3⟩ := hown
      exact ⟨es, clock, (hWW _ hbl).trans hb3, Ft, hs3, hD3⟩
    have hbx2 : W2.cell? ⟨w.heap.size + 1, 0, none⟩ = some (.map (some w.heap.size)) := by
      rw [World.cell?_of_block (hWW (w.heap.size + 1) (by omega))]; exact hbx'
    have hkl : ks.length ≤ xs.length := by omega
    have hfl2 := hfl.mono (G := fun k => k < W2.heap.size) (fun k h _ => h)
    rw [Nat.mul_one] at hfl2
    clear hWW hB hK hbx' hown hb hB2 hfl
    obtain ⟨i0, hi, hz0, hz1, hz2⟩ := info_parts infoAcc
    gi_loopw [6, 26] (fun v6 v26 wr => ∃ j : Nat, j ≤ ks.length ∧ v26 = .int .i64 j ∧ (∃ A6 c6, v6 = .slice A6 j c6) ∧ wr.ownsRow W2.heap.size 34 2 v6 j ((accInts ((ks.take j).map (firstAt xs))).map (Value.int .i64)) ∧ Below W2.heap.size W2 wr)
      (fun v6 v26 _ => ks.length - (intOf v26).toNat)
    case atStart => exact ⟨0, by omega, rfl, ⟨none, 0, rfl⟩, World.ownsRow_nil _ _ _ _, Below.refl _ _⟩
    case round =>
      obtain ⟨j, hj, rfl, ⟨A6, c6, rfl⟩, hrow6, hBr⟩ := hrel
      by_cases hlt : j < ks.length
      · obtain ⟨ad, rfl, hab, hac⟩ := hfl2.at_ (by omega)
        have k0 := (hBr.cell (p := ad.add j) (by rw [add_blk]; exact hab)).trans (hac j hlt)
        have kb := (hBr.cell (p := ⟨w.heap.size + 1, 0, none⟩) (by show w.heap.size + 1 < W2.heap.size; omega)).trans hbx2
        have hmem : ks.getD j 0 ∈ ks := by rw [List.getD_eq_getElem?_getD, List.getElem?_eq_getElem hlt]; exact List.getElem_mem hlt
        obtain ⟨val, hval⟩ := Option.isSome_iff_exists.1 ((hM _).1 hmem)
        have hfst := firstAt_of hval
        have hsnoc : (ks.take (j + 1)).map (firstAt xs) = (ks.take j).map (firstAt xs) ++ [firstAt xs (ks.getD j 0)] := by
          rw [List.take_add_one, List.getElem?_eq_getElem hlt, List.map_append, List.getD_eq_getElem?_getD, List.getElem?_eq_getElem hlt]; rfl
        have hat0 := putD_at xs (ks.getD j 0) (.lit (.int .i64 0))
        rw [hval] at hat0
        have hwf : (Lit.int .i64 (ks.getD j 0)).wf = true := by
          have := (firstAt xs (ks.getD j 0)).2.1; rw [hfst] at this; exact this
        have HS := Lib.hid hsnoc
        have HF := Lib.hid hfst
        clear hsnoc hfst hac hmem hval
        generalize ks.getD j 0 = a at k0 hat0 hwf HS HF
        have hkey := Maps.keyOf_int_mk Try.underlying3 hwf
        have hownr : wr.ownsMap Try.prog 3 (plainElem (H := Unit) Try.prog 3) w.heap.size xs.length (putD xs) := by
          obtain ⟨es, clock, hb3, Ft, hs3, hD3⟩ := hown2
          exact ⟨es, clock, (hBr.block _ (by omega)).trans hb3, Ft, hs3, hD3⟩
        have hsr := hBr.size
        gi_wp2_with (first
          | (gi_at_lookup; refine wpListIn_lookup_own_int _ rfl _ _ 52 rfl 3 3 .i64 (Maps.int_keyed Try.underlying3) Try.underlying52 Try.underlying3 (Try.zeroValue3 _) w.heap.size xs.length _ rfl hownr _ _ rfl hkey ?_; intro c hat hwc; obtain rfl : c = val := by { have h7 := hat.symm.trans hat0; simp only [Option.elim] at h7; injection h7 with h7; injection h7 })
          | (gi_at_builtin; refine wpListIn_append_own _ rfl _ _ 31 rfl W2.heap.size 34 i0 _ 2 16 Try.underlying31 hi hz0 hz1 hz2 rfl (by decide) (.slice A6 j c6) j _ rfl (hrow6.alloc _) ⟨wr.heap.size, 0, none⟩ 1 1 [.int .i64 a, .int .i64 c] rfl rfl (acc_news (heap_alloc_new wr _)) (by simp [Value.oneCell']) (by unfold maxLen; omega) (by omega) (by simp; omega) ?_; intro v' w1 hown' hgrow _; obtain ⟨g', cap', rfl⟩ := ownsRow_succ hown'))
        go_roundw
        case rel => exact ⟨j + 1, by omega, by go_num, ⟨_, _, rfl⟩, by
            rw [HS.out, accInts_append, List.map_append]
            have e : (accInts [firstAt xs a]).map (Value.int .i64) = [.int .i64 a, .int .i64 c] := by
              show [Value.int .i64 (firstAt xs a).1.1, Value.int .i64 (firstAt xs a).1.2] = _
              rw [HF.out]
            rw [e]; exact hown', (hBr.alloc hBr.size _).grown hgrow (by simp; omega) (fun k e => (hrow6.lt k e).1)⟩
        case measure => simp [intOf]; omega
      · obtain rfl : j = ks.length := by omega
        gi_wp2
        have hKr : wr.heap[D]? = some (.deferred (some [])) := (hBr.block D (by omega)).trans hKW
        refine ⟨by simp, .inl ⟨_, _, rfl, run_takeDeferred hKr, ?_⟩⟩
        refine ⟨_, results_tmp rfl _ _ _, _, ks.map (firstAt xs), rfl, firsts_of hP hM, ?_, ?_⟩
        · rw [List.take_of_length_le (Nat.le_refl _)] at hrow6
          rw [List.length_map]
          exact ownsRow_base (ownsRow_putObj hrow6 _ hKr rfl) (by omega)
        · exact (hBW.trans (hBr.mono (by omega))).trans (belowK_b (w := w) (Nat.le_refl _) wr D _ _ (by omega) hKr rfl rfl)
  case stop =>
    rintro D c pre W _ _ h _
    exact h.elim
end Go.Proofs.Ytoickikfojpgaaa
