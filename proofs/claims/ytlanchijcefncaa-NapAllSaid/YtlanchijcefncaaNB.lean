/- nap.Watch. -/
import Derived.Test.YtlanchijcefncaaNA
namespace Go.Proofs.Ytlanchijcefncaa
open Go.RowKit Go.Shelf Go.Maps
attribute [local go_sem] Oper.semAt_some

theorem ownsRow_succA {w : World} {B : Nat} {T : TypeId} {k n : Nat} {v : Value} {xs : List Value} (h : w.ownsRow B T k v (n + 1) xs) : ∃ g c, v = .slice (some ⟨g, 0, none⟩) (n + 1) c := by
  rcases h.2 with ⟨_, h0⟩ | ⟨g, cap, cur, rfl, _⟩
  · omega
  · exact ⟨g, cap, rfl⟩
theorem sorted_row {xs : List Acc} {ss : List Int} {W : World} {B : Nat} {T : TypeId} {v : Value} (hS : ss.Perm (intKeys (putD xs))) (hrow : W.ownsRow B T 1 v ss.length ((ss.mergeSort fun x y => decide (x ≤ y)).map encZ)) :
    ∃ ks A c, v = .slice A (List.length ks) c ∧ (List.Pairwise (· < ·) ks ∧ ∀ a, a ∈ ks ↔ (valOf xs a).isSome = true) ∧ Flat W (fun k => B ≤ k) A (ks.length * 1) ks ∧ ks.length = Maps.size (putD xs) := by
  have hl : (ss.mergeSort leI).length = ss.length := List.length_mergeSort ..
  rw [← hl] at hrow
  obtain ⟨A, c, hv, hf⟩ := Flat.ofOwn hrow
  obtain ⟨es, he⟩ := putD_isMap xs
  have h2 := hS.length_eq
  rw [he] at h2
  exact ⟨ss.mergeSort leI, A, c, hv, sorted_keys hS, hf, by rw [hl, h2, he]; simp [intKeys, Maps.size]⟩

set_option maxRecDepth 100000 in
set_option maxHeartbeats 4000000 in
theorem watch_calls (nb mb nn B : Nat) (D : DataW Unit) (S : List NapE) (p : NapE) (w : World) (h : NapAt w B nb mb nn D S) (hp : p ∈ S) (hlen : p.2.2.length ≤ 20000) :
    Calls Try.prog 19 #[.pointer (some ⟨nb, 0, none⟩), .int .i64 p.1] w fun e w' => ∃ v out, e = .returned v ∧ IsFirsts p.2.2 out ∧ OwnAcc w' w.heap.size v out ∧ Below w.heap.size w w' := by
  refine (callsIn_wide (n := 8)).1 ?_
  obtain ⟨a, b, xs⟩ := p
  dsimp only at hlen ⊢
  have hwf := h.wf _ hp
  have c0 := blk_cell h.blk 0
  simp only [List.getElem?_toArray, List.getElem?_cons_zero] at c0
  have hll := blk_lt h.blk
  have hl1 := h.look hp
  have hown := h.inn _ hp
  dsimp only at hwf hl1 hown
  have hms := hown.size_le
  have hmax : Maps.size (putD xs) ≤ maxLen := by unfold maxLen; omega
  have hbytes : Maps.size (putD xs) * 8 ≤ 140737488355328 := by omega
  have hbl := hown.lt
  have hseq : SeqGives Fence.wide 4 Try.prog 31 #[.pointer (some ⟨w.heap.size, 0, none⟩)] encZ (fun ss => ss.Perm (intKeys (putD xs))) (Maps.size (putD xs)) (w.alloc (.cells #[.map (some b)] 49)) :=
    AnyZI.keys_gives (ρ := layKEYS_ren) { layKEYS with } Fence.wide _ trivial rfl (by omega) w.heap.size b xs.length (putD xs) _ (by simp) (by simp) (hown.alloc _)
  have cK : ∀ mb V, CallsIn Fence.wide 7 Try.prog 26 #[.map mb] V fun e w' => e = .returned (.func (.func 31) #[] #[.pointer (some ⟨V.heap.size, 0, none⟩)]) ∧ w' = V.alloc (.cells #[.map mb] 49) := fun mb V => AnyZI.keys_in layKEYS Fence.wide 7 trivial rfl mb V
  have cS := AnyZI.sorted_in laySORTED Fence.wide 7 trivial trivial trivial trivial rfl (by omega) (sorts _) (enters_of Try.func29 (by kernel_rfl) rfl) 31 #[.pointer (some ⟨w.heap.size, 0, none⟩)] trivial (enters_of Try.func31 (by kernel_rfl) rfl) _ _ hmax hbytes _ hseq
  change CallsIn _ _ Try.prog 23 _ _ _ at cS
  have hfK : Fence.wide.fn 26 := trivial
  have hfS : Fence.wide.fn 23 := trivial
  have HN := Lib.hid h
  have HP := Lib.hid hp
  clear h hp hseq hown
  refine callsIn_of_wp Try.func19 rfl trivial ?_ rfl
  simp only [Try.ntmps19, List.size_toArray, List.length_cons, List.length_nil, Nat.reduceAdd, Nat.reduceSub, Array.replicate_succ, Array.replicate_zero, List.push_toArray, List.append_toArray, List.nil_append, List.cons_append]
  gi_wp2_with (first
    | (gi_at_lookup; refine wpli_look _ rfl _ _ _ _ rfl (.map (some mb)) (.int .i64 a) _ rfl rfl hl1 ?_)
    | (gi_at_call 26; refine (cK _ _).mono ?_; rintro e w' ⟨rfl, rfl⟩)
    | (gi_at_call 23; refine cS.mono ?_; rintro e W2 ⟨v, ss, rfl, hS, hrow, hnil, hb⟩; obtain ⟨ks, A2, c2, rfl, hsk, hfl, hksz⟩ := sorted_row hS hrow; clear hnil hrow hS))
  clear cK cS hfK hfS hl1 c0
  obtain ⟨hPr, hM⟩ := hsk
  rw [World.size_alloc] at hb
  have hBW : Below w.heap.size w W2 := ((Below.refl _ w).alloc (Nat.le_refl _) _).trans (hb.mono (by omega))
  have hN2 := HN.out.frameF (Fr.ofBelow hBW (fun _ => False))
  have hs2 := hBW.size
  have hkl : ks.length ≤ xs.length := by omega
  have hfl2 := hfl.mono (G := fun k => k < W2.heap.size) (fun k h _ => h)
  rw [Nat.mul_one] at hfl2
  have HN2 := Lib.hid hN2
  have HBW := Lib.hid hBW
  clear hb hfl hN2 hBW
  obtain ⟨i0, hi, hz0, hz1, hz2⟩ := info_parts infoAcc
  gi_loopw [5, 17] (fun v5 v17 wr => ∃ j : Nat, j ≤ ks.length ∧ v17 = .int .i64 j ∧ (∃ A6 c6, v5 = .slice A6 j c6) ∧ wr.ownsRow W2.heap.size 27 2 v5 j ((accInts ((ks.take j).map (firstAt xs))).map (Value.int .i64)) ∧ Below W2.heap.size W2 wr)
    (fun v5 v17 _ => ks.length - (intOf v17).toNat)
  case atStart => exact ⟨0, by omega, rfl, ⟨none, 0, rfl⟩, World.ownsRow_nil _ _ _ _, Below.refl _ _⟩
  case round =>
    obtain ⟨j, hj, rfl, ⟨A6, c6, rfl⟩, hrow6, hBr⟩ := hrel
    by_cases hlt : j < ks.length
    · obtain ⟨ad, rfl, hab, hac⟩ := hfl2.at_ (by omega)
      have k0 := (hBr.cell (p := ad.add j) (by rw [add_blk]; exact hab)).trans (hac j hlt)
      have hNr := HN2.out.frameF (Fr.ofBelow hBr (fun _ => False))
      have kb := blk_cell hNr.blk 0
      simp only [List.getElem?_toArray, List.getElem?_cons_zero] at kb
      have hlr := hNr.look HP.out
      have hownr := hNr.inn _ HP.out
      dsimp only at hlr hownr
      have hmem : ks.getD j 0 ∈ ks := by rw [List.getD_eq_getElem?_getD, List.getElem?_eq_getElem hlt]; exact List.getElem_mem hlt
      obtain ⟨val, hval⟩ := Option.isSome_iff_exists.1 ((hM _).1 hmem)
      have hfst := firstAt_of hval
      have hsnoc : (ks.take (j + 1)).map (firstAt xs) = (ks.take j).map (firstAt xs) ++ [firstAt xs (ks.getD j 0)] := by
        rw [List.take_add_one, List.getElem?_eq_getElem hlt, List.map_append, List.getD_eq_getElem?_getD, List.getElem?_eq_getElem hlt]; rfl
      have hat0 := putD_at xs (ks.getD j 0) (.lit (.int .i64 0))
      rw [hval] at hat0
      have hwf2 : (Lit.int .i64 (ks.getD j 0)).wf = true := by
        have := (firstAt xs (ks.getD j 0)).2.1; rw [hfst] at this; exact this
      have HS := Lib.hid hsnoc
      have HF := Lib.hid hfst
      clear hsnoc hfst hac hmem hval hNr
      generalize ks.getD j 0 = u at k0 hat0 hwf2 HS HF
      have hkey := Maps.keyOf_int_mk Try.underlying3 hwf2
      have hsr := hBr.size
      gi_wp2_with (first
        | (gi_at_lookup; refine wpli_look _ rfl _ _ _ _ rfl (.map (some mb)) (.int .i64 a) _ rfl rfl hlr ?_)
        | (gi_at_lookup; refine wpListIn_lookup_own_int _ rfl _ _ 49 rfl 3 3 .i64 (Maps.int_keyed Try.underlying3) Try.underlying49 Try.underlying3 (Try.zeroValue3 _) b xs.length _ rfl hownr _ _ rfl hkey ?_; intro c hat hwc; obtain rfl : c = val := by { have h7 := hat.symm.trans hat0; simp only [Option.elim] at h7; injection h7 with h7; injection h7 })
        | (gi_at_builtin; refine wpListIn_append_own _ rfl _ _ 38 rfl W2.heap.size 27 i0 _ 2 16 Try.underlying38 hi hz0 hz1 hz2 rfl (by decide) (.slice A6 j c6) j _ rfl (hrow6.alloc _) ⟨wr.heap.size, 0, none⟩ 1 1 [.int .i64 u, .int .i64 c] rfl rfl (acc_news (heap_alloc_new wr _)) (by simp [Value.oneCell']) (by unfold maxLen; omega) (by omega) (by simp; omega) ?_; intro v' w1 hown' hgrow _; obtain ⟨g', cap', rfl⟩ := ownsRow_succA hown'))
      go_roundw
      case rel => exact ⟨j + 1, by omega, by go_num, ⟨_, _, rfl⟩, by
          rw [HS.out, accInts_append, List.map_append]
          have e : (accInts [firstAt xs u]).map (Value.int .i64) = [.int .i64 u, .int .i64 c] := by
            show [Value.int .i64 (firstAt xs u).1.1, Value.int .i64 (firstAt xs u).1.2] = _
            rw [HF.out]
          rw [e]; exact hown', (hBr.alloc hBr.size _).grown hgrow (by simp; omega) (fun k e => (hrow6.lt k e).1)⟩
      case measure => simp [intOf]; omega
    · obtain rfl : j = ks.length := by omega
      gi_wp2
      go_ret
      rw [List.take_length] at hrow6
      exact ⟨_, ks.map (firstAt xs), rfl, firsts_of hPr hM, by unfold OwnAcc; rw [List.length_map]; exact ownsRow_base hrow6 (by omega), HBW.out.trans (hBr.mono (by omega))⟩
end Go.Proofs.Ytlanchijcefncaa
