/- nap.Changed. -/
import Derived.Test.YtlanchijcefncaaNC
namespace Go.Proofs.Ytlanchijcefncaa
open Go.RowKit Go.Shelf Go.Maps

abbrev OwnInts (w : World) (B : Nat) (v : Value) (zs : List Int) : Prop := w.ownsRow B 3 1 v zs.length (zs.map (Value.int .i64))
theorem one_news {w : World} {b : Nat} {a : Int} {T : TypeId} (h : w.heap[b]? = some (.cells #[.int .i64 a] T (0, 0))) : ∀ j u, ([.int .i64 a] : List Value)[j]? = some u → w.cell? ((⟨b, 0, none⟩ : Addr).add j) = some u := by
  intro j u hj
  have : j < 1 := (List.getElem?_eq_some_iff.1 hj).1
  obtain rfl : j = 0 := by omega
  have h1 : (Addr.mk b 0 none).add 0 = ⟨b, 0, none⟩ := by unfold Addr.add; simp
  rw [h1, blk_cell h]; exact hj

set_option maxRecDepth 100000 in
set_option maxHeartbeats 4000000 in
theorem changed_calls (nb mb nn B : Nat) (D : DataW Unit) (S : List NapE) (a v : Int) (w : World) (h : NapAt w B nb mb nn D S) (ha : (Lit.int .i64 a).wf = true) (hs : S.length ≤ 20000) :
    Calls Try.prog 11 #[.pointer (some ⟨nb, 0, none⟩), .int .i64 a, .int .i64 v] w fun e w' =>
      ∃ A c D', e = .returned (.slice A (WJ a v S S.length).length c) ∧ Flat w' (fun k => w.heap.size ≤ k) A (WJ a v S S.length).length (WJ a v S S.length) ∧ NapAt w' B nb mb nn D' (SJ a v S S.length) ∧ Fr (fun k => k = mb) w w' := by
  have cA := all_calls nb mb nn B D S w h
  go_enter Try.func11, Try.ntmps11
  go_wp2_with (go_at_call 10; (with_reducible refine cA.mono ?_); rintro e w1 ⟨A0, c0, rfl, hl0, hb0⟩)
  have hf0 := Fr.ofBelow hb0 (fun _ => False)
  have h1 := h.frameF hf0
  have hsz0 := hb0.size
  have hr := h.rise
  have HL0 := Lib.hid hl0
  have H1 := Lib.hid h1
  have hmbl := h.own.lt
  have hnbl := blk_lt h.blk
  have hinl := fun p hp => (h.inn p hp).lt
  have HIN := Lib.hid hinl
  clear cA hb0 hl0 h1 hinl
  go_loopw [7, 9, 10, 11, 15] (fun v7 _ _ _ v15 wr => ∃ (j : Nat) (Dj : DataW Unit), j ≤ S.length ∧ v15 = .int .i64 j ∧ (∃ A7 c7, v7 = .slice A7 (WJ a v S j).length c7) ∧ OwnInts wr w1.heap.size v7 (WJ a v S j) ∧ NapAt wr B nb mb nn Dj (SJ a v S j) ∧ Fr (fun k => k = mb) w1 wr)
    (fun _ _ _ _ v15 _ => S.length - (intOf v15).toNat)
  case atStart => exact ⟨0, D, by omega, rfl, ⟨none, 0, rfl⟩, World.ownsRow_nil _ _ _ _, by rw [SJ_zero]; exact H1.out, Fr.refl _ _⟩
  case round =>
    obtain ⟨j, Dj, hj, rfl, ⟨A7, c7, rfl⟩, ho7, hN, hfj⟩ := hrel
    by_cases hlt : j < S.length
    · obtain ⟨p, hp⟩ : ∃ p, S[j]? = some p := ⟨_, List.getElem?_eq_getElem hlt⟩
      obtain ⟨ad, rfl, hab, hac⟩ := HL0.out.at_ (by omega)
      have k0 := hac j hlt
      rw [List.getD_eq_getElem?_getD, List.getElem?_map, hp] at k0
      have k1 := hfj.cell k0 (by rw [add_blk]; omega)
      simp only [Option.map_some, Option.getD_some] at k1
      have hm := mem_SJ (a := a) (v := v) hp
      have kb := blk_cell hN.blk 0
      simp only [List.getElem?_toArray, List.getElem?_cons_zero] at kb
      have hlk := hN.look hm
      have hin := hN.inn p hm
      have hlk2 := hin.lookOk ha
      have hwf := hN.wf p hm
      have HP := Lib.hid hp
      have HSN := Lib.hid hN
      clear k0 hac hm hin hN hp
      obtain ⟨who, b, xs⟩ := p
      dsimp only at k1 hlk hlk2 hwf
      cases hval : valOf xs a with
      | none =>
        have hw : woke a v (who, b, xs) = false := by unfold woke; rw [hval]; rfl
        rw [hval] at hlk2
        simp only [Option.getD_none, Option.isSome_none] at hlk2
        have HS := Lib.hid (And.intro (SJ_keep HP.out hw) (WJ_keep HP.out hw))
        clear hw hval
        go_wp2_with (first
          | (at_lookup; refine wpl_look _ rfl _ _ _ _ rfl (.map (some mb)) (.int .i64 who) _ rfl rfl hlk ?_)
          | (at_lookup; refine wpl_look _ rfl _ _ _ _ rfl (.map (some b)) (.int .i64 a) _ rfl rfl hlk2 ?_))
        go_roundw
        case rel => exact ⟨j + 1, Dj, by omega, by go_num, ⟨A7, c7, by rw [HS.out.2]⟩, by rw [HS.out.2]; exact ho7, by rw [HS.out.1]; exact HSN.out, hfj⟩
        case measure => simp [intOf]; omega
      | some u =>
        rw [hval] at hlk2
        simp only [Option.getD_some, Option.isSome_some] at hlk2
        by_cases huv : u = v
        · have hw : woke a v (who, b, xs) = false := by unfold woke; rw [hval]; simp [huv]
          have hne : (u != v) = false := by simp [huv]
          have HS := Lib.hid (And.intro (SJ_keep HP.out hw) (WJ_keep HP.out hw))
          clear hw hval huv
          go_wp2_with (first
            | (at_lookup; refine wpl_look _ rfl _ _ _ _ rfl (.map (some mb)) (.int .i64 who) _ rfl rfl hlk ?_)
            | (at_lookup; refine wpl_look _ rfl _ _ _ _ rfl (.map (some b)) (.int .i64 a) _ rfl rfl hlk2 ?_))
          go_roundw
          case rel => exact ⟨j + 1, Dj, by omega, by go_num, ⟨A7, c7, by rw [HS.out.2]⟩, by rw [HS.out.2]; exact ho7, by rw [HS.out.1]; exact HSN.out, hfj⟩
          case measure => simp [intOf]; omega
        · have hw : woke a v (who, b, xs) = true := by unfold woke; rw [hval]; simp [huv]
          have hne : (u != v) = true := by simp [huv]
          have HS := Lib.hid (And.intro (SJ_del hr HP.out hw) (WJ_add HP.out hw))
          have hwl : (WJ a v S j).length ≤ 20000 := by unfold WJ; rw [List.length_map]; exact Nat.le_trans (List.length_filter_le _ _) (by rw [List.length_take]; omega)
          obtain ⟨i0, hi, hz0, hz1, hz2⟩ := info_parts infoInt
          have hszj := hfj.size
          clear hw hval huv
          go_wp2_with (first
            | (at_lookup; refine wpl_look _ rfl _ _ _ _ rfl (.map (some mb)) (.int .i64 who) _ rfl rfl hlk ?_)
            | (at_lookup; refine wpl_look _ rfl _ _ _ _ rfl (.map (some b)) (.int .i64 a) _ rfl rfl hlk2 ?_)
            | (at_delete; refine wpList_delete_own _ rfl _ _ 46 3 rfl 49 keyedI Try.underlying46 _ mb nn Dj rfl HSN.out.own _ _ rfl (keyI hwf) ?_; intro w2 hown2 hturn2; have ho2 := ownsRow_frame ho7 (Fr.turned hturn2) (fun g hg e => by { have := (World.ownsRow.lt ho7 g hg).1; omega }); have hN2 := HSN.out.del who hown2 hturn2; have hf2 := hfj.trans (Fr.turned hturn2); have kb2 := blk_cell hN2.blk 0; simp only [List.getElem?_toArray, List.getElem?_cons_zero] at kb2)
            | (at_builtin; refine wpList_append_own _ rfl _ _ 28 rfl w1.heap.size 3 i0 _ 1 8 Try.underlying28 hi hz0 hz1 hz2 rfl (by decide) (.slice A7 (WJ a v S j).length c7) (WJ a v S j).length _ rfl (World.ownsRow.alloc ho2 _) ⟨w2.heap.size, 0, none⟩ 1 1 [.int .i64 who] rfl rfl (one_news (heap_alloc_new w2 _)) (by simp [Value.oneCell']) (by unfold maxLen; omega) (by omega) (by have := hf2.size; simp; omega) ?_; intro v' w3 hown3 hgrow3 _; obtain ⟨g', cap', rfl⟩ := ownsRow_succA hown3))
          have hf3 : Fr (fun k => k = mb) w1 w3 := (hf2.alloc _).trans' (S := fun k => k = mb) (T := fun k => (Value.slice A7 (WJ a v S j).length c7).ownBlock = some k) ⟨hgrow3.os, hgrow3.tape, hgrow3.output, hgrow3.size, fun k hk hs => hgrow3.block k hk (fun e => hs e.symm)⟩ (fun k hk hl => by have := (World.ownsRow.lt ho2 k hk).1; omega)
          go_roundw
          case rel => exact ⟨j + 1, _, by omega, by go_num, ⟨_, _, by rw [HS.out.2, List.length_append]; rfl⟩, by unfold OwnInts; rw [HS.out.2, List.length_append, List.map_append]; exact hown3, by
              rw [HS.out.1]
              refine (hN2.frameF ((Fr.refl (fun _ => False) w2).alloc _)).frame (T := fun k => (Value.slice A7 (WJ a v S j).length c7).ownBlock = some k) ⟨hgrow3.os, hgrow3.tape, hgrow3.output, hgrow3.size, fun k hk hs => hgrow3.block k hk (fun e => hs e.symm)⟩ (fun e => ?_) (fun e => ?_) (fun p hp e => ?_)
              · have := (World.ownsRow.lt ho2 _ e).1; omega
              · have := (World.ownsRow.lt ho2 _ e).1; omega
              · have h5 := (World.ownsRow.lt ho2 _ e).1
                have h6 := HIN.out p ((List.mem_append.1 (List.mem_filter.1 hp).1).elim (fun h => List.mem_of_mem_take (List.mem_filter.1 h).1) (fun h => List.mem_of_mem_drop h))
                omega, hf3⟩
          case measure => simp [intOf]; omega
    · obtain rfl : j = S.length := by omega
      go_wp2
      go_ret
      obtain ⟨A8, c8, e8, hf8⟩ := Flat.ofOwn ho7
      cases e8
      rw [Nat.mul_one] at hf8
      exact ⟨A7, c7, Dj, rfl, hf8.mono (fun k _ hk => by omega), hN, (hf0.mono (fun _ x => x.elim)).trans hfj⟩
end Go.Proofs.Ytlanchijcefncaa
