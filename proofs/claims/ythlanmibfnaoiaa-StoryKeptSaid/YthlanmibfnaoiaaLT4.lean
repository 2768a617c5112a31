/- ltklaw16.StoryKept: no events; all ways joined. -/
import Derived.Test.YthlanmibfnaoiaaLT3
namespace Go.Proofs.Ythlanmibfnaoiaa
open Go.RowKit

set_option maxRecDepth 100000 in
set_option maxHeartbeats 8000000 in
theorem kept_nil (A : Option Addr) (c : Nat) (w : World) (h : EvsAt w (fun _ => True) (.slice A 0 c) []) :
    Calls Try.prog 5 #[.slice A 0 c] w fun e w' => e = .returned (.bool true) ∧ Fr (fun _ => False) w w' := by
  have HEV := Lib.hid (fun w' (hf : Fr (fun _ => False) w w') => (h.mono (G := fun k => k < w.heap.size) (fun k hk _ => hk)).frame hf (fun _ _ x => x.elim))
  have hsm : Smalls [] := ⟨by simp, fun e he => by cases he⟩
  have HSM := Lib.hid hsm
  have HF := Lib.hid (fun w' (hf : Fr (fun _ => False) w w') => few16_calls _ [] _ w' (h.frame hf (fun _ _ x => x.elim)))
  rw [show fewB [] = true from by decide] at HF
  have hk := Fr.refl (fun _ => False) w
  have T1 := Lib.hid trivial
  have T2 := Lib.hid trivial
  clear hsm h
  go_enter Try.func5, Try.ntmps5
  go_upto_region 9 with (first
    | (go_at_call 8
       (with_reducible refine (first16_calls _).mono ?_)
       rintro ex w1 ⟨rfl, hf⟩
       replace hk := hk.trans hf
       clear hf)
    | (go_at_call 9
       (with_reducible refine (HF.out _ hk).mono ?_)
       rintro ex w2 ⟨rfl, hf⟩
       replace hk := hk.trans hf
       clear hf)
    | (go_at_call 10
       clear T1
       (with_reducible refine (storyNew_calls _).mono ?_)
       rintro ex w3 ⟨rfl, hs3, hf, hz3⟩
       have hsz := hk.size
       replace hk := hk.trans hf
       have HS0 := Lib.hid hs3
       have HSZ := Lib.hid (And.intro hsz hz3)
       clear hf hs3 hz3 hsz)
    | (go_at_call 10
       (with_reducible refine (storyNew_calls _).mono ?_)
       rintro ex w4 ⟨rfl, hs4, hf, hz4⟩
       have hsz := hk.size
       replace hk := hk.trans hf
       have HS1 := Lib.hid (HS0.out.frame hf (fun x => x) (fun _ _ x => x.elim))
       have HT1 := Lib.hid hs4
       have HTZ := Lib.hid (And.intro hsz hz4)
       clear hf hs4 hz4 hsz HS0))
  have HK := Lib.hid hk
  clear hk HF
  go_wp2
  go_loopw [5, 6] (fun v5 v6 wr => v5 = .slice none 0 0 ∧ v6 = .int .i64 0 ∧ wr = w4) (fun _ _ _ => 0)
  case atStart => exact ⟨rfl, rfl, rfl⟩
  case round =>
    obtain ⟨rfl, rfl, hw⟩ := hrel
    subst hw
    rename World => w4
    have hsz4 := HTZ.out
    have hszA := HSZ.out
    have HA1 := Lib.hid (storyAdd_calls w2.heap.size _ (.slice none 0 0) [] [] _ (fun _ => False) w4 HS1.out (EvsAt.nil _ _) (by simp) HSM.out)
    have hk := HK.out
    have hlo := hk.size
    go_upto_region 15 with (first
      | (go_at_call 11
         clear T2
         (with_reducible refine HA1.out.mono ?_)
         rintro ex wA ⟨rfl, ⟨vs, hs5⟩, hfA⟩
         have HSA := Lib.hid (show StoryAt wA _ (fun k => w4.heap.size ≤ k) vs [] from hs5.mono (G := fun k => w4.heap.size ≤ k) (fun k _ x => by rcases x with x | x; exact x.2.elim; exact x) (by omega))
         have HTA := Lib.hid (HT1.out.frame hfA (fun x => by omega) (fun _ x _ => x.elim))
         have HKA := Lib.hid (hk.trans' hfA (fun k x y => by omega))
         have HWA := Lib.hid hfA.size
         clear hs5 hfA)
      | (go_at_call 11
         (with_reducible refine (storyAdd_calls _ _ _ [] [] _ _ _ HTA.out (HEV.out _ HKA.out) (by simp) HSM.out).mono ?_)
         rintro ex wB ⟨rfl, ⟨vt, ht5⟩, hfB⟩
         have HTB := Lib.hid (show StoryAt wB _ (fun k => w4.heap.size ≤ k) vt [] from ht5.mono (G := fun k => w4.heap.size ≤ k) (fun k _ x => by rcases x with x | x; exact x.2.elim; exact Nat.le_trans HWA.out x) (by omega))
         have HSB := Lib.hid (HSA.out.frame hfB (fun x => by omega) (fun k x y => by omega))
         have HKB := Lib.hid (HKA.out.trans' hfB (fun k x y => by omega))
         clear ht5 hfB))
    clear HTA HSA HKA HWA HA1 hk
    have HWS := Lib.hid (And.intro hlo (And.intro hsz4 hszA))
    clear hlo hsz4 hszA
    go_wp2
    go_loopw [7] (fun v7 wx => v7 = .int .i64 0 ∧ wx = wB) (fun _ _ => 0)
    case atStart => exact ⟨rfl, rfl⟩
    case round =>
      obtain ⟨rfl, hw⟩ := hrel
      subst hw
      rename World => wB
      go_upto_region 22 with (first
        | (go_at_call 15
           (with_reducible refine (storyAll_calls _ _ _ _ _ HSB.out HSM.out).mono ?_)
           rintro ex wD ⟨v8, rfl, ho, hfD⟩
           have hsh := ho.shape
           simp only [List.length_nil] at hsh
           obtain ⟨A8, c8, rfl⟩ := hsh
           have HSD := Lib.hid (HSB.out.frame hfD (fun x => x) (fun _ _ x => x.elim))
           have HTD := Lib.hid (HTB.out.frame hfD (fun x => x) (fun _ _ x => x.elim))
           have HKD := Lib.hid (HKB.out.trans hfD)
           clear ho hfD))
      go_wp2
      go_loopw [9] (fun v9 wy => v9 = .int .i64 0 ∧ wy = wD) (fun _ _ => 0)
      case atStart => exact ⟨rfl, rfl⟩
      case round =>
        obtain ⟨rfl, hw⟩ := hrel
        subst hw
        rename World => wD
        have HSZ' := Lib.hid (fun w' (hf' : Fr (fun _ => False) wD w') => HSD.out.frame hf' (fun x => x) (fun _ _ x => x.elim))
        have HTZ' := Lib.hid (fun w' (hf' : Fr (fun _ => False) wD w') => HTD.out.frame hf' (fun x => x) (fun _ _ x => x.elim))
        have hky := Fr.refl (fun _ => False) wD
        have T3 := Lib.hid trivial
        have T4 := Lib.hid trivial
        go_wp2_with (first
          | (go_at_call 8
             (with_reducible refine (first16_calls _).mono ?_)
             rintro ex y1 ⟨rfl, hf⟩
             replace hky := hky.trans hf
             clear hf)
          | (go_at_call 15
             clear T3
             (with_reducible refine (storyAll_calls _ _ _ _ _ (HSZ'.out _ hky) HSM.out).mono ?_)
             rintro ex y2 ⟨v2, rfl, ho, hf⟩
             have HO1 := Lib.hid (ho.at_ (fun _ x => x))
             have hsh := ho.shape
             simp only [List.length_nil] at hsh
             obtain ⟨A5, c5, rfl⟩ := hsh
             replace hky := hky.trans hf
             have h2y := Fr.refl (fun _ => False) y2
             clear hf ho)
          | (go_at_call 15
             (with_reducible refine (storyAll_calls _ _ _ _ _ (HTZ'.out _ hky) HSM.out).mono ?_)
             rintro ex y3 ⟨v3, rfl, ho, hf⟩
             have HO2 := Lib.hid (ho.at_ (fun _ x => x))
             have hsh := ho.shape
             simp only [List.length_nil] at hsh
             obtain ⟨A6, c6, rfl⟩ := hsh
             replace hky := hky.trans hf
             replace h2y := h2y.trans hf
             clear hf ho)
          | (go_at_call 13
             clear T4
             (with_reducible refine (sameEvents_eq _ _ [] _ _ _ (HO1.out.frame h2y (fun _ _ x => x.elim)) HO2.out HSM.out).mono ?_)
             rintro ex y4 ⟨rfl, hf⟩
             replace hky := hky.trans hf
             clear hf)
          | (go_at_call 15
             (with_reducible refine (storyAll_calls _ _ _ _ _ (HSZ'.out _ hky) HSM.out).mono ?_)
             rintro ex y5 ⟨v5, rfl, ho, hf⟩
             have HO3 := Lib.hid (ho.at_ (fun _ x => x))
             have hsh := ho.shape
             simp only [List.length_nil] at hsh
             obtain ⟨A7, c7, rfl⟩ := hsh
             replace hky := hky.trans hf
             clear hf ho)
          | (go_at_call 13
             (with_reducible refine (sameEvents_eq _ _ [] _ _ _ HO3.out (HEV.out _ (HKD.out.trans hky)) HSM.out).mono ?_)
             rintro ex y6 ⟨rfl, hf⟩
             replace hky := hky.trans hf
             clear hf))
        go_ret
        exact ⟨by simp, HKD.out.trans hky⟩

theorem kept_walk (A : Option Addr) (n c : Nat) (es : List Ev) (w : World) (h : EvsAt w (fun _ => True) (.slice A n c) es) :
    Calls Try.prog 5 #[.slice A n c] w fun e w' => e = .returned (.bool true) ∧ Fr (fun _ => False) w w' := by
  cases hb : fewB es with
  | false => exact kept_many A n c es w h hb
  | true =>
    by_cases h0 : 0 < n
    · obtain ⟨A', c', cs, e, _, _, _, h5, _⟩ := h.ex
      cases e
      obtain ⟨ad, rfl, _⟩ := h5 h0
      exact kept_go ad _ c es w h hb h0
    · have hn : n = es.length := by obtain ⟨A', c', cs, e, _⟩ := h.ex; cases e; rfl
      obtain rfl : n = 0 := by omega
      obtain rfl : es = [] := List.length_eq_zero_iff.1 hn.symm
      exact kept_nil A c w h
end Go.Proofs.Ythlanmibfnaoiaa
