/- ltklaw16.StoryPlays: no events; all ways joined. -/
import Derived.Test.YthlanmibfnaoiaaLS5
namespace Go.Proofs.Ythlanmibfnaoiaa
open Go.RowKit

set_option maxRecDepth 100000 in
set_option maxHeartbeats 8000000 in
theorem plays_nil (kind : Int) (T : Option Addr) (tn tc : Nat) (ls : List Int) (w : World) (hT : IntsIn w T tn ls) (htn : tn ≤ 100) :
    Calls Try.prog 7 #[.slice none 0 0, .int .i64 0, .int .i64 kind, .slice T tn tc] w fun e w' => e = .returned (.bool true) ∧ Fr (fun _ => False) w w' := by
  have hev : ∀ w', EvsAt w' (fun _ => True) (.slice none 0 0) [] := fun w' => EvsAt.nil w' _
  have HEV := Lib.hid hev
  have hsm : Smalls [] := ⟨by simp, fun e he => by cases he⟩
  have HSM := Lib.hid hsm
  have HF := Lib.hid (fun w' => few16_calls _ [] _ w' (hev w'))
  rw [show fewB [] = true from by decide] at HF
  have HT := Lib.hid (Flat.ofInts hT)
  have d3 : decide ((100 : Int) < tn) = false := by simp; omega
  have htn : tn ≤ 20000 := by omega
  have HTN := Lib.hid htn
  have hk := Fr.refl (fun _ => False) w
  have T1 := Lib.hid trivial
  have T2 := Lib.hid trivial
  have T3 := Lib.hid trivial
  have T5 := Lib.hid trivial
  clear hev hsm hT htn
  go_enter Try.func7, Try.ntmps7
  go_upto_region 11 with (first
    | (go_at_call 8
       (with_reducible refine (first16_calls _).mono ?_)
       rintro ex w1 ⟨rfl, hf⟩
       replace hk := hk.trans hf
       clear hf)
    | (go_at_call 9
       (with_reducible refine (HF.out _).mono ?_)
       rintro ex w2 ⟨rfl, hf⟩
       replace hk := hk.trans hf
       clear hf)
    | (go_at_call 10
       (with_reducible refine (storyNew_calls _).mono ?_)
       rintro ex w3 ⟨rfl, hs3, hf, hz3⟩
       have hsz := hk.size
       replace hk := hk.trans hf
       have HS0 := Lib.hid hs3
       have HSZ := Lib.hid hsz
       clear hf hs3 hz3 hsz)
    | (go_at_call 11
       clear T1
       (with_reducible refine (storyAdd_calls _ _ (.slice none 0 0) _ [] _ (fun _ => True) _ HS0.out (HEV.out _) (by simp) HSM.out).mono ?_)
       rintro ex w4 ⟨rfl, ⟨v4, hs4⟩, hf⟩
       replace hk := hk.trans' hf (fun k x y => by have := HSZ.out; omega)
       have HS1 := Lib.hid hs4
       clear hf hs4)
    | (go_at_call 11
       clear T2
       (with_reducible refine (storyAdd_calls _ _ (.slice none 0 0) _ [] _ (fun _ => True) _ HS1.out (HEV.out _) (by simp) HSM.out).mono ?_)
       rintro ex w5 ⟨rfl, ⟨v5, hs5⟩, hf⟩
       replace hk := hk.trans' hf (fun k x y => by have := HSZ.out; omega)
       have HS2 := Lib.hid hs5
       clear hf hs5)
    | (go_at_call 11
       clear T3
       (with_reducible refine (storyAdd_calls _ _ (.slice none 0 0) _ [] _ (fun _ => True) _ HS2.out (HEV.out _) (by simp) HSM.out).mono ?_)
       rintro ex w6 ⟨rfl, ⟨v6, hs6⟩, hf⟩
       replace hk := hk.trans' hf (fun k x y => by have := HSZ.out; omega)
       have HS3 := Lib.hid (show StoryAt w6 _ _ v6 [] from hs6)
       clear hf hs6))
  have HK := Lib.hid hk
  have HST := Lib.hid (fun w' (hf : Fr (fun _ => False) w6 w') => HS3.out.frame hf (fun x => x) (fun _ _ x => x.elim))
  clear hk HF d3
  go_wp2
  go_loopw [10] (fun v10 wr => v10 = .int .i64 1 ∧ wr = w6) (fun _ _ => 0)
  case atStart => exact ⟨rfl, rfl⟩
  case round =>
    obtain ⟨rfl, rfl⟩ := hrel
    have hk6 := Fr.refl (fun _ => False) wr
    go_wp2_with (first
      | (go_at_call 8
         (with_reducible refine (first16_calls _).mono ?_)
         rintro ex u1 ⟨rfl, hf⟩
         replace hk6 := hk6.trans hf
         clear hf)
      | (go_at_call 16
         (with_reducible refine (storyLen_calls _ _ _ _ _ (HST.out _ hk6)).mono ?_)
         rintro ex u2 ⟨rfl, hf⟩
         replace hk6 := hk6.trans hf
         clear hf)
      | (go_at_call 15
         (with_reducible refine (storyAll_calls _ _ _ _ _ (HST.out _ hk6) HSM.out).mono ?_)
         rintro ex u3 ⟨v3, rfl, ho, hf⟩
         have HO1 := Lib.hid (ho.at_ (fun _ x => x))
         have hsh := ho.shape
         simp only [List.length_nil] at hsh
         obtain ⟨A5, c5, rfl⟩ := hsh
         replace hk6 := hk6.trans hf
         clear hf ho)
      | (go_at_call 13
         clear T5
         (with_reducible refine (sameEvents_eq _ _ [] _ _ _ HO1.out (HEV.out _) HSM.out).mono ?_)
         rintro ex u4 ⟨rfl, hf⟩
         replace hk6 := hk6.trans hf
         clear hf)
      | (go_at_call 12
         (with_reducible refine (storyOf_calls _ _ [] _ _ kind T tn tc ls _ (HST.out _ hk6) HSM.out (HT.out.frame (HK.out.trans hk6) (fun _ _ x => x.elim)) HTN.out).mono ?_)
         rintro ex u5 ⟨v5, rfl, ho, hf⟩
         simp only [List.filter_nil] at ho
         have HO2 := Lib.hid (ho.at_ (fun _ x => x))
         have hsh := ho.shape
         simp only [List.length_nil] at hsh
         obtain ⟨A6, c6, rfl⟩ := hsh
         replace hk6 := hk6.trans hf
         have h5 := Fr.refl (fun _ => False) u5
         clear hf ho)
      | (go_at_call 19
         (with_reducible refine (refOfAny_calls kind T tn tc ls _ _ [] _ _ (HEV.out _) (by simp) (HT.out.frame (HK.out.trans hk6) (fun _ _ x => x.elim)) HTN.out).mono ?_)
         rintro ex u6 ⟨v6', rfl, ho, hf⟩
         simp only [List.filter_nil] at ho
         have HO3 := Lib.hid ((ho.mono (G := fun _ => True) (fun _ _ _ => trivial)).at_ (fun _ _ => trivial))
         have hsh := ho.shape
         simp only [List.length_nil] at hsh
         obtain ⟨A7, c7, rfl⟩ := hsh
         replace hk6 := hk6.trans hf
         replace h5 := h5.trans hf
         clear hf ho)
      | (go_at_call 13
         (with_reducible refine (sameEvents_eq _ _ [] _ _ _ (HO2.out.frame h5 (fun _ _ x => x.elim)) HO3.out HSM.out).mono ?_)
         rintro ex u7 ⟨rfl, hf⟩
         replace hk6 := hk6.trans hf
         clear hf))
    go_ret
    exact ⟨by simp, HK.out.trans hk6⟩

theorem plays_walk (A : Option Addr) (n c : Nat) (es : List Ev) (ct kind : Int) (T : Option Addr) (tn tc : Nat) (ls : List Int) (w : World) (h : EvsAt w (fun _ => True) (.slice A n c) es) (_h1 : (Lit.int .i64 ct).wf = true) (_h2 : (Lit.int .i64 kind).wf = true) (hT : IntsIn w T tn ls) :
    Calls Try.prog 7 #[.slice A n c, .int .i64 ct, .int .i64 kind, .slice T tn tc] w fun e w' => e = .returned (.bool true) ∧ Fr (fun _ => False) w w' := by
  cases hb : fewB es with
  | false => exact plays_many A n c es ct kind T tn tc w h (.inl hb)
  | true =>
    by_cases h3 : ct < 0
    · exact plays_many A n c es ct kind T tn tc w h (.inr (.inl ⟨hb, h3⟩))
    · by_cases h4 : (n : Int) < ct
      · exact plays_many A n c es ct kind T tn tc w h (.inr (.inr (.inl ⟨hb, by omega, h4⟩)))
      · by_cases h5 : 100 < tn
        · exact plays_many A n c es ct kind T tn tc w h (.inr (.inr (.inr ⟨hb, by omega, by omega, h5⟩)))
        · obtain ⟨q, rfl⟩ := Int.eq_ofNat_of_zero_le (show 0 ≤ ct by omega)
          cases A with
          | some ad => exact plays_go ad n c es q kind T tn tc ls w h hT hb (by omega) (by omega)
          | none =>
            obtain ⟨A', c', cs, e, h6, h7, _⟩ := h.ex
            cases e
            have hc := h7 rfl
            subst hc
            have he : es.length = 0 := by omega
            have hq : q = 0 := by omega
            rw [he, hq]
            exact plays_nil kind T tn tc ls w hT (by omega)
end Go.Proofs.Ythlanmibfnaoiaa
