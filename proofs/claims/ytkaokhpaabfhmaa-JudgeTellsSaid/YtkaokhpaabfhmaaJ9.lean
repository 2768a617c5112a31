/- ltklaw20.JudgeTells answers true. -/
import Derived.Test.YtkaokhpaabfhmaaJ8
import Derived.Test.YtkaokhpaabfhmaaJA6
import Derived.Test.YtkaokhpaabfhmaaJ7
import Derived.Deep.RegionHeld3
namespace Go.Proofs.Ytkaokhpaabfhmaa
open Go.RowKit

def serAll (c : Conf) (hn : Nat) (ts : Thr) (heap : List Int) (es : List Ev) : List Int × Int := if (hn : Int) = c.words then serJ c ts heap (es.filter Keep2) else ([], 1)
theorem serJ_len (c : Conf) (ts : Thr) : ∀ (es : List Ev) (h : List Int), h.length ≤ 20000 → (serJ c ts h es).1.length ≤ 20000
  | [], h, hl => by unfold serJ; exact hl
  | e :: es, h, hl => by
    unfold serJ
    split
    · simp
    · split
      · simp
      · exact serJ_len c ts es _ (res_smallJ c h _ hl).2.2.2
theorem serAll_len {c : Conf} {hn : Nat} {ts : Thr} {heap : List Int} {es : List Ev} (h : heap.length ≤ 20000) : (serAll c hn ts heap es).1.length ≤ 20000 := by
  unfold serAll
  split
  · exact serJ_len c ts _ _ h
  · simp
theorem serialAll_calls (c : Conf) (H : Option Addr) (hn hcap : Nat) (heap : List Int) (T : Option Addr) (tn tc : Nat) (ts : Thr) (u : Value) (es : List Ev) (F G GT : Nat → Prop) (w : World) (hh : Flat w F H hn heap) (hi : ∀ y ∈ heap, I64 y) (h2 : hn ≤ 20000) (ht : ThrAt w GT T tn ts) (hst : ShortT ts) (hu : EvsAt w G u es) (hs : Smalls es) :
    Calls Try.prog 10 #[c.val, .slice H hn hcap, .slice T tn tc, u] w fun e w' => ∃ A' n' c', e = .returned (.tuple #[.slice A' n' c', .int .i64 (serAll c hn ts heap es).2]) ∧ Flat w' (fun k => w.heap.size ≤ k) A' n' (serAll c hn ts heap es).1 ∧ Fr (fun _ => False) w w' := by
  by_cases hw : (hn : Int) = c.words
  · rw [show serAll c hn ts heap es = serJ c ts heap (es.filter Keep2) from if_pos hw]
    exact serial_calls c H hn hcap heap T tn tc ts u es F G GT w hh hi h2 hw ht hst hu hs
  · rw [show serAll c hn ts heap es = ([], 1) from if_neg hw]
    obtain ⟨U, uc, ucs, rfl, _⟩ := id hu.ex
    exact (serialRange_calls c H hn hcap T tn tc U _ uc w hw).mono fun e w' h => ⟨none, 0, 0, h.1, Flat.nil _ _ _, h.2⟩
theorem refSerialAll_calls (c : Conf) (H : Option Addr) (hn hcap : Nat) (heap : List Int) (T : Option Addr) (tn tc : Nat) (ts : Thr) (u : Value) (es : List Ev) (F G GT : Nat → Prop) (w : World) (hh : Flat w F H hn heap) (hi : ∀ y ∈ heap, I64 y) (h2 : hn ≤ 20000) (hHn : H = none → hcap = 0) (ht : ThrAt w GT T tn ts) (hst : ShortT ts) (hu : EvsAt w G u es) (hs : Smalls es) :
    Calls Try.prog 11 #[c.val, .slice H hn hcap, .slice T tn tc, u] w fun e w' => ∃ A' n' c', e = .returned (.tuple #[.slice A' n' c', .int .i64 (serAll c hn ts heap es).2]) ∧ Flat w' (fun k => w.heap.size ≤ k) A' n' (serAll c hn ts heap es).1 ∧ Fr (fun _ => False) w w' := by
  by_cases hw : (hn : Int) = c.words
  · rw [show serAll c hn ts heap es = serJ c ts heap (es.filter Keep2) from if_pos hw]
    exact refSerial_calls c H hn hcap heap T tn tc ts u es F G GT w hh hi h2 hHn hw ht hst hu hs
  · rw [show serAll c hn ts heap es = ([], 1) from if_neg hw]
    obtain ⟨U, uc, ucs, rfl, _⟩ := id hu.ex
    exact (refSerialRange_calls c H hn hcap T tn tc U _ uc w hw).mono fun e w' h => ⟨none, 0, 0, h.1, Flat.nil _ _ _, h.2⟩
theorem intsJ_eq (A1 : Option Addr) (n1 c1 : Nat) (A2 : Option Addr) (n2 c2 : Nat) (xs : List Int) (F G : Nat → Prop) (w : World) (hx : Flat w F A1 n1 xs) (hs : xs.length ≤ 20000) (hy : Flat w G A2 n2 xs) :
    Calls Try.prog 12 #[.slice A1 n1 c1, .slice A2 n2 c2] w fun e w' => e = .returned (.bool true) ∧ Fr (fun _ => False) w w' :=
  (ints_calls A1 n1 c1 A2 n2 c2 xs xs F G w hx (by rw [← hx.len]; exact hs) hy).mono fun _ _ h => ⟨by rw [h.1, decide_eq_true rfl], h.2⟩

set_option maxRecDepth 100000 in
set_option maxHeartbeats 2000000 in
theorem tells_many (c : Conf) (H : Option Addr) (hn hcap : Nat) (T : Option Addr) (tn tc : Nat) (ts : Thr) (u : Value) (es : List Ev) (w : World) (ht : ThrAt w (fun _ => True) T tn ts) (hu : EvsAt w (fun _ => True) u es) (hb : few18 c hn ts = false ∨ (few18 c hn ts = true ∧ fewB es = false)) :
    Calls Try.prog 3 #[c.val, .slice H hn hcap, .slice T tn tc, u] w fun e w' => e = .returned (.bool true) ∧ Fr (fun _ => False) w w' := by
  have HF := Lib.hid (fun w' (hf : Fr (fun _ => False) w w') => few18_calls c H hn hcap T tn tc ts _ w' (ht.frame hf (fun _ _ x => x.elim)))
  have HQ := Lib.hid (fun w' (hf : Fr (fun _ => False) w w') => few16_calls u es _ w' (hu.frame hf (fun _ _ x => x.elim)))
  have HBX := Lib.hid (box_all w c)
  obtain ⟨U, uc, ucs, rfl, _⟩ := id hu.ex
  rcases hb with hb | ⟨hb, hb2⟩
  all_goals
    rw [hb] at HF
    try rw [hb2] at HQ
    clear ht hu hb
    unfold Conf.val at *
    have hk := (Fr.refl (fun _ => False) w).alloc (.cells #[.int .i64 c.r, .int .i64 c.o, .int .i64 c.s, .int .i64 c.wd, .int .i64 c.th, .int .i64 c.sl, .int .i64 c.rg, .int .i64 c.lk, .int .i64 c.un, .int .i64 c.es, .int .i64 c.tk, .int .i64 c.po] 23)
    have hbk := Fr.refl (fun _ => False) (w.alloc (.cells #[.int .i64 c.r, .int .i64 c.o, .int .i64 c.s, .int .i64 c.wd, .int .i64 c.th, .int .i64 c.sl, .int .i64 c.rg, .int .i64 c.lk, .int .i64 c.un, .int .i64 c.es, .int .i64 c.tk, .int .i64 c.po] 23))
    go_enter Try.func3, Try.ntmps3
    go_wp2_with (first
      | (go_at_call 8
         (with_reducible refine (HF.out _ hk).mono ?_)
         rintro ex w2 ⟨rfl, hf⟩
         replace hk := hk.trans hf
         replace hbk := hbk.trans hf
         clear hf
         try (clear c0 c1 c2 c3 c4 c5 c6 c7 c8 c9 c10 c11)
         obtain ⟨c0, c1, c2, c3, c4, c5, c6, c7, c8, c9, c10, c11⟩ := HBX.out _ hbk)
      | (go_at_call 9
         (with_reducible refine (HQ.out _ hk).mono ?_)
         rintro ex w2 ⟨rfl, hf⟩
         replace hk := hk.trans hf
         replace hbk := hbk.trans hf
         clear hf
         try (clear c0 c1 c2 c3 c4 c5 c6 c7 c8 c9 c10 c11)
         obtain ⟨c0, c1, c2, c3, c4, c5, c6, c7, c8, c9, c10, c11⟩ := HBX.out _ hbk)
      | (go_at_call 7
         (with_reducible refine (first20_calls _).mono ?_)
         rintro ex w1 ⟨rfl, hf⟩
         replace hk := hk.trans hf
         replace hbk := hbk.trans hf
         clear hf
         try (clear c0 c1 c2 c3 c4 c5 c6 c7 c8 c9 c10 c11)
         obtain ⟨c0, c1, c2, c3, c4, c5, c6, c7, c8, c9, c10, c11⟩ := HBX.out _ hbk))
    go_ret
    exact ⟨rfl, hk⟩

set_option maxRecDepth 100000 in
set_option maxHeartbeats 8000000 in
theorem tells_few (c : Conf) (H : Option Addr) (hn hcap : Nat) (heap : List Int) (T : Option Addr) (tn tc : Nat) (ts : Thr) (u : Value) (es : List Ev) (w : World) (hI : IntsZ w H hn hcap heap) (ht : ThrAt w (fun _ => True) T tn ts) (hu : EvsAt w (fun _ => True) u es) (hb : few18 c hn ts = true) (hb2 : fewB es = true) :
    Calls Try.prog 3 #[c.val, .slice H hn hcap, .slice T tn tc, u] w fun e w' => e = .returned (.bool true) ∧ Fr (fun _ => False) w w' := by
  have HF := Lib.hid (fun w' (hf : Fr (fun _ => False) w w') => few18_calls c H hn hcap T tn tc ts _ w' (ht.frame hf (fun _ _ x => x.elim)))
  have HQ := Lib.hid (fun w' (hf : Fr (fun _ => False) w w') => few16_calls u es _ w' (hu.frame hf (fun _ _ x => x.elim)))
  have hsm := fewB_smalls hb2
  have hst := few18_short hb
  have hh5 : hn ≤ 5000 := (few18_true hb).2.2.2.1
  have HSM := Lib.hid (hsm.filter Keep2)
  have HSE := Lib.hid (fun w' (hf : Fr (fun _ => False) w w') => serialAll_calls c H hn hcap heap T tn tc ts u es _ _ _ w' (hI.flat.frame hf (fun _ _ x => x.elim)) hI.i64 (by omega) (ht.frame hf (fun _ _ x => x.elim)) hst (hu.frame hf (fun _ _ x => x.elim)) hsm)
  have HRE := Lib.hid (fun w' (hf : Fr (fun _ => False) w w') => refSerialAll_calls c H hn hcap heap T tn tc ts u es _ _ _ w' (hI.flat.frame hf (fun _ _ x => x.elim)) hI.i64 (by omega) hI.nil_ (ht.frame hf (fun _ _ x => x.elim)) hst (hu.frame hf (fun _ _ x => x.elim)) hsm)
  have hc0 : ∀ w', Fr (fun _ => False) w w' → Calls Try.prog 16 #[u] w' fun e w'' => ∃ v', e = .returned v' ∧ EvsOwn 50 w'.heap.size w'' (fun k => w'.heap.size ≤ k) v' (es.filter Keep2) ∧ Fr (fun _ => False) w' w'' := fun w' hf => commits_calls u es _ w' (hu.frame hf (fun _ _ x => x.elim)) hsm
  have HC := Lib.hid hc0
  have HRC := Lib.hid (fun w' (hf : Fr (fun _ => False) w w') => refCommits_calls u es _ w' (hu.frame hf (fun _ _ x => x.elim)) hsm.1)
  have HA := Lib.hid (fun w' (hf : Fr (fun _ => False) w w') => ahead_calls u es _ w' (hu.frame hf (fun _ _ x => x.elim)) hsm.1)
  have HRA := Lib.hid (fun w' (hf : Fr (fun _ => False) w w') => refAhead_calls u es _ w' (hu.frame hf (fun _ _ x => x.elim)) hsm.1)
  have hlr : (serAll c hn ts heap es).1.length ≤ 20000 := serAll_len (by have := hI.flat.len; omega)
  have HLR := Lib.hid hlr
  have HBX := Lib.hid (box_all w c)
  obtain ⟨U, uc, ucs, rfl, _⟩ := id hu.ex
  rw [hb] at HF
  rw [hb2] at HQ
  clear hsm hst hc0 hlr hb hb2 hI ht hu hh5
  unfold Conf.val at *
  generalize serAll c hn ts heap es = R at *
  obtain ⟨R1, R2⟩ := R
  dsimp only at *
  generalize aheadB es = bb at *
  generalize es.filter Keep2 = fs at *
  generalize es.length = m at *
  have hk := (Fr.refl (fun _ => False) w).alloc (.cells #[.int .i64 c.r, .int .i64 c.o, .int .i64 c.s, .int .i64 c.wd, .int .i64 c.th, .int .i64 c.sl, .int .i64 c.rg, .int .i64 c.lk, .int .i64 c.un, .int .i64 c.es, .int .i64 c.tk, .int .i64 c.po] 23)
  have hbk := Fr.refl (fun _ => False) (w.alloc (.cells #[.int .i64 c.r, .int .i64 c.o, .int .i64 c.s, .int .i64 c.wd, .int .i64 c.th, .int .i64 c.sl, .int .i64 c.rg, .int .i64 c.lk, .int .i64 c.un, .int .i64 c.es, .int .i64 c.tk, .int .i64 c.po] 23))
  go_enter Try.func3, Try.ntmps3
  go_wp2_with (first
    | (go_at_call 8
       (with_reducible refine (HF.out _ hk).mono ?_)
       rintro ex w3 ⟨rfl, hf⟩
       try (replace h3 := h3.trans hf)
       try (replace h4 := h4.trans hf)
       try (replace h5 := h5.trans hf)
       replace hk := hk.trans hf
       replace hbk := hbk.trans hf
       clear hf
       try (clear c0 c1 c2 c3 c4 c5 c6 c7 c8 c9 c10 c11)
       obtain ⟨c0, c1, c2, c3, c4, c5, c6, c7, c8, c9, c10, c11⟩ := HBX.out _ hbk)
    | (go_at_call 9
       (with_reducible refine (HQ.out _ hk).mono ?_)
       rintro ex w3 ⟨rfl, hf⟩
       try (replace h3 := h3.trans hf)
       try (replace h4 := h4.trans hf)
       try (replace h5 := h5.trans hf)
       replace hk := hk.trans hf
       replace hbk := hbk.trans hf
       clear hf
       try (clear c0 c1 c2 c3 c4 c5 c6 c7 c8 c9 c10 c11)
       obtain ⟨c0, c1, c2, c3, c4, c5, c6, c7, c8, c9, c10, c11⟩ := HBX.out _ hbk)
    | (go_at_call 10
       (with_reducible refine (HSE.out _ hk).mono ?_)
       rintro ex w3 ⟨A1, n1, k1, rfl, hfl, hf⟩
       have HFL := Lib.hid hfl
       clear hfl
       try (replace h3 := h3.trans hf)
       try (replace h4 := h4.trans hf)
       try (replace h5 := h5.trans hf)
       replace hk := hk.trans hf
       replace hbk := hbk.trans hf
       have h3 := Fr.refl (fun _ => False) w3
       clear hf
       try (clear c0 c1 c2 c3 c4 c5 c6 c7 c8 c9 c10 c11)
       obtain ⟨c0, c1, c2, c3, c4, c5, c6, c7, c8, c9, c10, c11⟩ := HBX.out _ hbk)
    | (go_at_call 11
       (with_reducible refine (HRE.out _ hk).mono ?_)
       rintro ex w3 ⟨A2, n2, k2, rfl, hfl, hf⟩
       have HFR := Lib.hid hfl
       clear hfl
       try (replace h3 := h3.trans hf)
       try (replace h4 := h4.trans hf)
       try (replace h5 := h5.trans hf)
       replace hk := hk.trans hf
       replace hbk := hbk.trans hf
       have h4 := Fr.refl (fun _ => False) w3
       clear hf
       try (clear c0 c1 c2 c3 c4 c5 c6 c7 c8 c9 c10 c11)
       obtain ⟨c0, c1, c2, c3, c4, c5, c6, c7, c8, c9, c10, c11⟩ := HBX.out _ hbk)
    | (go_at_call 7
       (with_reducible refine (first20_calls _).mono ?_)
       rintro ex w3 ⟨rfl, hf⟩
       try (replace h3 := h3.trans hf)
       try (replace h4 := h4.trans hf)
       try (replace h5 := h5.trans hf)
       replace hk := hk.trans hf
       replace hbk := hbk.trans hf
       clear hf
       try (clear c0 c1 c2 c3 c4 c5 c6 c7 c8 c9 c10 c11)
       obtain ⟨c0, c1, c2, c3, c4, c5, c6, c7, c8, c9, c10, c11⟩ := HBX.out _ hbk)
    | (go_at_call 12
       (with_reducible refine (intsJ_eq _ _ _ _ _ _ R1 _ _ _ (HFL.out.frame h3 (fun _ _ x => x.elim)) HLR.out (HFR.out.frame h4 (fun _ _ x => x.elim))).mono ?_)
       rintro ex w3 ⟨rfl, hf⟩
       try (replace h3 := h3.trans hf)
       try (replace h4 := h4.trans hf)
       try (replace h5 := h5.trans hf)
       replace hk := hk.trans hf
       replace hbk := hbk.trans hf
       clear hf
       try (clear c0 c1 c2 c3 c4 c5 c6 c7 c8 c9 c10 c11)
       obtain ⟨c0, c1, c2, c3, c4, c5, c6, c7, c8, c9, c10, c11⟩ := HBX.out _ hbk)
    | (go_at_call 13
       (with_reducible refine (HA.out _ hk).mono ?_)
       rintro ex w3 ⟨rfl, hf⟩
       try (replace h3 := h3.trans hf)
       try (replace h4 := h4.trans hf)
       try (replace h5 := h5.trans hf)
       replace hk := hk.trans hf
       replace hbk := hbk.trans hf
       clear hf
       try (clear c0 c1 c2 c3 c4 c5 c6 c7 c8 c9 c10 c11)
       obtain ⟨c0, c1, c2, c3, c4, c5, c6, c7, c8, c9, c10, c11⟩ := HBX.out _ hbk)
    | (go_at_call 14
       (with_reducible refine (HRA.out _ hk).mono ?_)
       rintro ex w3 ⟨rfl, hf⟩
       try (replace h3 := h3.trans hf)
       try (replace h4 := h4.trans hf)
       try (replace h5 := h5.trans hf)
       replace hk := hk.trans hf
       replace hbk := hbk.trans hf
       clear hf
       try (clear c0 c1 c2 c3 c4 c5 c6 c7 c8 c9 c10 c11)
       obtain ⟨c0, c1, c2, c3, c4, c5, c6, c7, c8, c9, c10, c11⟩ := HBX.out _ hbk)
    | (go_at_call 16
       (with_reducible refine (HC.out _ hk).mono ?_)
       rintro ex w3 ⟨v5, rfl, ho, hf⟩
       have HO5 := Lib.hid ((ho.mono (G := fun _ => True) (fun _ _ _ => trivial)).at_ (fun _ _ => trivial))
       obtain ⟨A5, c5, rfl⟩ := ho.shape
       clear ho
       try (replace h3 := h3.trans hf)
       try (replace h4 := h4.trans hf)
       try (replace h5 := h5.trans hf)
       replace hk := hk.trans hf
       replace hbk := hbk.trans hf
       have h5 := Fr.refl (fun _ => False) w3
       clear hf
       try (clear c0 c1 c2 c3 c4 c5 c6 c7 c8 c9 c10 c11)
       obtain ⟨c0, c1, c2, c3, c4, c5, c6, c7, c8, c9, c10, c11⟩ := HBX.out _ hbk)
    | (go_at_call 17
       (with_reducible refine (HRC.out _ hk).mono ?_)
       rintro ex w3 ⟨v6, rfl, ho, hf⟩
       have HO6 := Lib.hid ((ho.mono (G := fun _ => True) (fun _ _ _ => trivial)).at_ (fun _ _ => trivial))
       obtain ⟨A6, c6, rfl⟩ := ho.shape
       clear ho
       try (replace h3 := h3.trans hf)
       try (replace h4 := h4.trans hf)
       try (replace h5 := h5.trans hf)
       replace hk := hk.trans hf
       replace hbk := hbk.trans hf
       clear hf
       try (clear c0 c1 c2 c3 c4 c5 c6 c7 c8 c9 c10 c11)
       obtain ⟨c0, c1, c2, c3, c4, c5, c6, c7, c8, c9, c10, c11⟩ := HBX.out _ hbk)
    | (go_at_call 15
       (with_reducible refine (sameEvents_eq _ _ fs _ _ _ (HO5.out.frame h5 (fun _ _ x => x.elim)) HO6.out HSM.out).mono ?_)
       rintro ex w3 ⟨rfl, hf⟩
       try (replace h3 := h3.trans hf)
       try (replace h4 := h4.trans hf)
       try (replace h5 := h5.trans hf)
       replace hk := hk.trans hf
       replace hbk := hbk.trans hf
       clear hf
       try (clear c0 c1 c2 c3 c4 c5 c6 c7 c8 c9 c10 c11)
       obtain ⟨c0, c1, c2, c3, c4, c5, c6, c7, c8, c9, c10, c11⟩ := HBX.out _ hbk))
  go_ret
  exact ⟨by simp, hk⟩

theorem tells_walk (cs : Array Value) (c : Conf) (H : Option Addr) (hn hcap : Nat) (heap : List Int) (T : Option Addr) (tn tc : Nat) (ts : Thr) (A : Option Addr) (n cap : Nat) (es : List Ev) (w : World) (hc : ConfIn cs c) (hI : IntsZ w H hn hcap heap) (ht : ThrAt w (fun _ => True) T tn ts) (hu : EvsAt w (fun _ => True) (.slice A n cap) es) :
    Calls Try.prog 3 #[.agg cs, .slice H hn hcap, .slice T tn tc, .slice A n cap] w fun e w' => e = .returned (.bool true) ∧ Fr (fun _ => False) w w' := by
  rw [hc]
  cases hb : few18 c hn ts with
  | false => exact tells_many c H hn hcap T tn tc ts _ es w ht hu (.inl hb)
  | true =>
    cases hb2 : fewB es with
    | false => exact tells_many c H hn hcap T tn tc ts _ es w ht hu (.inr ⟨hb, hb2⟩)
    | true => exact tells_few c H hn hcap heap T tn tc ts _ es w hI ht hu hb hb2
end Go.Proofs.Ytkaokhpaabfhmaa
