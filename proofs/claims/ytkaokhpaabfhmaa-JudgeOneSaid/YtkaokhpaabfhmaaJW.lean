/- ltklaw20.JudgeWrong answers true. -/
import Derived.Test.YtkaokhpaabfhmaaJ8
import Derived.Test.YtkaokhpaabfhmaaPR4
import Derived.Test.YtkaokhpaabfhmaaPR2b
import Derived.Test.YtkaokhpaabfhmaaAp
import Derived.Deep.RegionHeld3
import Derived.Deep.Cut
namespace Go.Proofs.Ytkaokhpaabfhmaa
open Go.RowKit

/-! Plain: one program, one event. -/
theorem ev_at {w : World} {bu : Nat} {F : Nat → Prop} {e : Ev} {A1 A2 A3 : Option Addr} {n1 c1 n2 c2 n3 c3 : Nat} (hb : w.heap[bu]? = some (.cells #[.int .i64 e.k, .int .i64 e.th, .int .i64 e.pr, .int .i64 e.tr, .int .i64 e.ti, .int .i64 e.st, .int .i64 e.ca, .slice A1 n1 c1, .slice A2 n2 c2, .slice A3 n3 c3] 50 (0, 0))) (h : Lies w F e A1 n1 c1 A2 n2 c2 A3 n3 c3) :
    EvsAt w (fun _ => True) (.slice (some ⟨bu, 0, none⟩) 1 1) [e] := by
  refine ⟨some ⟨bu, 0, none⟩, 1, e.cells (.slice A1 n1 c1) (.slice A2 n2 c2) (.slice A3 n3 c3), rfl, Nat.le_refl _, (fun h => by cases h), rfl, fun _ => ⟨_, rfl, trivial, fun j u hj => ?_⟩, fun i hi => ?_⟩
  · have h1 : (Addr.mk bu 0 none).add j = ⟨bu, j, none⟩ := by unfold Addr.add; split <;> simp_all
    rw [h1, blk_cell hb]
    have : j < 10 := by have := (List.getElem?_eq_some_iff.1 hj).1; exact this
    have : j = 0 ∨ j = 1 ∨ j = 2 ∨ j = 3 ∨ j = 4 ∨ j = 5 ∨ j = 6 ∨ j = 7 ∨ j = 8 ∨ j = 9 := by omega
    rcases this with rfl | rfl | rfl | rfl | rfl | rfl | rfl | rfl | rfl | rfl <;> exact hj
  · obtain rfl : i = 0 := by simp at hi; exact hi
    exact ⟨A1, n1, c1, A2, n2, c2, A3, n3, c3, fun j hj => by rw [Nat.zero_mul, Nat.zero_add]; rfl, h.mono (fun _ _ _ => trivial)⟩
theorem serial_one {c : Conf} {H : Option Addr} {hn hcap : Nat} {heap : List Int} {tb : Nat} {p : List Ins} {bu : Nat} (e : Ev) {A1 A2 A3 : Option Addr} {n1 c1 n2 c2 n3 c3 : Nat} {w : World} (hh : Flat w (fun _ => True) H hn heap) (hi : ∀ y ∈ heap, I64 y) (h2 : hn ≤ 20000) (hw : (hn : Int) = c.words) (ht : ThrAt w (fun _ => True) (some ⟨tb, 0, none⟩) 1 [[p]]) (hst : ShortT [[p]])
    (hb : w.heap[bu]? = some (.cells #[.int .i64 e.k, .int .i64 e.th, .int .i64 e.pr, .int .i64 e.tr, .int .i64 e.ti, .int .i64 e.st, .int .i64 e.ca, .slice A1 n1 c1, .slice A2 n2 c2, .slice A3 n3 c3] 50 (0, 0))) (hl : Lies w (fun _ => True) e A1 n1 c1 A2 n2 c2 A3 n3 c3) (m1 : n1 * 2 ≤ 20000) (m2 : n2 * 2 ≤ 20000) (m3 : n3 ≤ 20000) :
    Calls Try.prog 10 #[c.val, .slice H hn hcap, .slice (some ⟨tb, 0, none⟩) 1 1, .slice (some ⟨bu, 0, none⟩) 1 1] w fun ex w' => ∃ A' n' c', ex = .returned (.tuple #[.slice A' n' c', .int .i64 (serJ c [[p]] heap ([e].filter (·.keeps 2 []))).2]) ∧ Flat w' (fun k => w.heap.size ≤ k) A' n' (serJ c [[p]] heap ([e].filter (·.keeps 2 []))).1 ∧ Fr (fun _ => False) w w' :=
  serial_calls c H hn hcap heap (some ⟨tb, 0, none⟩) 1 1 [[p]] (.slice (some ⟨bu, 0, none⟩) 1 1) [e] _ _ _ w hh hi h2 hw ht hst (ev_at hb hl) ⟨by simp, fun e' he => by
    rw [List.mem_singleton.1 he]
    exact ⟨by rw [hl.r.len]; exact m1, by rw [hl.w_.len]; exact m2, by rw [hl.g.len]; exact m3⟩⟩
theorem res_heap_len {c : Conf} {heap : List Int} {p : List Ins} (h1 : progOk c p = true) (h2 : (heap.length : Int) = c.words) : (resH c heap p).length = heap.length := by
  rw [(runs_full h1 h2).2.1]
  unfold PS.after
  split
  · have h := (runP_lensJ c p p.length 0 (begP c heap)).2.1
    exact h
  · rfl
theorem intsW_eq (A1 : Option Addr) (n1 c1 : Nat) (A2 : Option Addr) (n2 c2 : Nat) (xs : List Int) (F G : Nat → Prop) (w : World) (hx : Flat w F A1 n1 xs) (hs : xs.length ≤ 20000) (hy : Flat w G A2 n2 xs) :
    Calls Try.prog 12 #[.slice A1 n1 c1, .slice A2 n2 c2] w fun e w' => e = .returned (.bool true) ∧ Fr (fun _ => False) w w' :=
  (ints_calls A1 n1 c1 A2 n2 c2 xs xs F G w hx (by rw [← hx.len]; exact hs) hy).mono fun _ _ h => ⟨by rw [h.1, decide_eq_true rfl], h.2⟩
theorem one_intsC {w : World} {b : Nat} {T : TypeId} (h : w.heap[b]? = some (.cells #[.int .i64 1] T (0, 0))) : IntsC w (some ⟨b, 0, none⟩) 1 1 [1] := by
  refine ⟨⟨rfl, fun _ => ⟨_, rfl, fun i hi => ?_⟩⟩, Nat.le_refl _, by decide, fun x hx => ?_⟩
  · obtain rfl : i = 0 := by omega
    have e : (Addr.mk b 0 none).add 0 = ⟨b, 0, none⟩ := by unfold Addr.add; simp
    rw [e, blk_cell h]; rfl
  · rw [List.mem_singleton.1 hx]; exact ⟨by decide, by decide⟩
theorem keeps2 (e : Ev) : e.keeps 2 [] = (e.k == 2) := by unfold Ev.keeps; simp
theorem filt_in {e : Ev} (h : e.k = 2) : [e].filter (·.keeps 2 []) = [e] := by simp [List.filter, keeps2, h]
theorem filt_out {e : Ev} (h : e.k = 3) : [e].filter (·.keeps 2 []) = [] := by simp [List.filter, keeps2, h]
theorem ser_none {c : Conf} {p : List Ins} {h : List Int} {e : Ev} (hk : e.k = 2) (hn : e.pr = 1 ∨ e.th = -1) : serJ c [[p]] h ([e].filter (·.keeps 2 [])) = ([], 4) := by
  rw [filt_in hk]
  unfold serJ
  rw [if_pos]
  unfold noneJ
  rcases hn with hn | hn
  · by_cases h0 : e.th = 0
    · simp [hn, h0]
    · by_cases h1 : e.th < 0
      · simp [h1]
      · have : 1 ≤ e.th := by omega
        simp [this]
  · simp [hn]
theorem ser_bad {c : Conf} {p : List Ins} {h : List Int} {e : Ev} (hk : e.k = 2) (h1 : e.th = 0) (h2 : e.pr = 0) (hs : sameB (resS c h p) (evS e) = false) : serJ c [[p]] h ([e].filter (·.keeps 2 [])) = ([], 2) := by
  rw [filt_in hk]
  unfold serJ
  have hn : noneJ [[p]] e = false := by unfold noneJ; simp [h1, h2]
  have hp : progJ [[p]] e = p := by unfold progJ; rw [h1, h2]; rfl
  have hb : badJ c [[p]] h e = true := by unfold badJ; rw [hp, hs]; simp
  rw [if_neg (by rw [hn]; simp), if_pos hb]
theorem ser_abort {c : Conf} {ts : Thr} {h : List Int} {e : Ev} (hk : e.k = 3) : serJ c ts h ([e].filter (·.keeps 2 [])) = (h, 0) := by
  rw [filt_out hk]; rfl
theorem and3 (x : Int) : bits .and .i64 x 3 = 0 ∨ bits .and .i64 x 3 = 1 ∨ bits .and .i64 x 3 = 2 ∨ bits .and .i64 x 3 = 3 := by
  rw [bits_and]
  have h : (B x &&& B 3).toNat ≤ 3 := by rw [BitVec.toNat_and]; exact Nat.le_trans Nat.and_le_right (by decide)
  have h2 : (B x &&& B 3).toInt = ((B x &&& B 3).toNat : Int) := BitVec.toInt_eq_toNat_of_lt (by omega)
  rw [h2]; omega
theorem wrap_turn (x d : Int) (hd : d = 1 ∨ d = -1) : wrap64 (x + d) ≠ x := by
  unfold wrap64; omega
theorem set_ne' {zs : List Int} {i : Nat} (hi : i < zs.length) {d y : Int} (hy : y = zs.getD i 0) (hd : d = 1 ∨ d = -1) : zs.set i (wrap64 (y + d)) ≠ zs := by
  subst hy
  intro h
  have h2 : (zs.set i (wrap64 (zs.getD i 0 + d))).getD i 0 = zs.getD i 0 := by rw [h]
  rw [List.getD_eq_getElem?_getD, List.getElem?_set_self hi] at h2
  exact wrap_turn _ d hd h2
theorem same_rs {a b : PS} (h : b.rs ≠ a.rs) : sameB a b = false := by
  have : decide (a.rs = b.rs) = false := by simpa using fun e => h e.symm
  unfold sameB; rw [this]; simp
theorem same_ws {a b : PS} (h : b.ws ≠ a.ws) : sameB a b = false := by
  have : decide (a.ws = b.ws) = false := by simpa using fun e => h e.symm
  unfold sameB; rw [this]; simp
theorem progOk_short {c : Conf} {p : List Ins} (h : progOk c p = true) : Short p := by
  intro x hx
  obtain ⟨i, hi, rfl⟩ := List.mem_iff_getElem.1 hx
  have hm := (progOk_iff.1 h).2.2 i hi
  rw [List.getD_eq_getElem?_getD, List.getElem?_eq_getElem hi] at hm
  revert hm
  show mayB c p[i] i p.length = true → _
  unfold mayB
  repeat' split
  all_goals
    intro h3
    try simp only [Bool.and_eq_true, decide_eq_true_eq] at h3
    first | omega | (exact absurd h3 (by simp))

set_option maxRecDepth 100000 in
set_option maxHeartbeats 4000000 in
theorem wrong_many (c : Conf) (H : Option Addr) (hn hcap : Nat) (A : Option Addr) (n cap : Nat) (p : List Ins) (how : Int) (w : World) (h : ProgAt w (fun _ => True) A n cap p) (hb : 60 < n ∨ (n ≤ 60 ∧ progOk c p = false) ∨ (n ≤ 60 ∧ progOk c p = true ∧ (hn : Int) ≠ c.words)) :
    Calls Try.prog 5 #[c.val, .slice H hn hcap, .slice A n cap, .int .i64 how] w fun e w' => e = .returned (.bool true) ∧ Fr (fun _ => False) w w' := by
  have HCK := Lib.hid (fun w' (hf : Fr (fun _ => False) w w') => refCheck5_any c A n cap p _ w' (h.frame hf (fun _ _ x => x.elim)))
  have HW := Lib.hid (ref_words_calls c)
  have HBX := Lib.hid (box_all w c)
  rcases hb with hb | ⟨hb, hb2⟩ | ⟨hb, hb2, hb3⟩
  · have hd : decide ((60 : Int) < n) = true := by simp; omega
    clear h hb HCK
    unfold Conf.val at *
    have hk := (Fr.refl (fun _ => False) w).alloc (.cells #[.int .i64 c.r, .int .i64 c.o, .int .i64 c.s, .int .i64 c.wd, .int .i64 c.th, .int .i64 c.sl, .int .i64 c.rg, .int .i64 c.lk, .int .i64 c.un, .int .i64 c.es, .int .i64 c.tk, .int .i64 c.po] 23)
    have hbk := Fr.refl (fun _ => False) (w.alloc (.cells #[.int .i64 c.r, .int .i64 c.o, .int .i64 c.s, .int .i64 c.wd, .int .i64 c.th, .int .i64 c.sl, .int .i64 c.rg, .int .i64 c.lk, .int .i64 c.un, .int .i64 c.es, .int .i64 c.tk, .int .i64 c.po] 23))
    go_enter Try.func5, Try.ntmps5
    go_wp2_with (first
    | (go_at_call 7
       (with_reducible refine (first20_calls _).mono ?_)
       rintro ex w3 ⟨rfl, hf⟩
       replace hk := hk.trans hf
       replace hbk := hbk.trans hf
       clear hf
       try (clear c0 c1 c2 c3 c4 c5 c6 c7 c8 c9 c10 c11)
       obtain ⟨c0, c1, c2, c3, c4, c5, c6, c7, c8, c9, c10, c11⟩ := HBX.out _ hbk))
    go_ret
    exact ⟨rfl, hk⟩
  · have hd : decide ((60 : Int) < n) = false := by simp; omega
    have hv : chkV c p = 2 := by unfold chkV; rw [hb2]; rfl
    rw [hv] at HCK
    clear h hb hb2 hv
    unfold Conf.val at *
    have hk := (Fr.refl (fun _ => False) w).alloc (.cells #[.int .i64 c.r, .int .i64 c.o, .int .i64 c.s, .int .i64 c.wd, .int .i64 c.th, .int .i64 c.sl, .int .i64 c.rg, .int .i64 c.lk, .int .i64 c.un, .int .i64 c.es, .int .i64 c.tk, .int .i64 c.po] 23)
    have hbk := Fr.refl (fun _ => False) (w.alloc (.cells #[.int .i64 c.r, .int .i64 c.o, .int .i64 c.s, .int .i64 c.wd, .int .i64 c.th, .int .i64 c.sl, .int .i64 c.rg, .int .i64 c.lk, .int .i64 c.un, .int .i64 c.es, .int .i64 c.tk, .int .i64 c.po] 23))
    go_enter Try.func5, Try.ntmps5
    go_wp2_with (first
    | (go_at_call 7
       (with_reducible refine (first20_calls _).mono ?_)
       rintro ex w3 ⟨rfl, hf⟩
       replace hk := hk.trans hf
       replace hbk := hbk.trans hf
       clear hf
       try (clear c0 c1 c2 c3 c4 c5 c6 c7 c8 c9 c10 c11)
       obtain ⟨c0, c1, c2, c3, c4, c5, c6, c7, c8, c9, c10, c11⟩ := HBX.out _ hbk)
    | (go_at_call 18
       (with_reducible refine (HCK.out _ hk).mono ?_)
       rintro ex w3 ⟨rfl, hf⟩
       replace hk := hk.trans hf
       replace hbk := hbk.trans hf
       clear hf
       try (clear c0 c1 c2 c3 c4 c5 c6 c7 c8 c9 c10 c11)
       obtain ⟨c0, c1, c2, c3, c4, c5, c6, c7, c8, c9, c10, c11⟩ := HBX.out _ hbk))
    go_ret
    exact ⟨rfl, hk⟩
  · have hd : decide ((60 : Int) < n) = false := by simp; omega
    have hd2 : ((hn : Int) != c.words) = true := by simpa using hb3
    have hv : chkV c p = 0 := by unfold chkV; rw [hb2]; rfl
    rw [hv] at HCK
    clear h hb hb2 hv
    unfold Conf.val at *
    have hk := (Fr.refl (fun _ => False) w).alloc (.cells #[.int .i64 c.r, .int .i64 c.o, .int .i64 c.s, .int .i64 c.wd, .int .i64 c.th, .int .i64 c.sl, .int .i64 c.rg, .int .i64 c.lk, .int .i64 c.un, .int .i64 c.es, .int .i64 c.tk, .int .i64 c.po] 23)
    have hbk := Fr.refl (fun _ => False) (w.alloc (.cells #[.int .i64 c.r, .int .i64 c.o, .int .i64 c.s, .int .i64 c.wd, .int .i64 c.th, .int .i64 c.sl, .int .i64 c.rg, .int .i64 c.lk, .int .i64 c.un, .int .i64 c.es, .int .i64 c.tk, .int .i64 c.po] 23))
    go_enter Try.func5, Try.ntmps5
    go_wp2_with (first
    | (go_at_call 7
       (with_reducible refine (first20_calls _).mono ?_)
       rintro ex w3 ⟨rfl, hf⟩
       replace hk := hk.trans hf
       replace hbk := hbk.trans hf
       clear hf
       try (clear c0 c1 c2 c3 c4 c5 c6 c7 c8 c9 c10 c11)
       obtain ⟨c0, c1, c2, c3, c4, c5, c6, c7, c8, c9, c10, c11⟩ := HBX.out _ hbk)
    | (go_at_call 18
       (with_reducible refine (HCK.out _ hk).mono ?_)
       rintro ex w3 ⟨rfl, hf⟩
       replace hk := hk.trans hf
       replace hbk := hbk.trans hf
       clear hf
       try (clear c0 c1 c2 c3 c4 c5 c6 c7 c8 c9 c10 c11)
       obtain ⟨c0, c1, c2, c3, c4, c5, c6, c7, c8, c9, c10, c11⟩ := HBX.out _ hbk)
    | (go_at_call 19
       (with_reducible refine (HW.out _).mono ?_)
       rintro ex w3 ⟨rfl, hf⟩
       replace hk := hk.trans hf
       replace hbk := hbk.trans hf
       clear hf
       try (clear c0 c1 c2 c3 c4 c5 c6 c7 c8 c9 c10 c11)
       obtain ⟨c0, c1, c2, c3, c4, c5, c6, c7, c8, c9, c10, c11⟩ := HBX.out _ hbk))
    go_ret
    exact ⟨rfl, hk⟩

set_option maxRecDepth 100000 in
set_option maxHeartbeats 4000000 in
theorem wrong_end (c : Conf) (H : Option Addr) (hn hcap : Nat) (heap : List Int) (A : Option Addr) (n cap : Nat) (p : List Ins) (how : Int) (w : World) (hI : IntsZ w H hn hcap heap) (h : ProgAt w (fun _ => True) A n cap p) (hb : n ≤ 60) (hb2 : progOk c p = true) (hb3 : (hn : Int) = c.words) (hE : (resS c heap p).e ≠ 1) :
    Calls Try.prog 5 #[c.val, .slice H hn hcap, .slice A n cap, .int .i64 how] w fun e w' => e = .returned (.bool true) ∧ Fr (fun _ => False) w w' := by
  have HCK := Lib.hid (fun w' (hf : Fr (fun _ => False) w w') => refCheck5_any c A n cap p _ w' (h.frame hf (fun _ _ x => x.elim)))
  have HW := Lib.hid (ref_words_calls c)
  have HBX := Lib.hid (box_all w c)
  have HRUN0 := fun w' (hf : Fr (fun _ => False) w w') => refRun_calls c H hn hcap heap A n cap p _ _ w' (h.frame hf (fun _ _ x => x.elim)) (progOk_short hb2) (hI.flat.frame hf (fun _ _ x => x.elim)) hI.i64
  have hd : decide ((60 : Int) < n) = false := by simp; omega
  have hd2 : ((hn : Int) != c.words) = false := by simpa using hb3
  have hv : chkV c p = 0 := by unfold chkV; rw [hb2]; rfl
  have hE0 := (runs_full hb2 (by rw [hI.flat.len]; exact hb3)).2.2
  rw [hv] at HCK
  rw [hE0] at HRUN0
  have HRUN := Lib.hid HRUN0
  clear h hb hb2 hv hI hb3 HRUN0 hE0
  unfold Conf.val at *
  generalize resS c heap p = S at *
  generalize resH c heap p = R at *
  have hd3 : (S.e != 1) = true := by simpa using hE
  clear hE
  have hk := (Fr.refl (fun _ => False) w).alloc (.cells #[.int .i64 c.r, .int .i64 c.o, .int .i64 c.s, .int .i64 c.wd, .int .i64 c.th, .int .i64 c.sl, .int .i64 c.rg, .int .i64 c.lk, .int .i64 c.un, .int .i64 c.es, .int .i64 c.tk, .int .i64 c.po] 23)
  have hbk := Fr.refl (fun _ => False) (w.alloc (.cells #[.int .i64 c.r, .int .i64 c.o, .int .i64 c.s, .int .i64 c.wd, .int .i64 c.th, .int .i64 c.sl, .int .i64 c.rg, .int .i64 c.lk, .int .i64 c.un, .int .i64 c.es, .int .i64 c.tk, .int .i64 c.po] 23))
  go_enter Try.func5, Try.ntmps5
  go_wp2_with (first
    | (go_at_call 7
       (with_reducible refine (first20_calls _).mono ?_)
       rintro ex w3 ⟨rfl, hf⟩
       replace hk := hk.trans hf
       replace hbk := hbk.trans hf
       clear hf
       try (clear c0 c1 c2 c3 c4 c5 c6 c7 c8 c9 c10 c11)
       obtain ⟨c0, c1, c2, c3, c4, c5, c6, c7, c8, c9, c10, c11⟩ := HBX.out _ hbk)
    | (go_at_call 18
       (with_reducible refine (HCK.out _ hk).mono ?_)
       rintro ex w3 ⟨rfl, hf⟩
       replace hk := hk.trans hf
       replace hbk := hbk.trans hf
       clear hf
       try (clear c0 c1 c2 c3 c4 c5 c6 c7 c8 c9 c10 c11)
       obtain ⟨c0, c1, c2, c3, c4, c5, c6, c7, c8, c9, c10, c11⟩ := HBX.out _ hbk)
    | (go_at_call 19
       (with_reducible refine (HW.out _).mono ?_)
       rintro ex w3 ⟨rfl, hf⟩
       replace hk := hk.trans hf
       replace hbk := hbk.trans hf
       clear hf
       try (clear c0 c1 c2 c3 c4 c5 c6 c7 c8 c9 c10 c11)
       obtain ⟨c0, c1, c2, c3, c4, c5, c6, c7, c8, c9, c10, c11⟩ := HBX.out _ hbk)
    | (go_at_call 21
       (with_reducible refine (HRUN.out _ hk).mono ?_)
       rintro ex v1 ⟨A1, n1, k1, A2, n2, k2, A3, n3, k3, A4, n4, k4, rfl, ho, hf⟩
       have HO := Lib.hid (fun w' (hf : Fr (fun _ => False) v1 w') => ho.frame hf (fun _ _ x => x.elim))
       have HOB := Lib.hid (heap_alloc_new v1 (.cells #[.int .i64 S.e, .slice A1 n1 k1, .slice A2 n2 k2, .slice A3 n3 k3] 46))
       obtain ⟨o0, o1, o2, o3⟩ := out_box (heap_alloc_new v1 (.cells #[.int .i64 S.e, .slice A1 n1 k1, .slice A2 n2 k2, .slice A3 n3 k3] 46)) rfl
       replace hk := (hk.trans hf).alloc (.cells #[.int .i64 S.e, .slice A1 n1 k1, .slice A2 n2 k2, .slice A3 n3 k3] 46)
       replace hbk := (hbk.trans hf).alloc (.cells #[.int .i64 S.e, .slice A1 n1 k1, .slice A2 n2 k2, .slice A3 n3 k3] 46)
       have hvk := (Fr.refl (fun _ => False) v1).alloc (.cells #[.int .i64 S.e, .slice A1 n1 k1, .slice A2 n2 k2, .slice A3 n3 k3] 46)
       clear hf ho
       try (clear c0 c1 c2 c3 c4 c5 c6 c7 c8 c9 c10 c11)
       obtain ⟨c0, c1, c2, c3, c4, c5, c6, c7, c8, c9, c10, c11⟩ := HBX.out _ hbk))
  go_ret
  exact ⟨rfl, hk⟩
end Go.Proofs.Ytkaokhpaabfhmaa
