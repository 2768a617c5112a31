/- Which programs may run: prog.word, may, Check. -/
import Derived.Test.YtkaokhpaabfhmaaP0
import Derived.Test.YtkaokhpaabfhmaaCalc
namespace Go.Proofs.Ytkaokhpaabfhmaa
open Go.RowKit


theorem word1 (w : World) : Calls Try.prog 65 #[.int .i64 1] w fun e w' => e = .returned (.tuple #[.string { data := #[114, 101, 97, 100] }, .int .i64 3, .bool false]) ∧ w' = w := by
  go_enter Try.func65, Try.ntmps65
  go_wp2
  refine bodyPost_ret (by simp [results, Try.results65, go_sem]; try rfl) rfl ⟨rfl, rfl⟩

theorem word2 (w : World) : Calls Try.prog 65 #[.int .i64 2] w fun e w' => e = .returned (.tuple #[.string { data := #[119, 114, 105, 116, 101] }, .int .i64 3, .bool false]) ∧ w' = w := by
  go_enter Try.func65, Try.ntmps65
  go_wp2
  refine bodyPost_ret (by simp [results, Try.results65, go_sem]; try rfl) rfl ⟨rfl, rfl⟩

theorem word3 (w : World) : Calls Try.prog 65 #[.int .i64 3] w fun e w' => e = .returned (.tuple #[.string { data := #[99, 111, 110, 115, 116] }, .int .i64 2, .bool false]) ∧ w' = w := by
  go_enter Try.func65, Try.ntmps65
  go_wp2
  refine bodyPost_ret (by simp [results, Try.results65, go_sem]; try rfl) rfl ⟨rfl, rfl⟩

theorem word4 (w : World) : Calls Try.prog 65 #[.int .i64 4] w fun e w' => e = .returned (.tuple #[.string { data := #[99, 97, 108, 99] }, .int .i64 2, .bool true]) ∧ w' = w := by
  go_enter Try.func65, Try.ntmps65
  go_wp2
  refine bodyPost_ret (by simp [results, Try.results65, go_sem]; try rfl) rfl ⟨rfl, rfl⟩

theorem word5 (w : World) : Calls Try.prog 65 #[.int .i64 5] w fun e w' => e = .returned (.tuple #[.string { data := #[106, 117, 109, 112] }, .int .i64 2, .bool false]) ∧ w' = w := by
  go_enter Try.func65, Try.ntmps65
  go_wp2
  refine bodyPost_ret (by simp [results, Try.results65, go_sem]; try rfl) rfl ⟨rfl, rfl⟩

theorem word6 (w : World) : Calls Try.prog 65 #[.int .i64 6] w fun e w' => e = .returned (.tuple #[.string { data := #[114, 101, 116, 114, 121] }, .int .i64 0, .bool false]) ∧ w' = w := by
  go_enter Try.func65, Try.ntmps65
  go_wp2
  refine bodyPost_ret (by simp [results, Try.results65, go_sem]; try rfl) rfl ⟨rfl, rfl⟩

theorem word7 (w : World) : Calls Try.prog 65 #[.int .i64 7] w fun e w' => e = .returned (.tuple #[.string { data := #[97, 98, 111, 114, 116] }, .int .i64 0, .bool false]) ∧ w' = w := by
  go_enter Try.func65, Try.ntmps65
  go_wp2
  refine bodyPost_ret (by simp [results, Try.results65, go_sem]; try rfl) rfl ⟨rfl, rfl⟩

theorem word0 (k : Int) (w : World) (hk : ¬ (1 ≤ k ∧ k ≤ 7)) : Calls Try.prog 65 #[.int .i64 k] w fun e w' => e = .returned (.tuple #[.string { data := #[] }, .int .i64 0, .bool false]) ∧ w' = w := by
  have h1 : (k == 1) = false := by simp; omega
  have h2 : (k == 2) = false := by simp; omega
  have h3 : (k == 3) = false := by simp; omega
  have h4 : (k == 4) = false := by simp; omega
  have h5 : (k == 5) = false := by simp; omega
  have h6 : (k == 6) = false := by simp; omega
  have h7 : (k == 7) = false := by simp; omega
  clear hk
  go_enter Try.func65, Try.ntmps65
  go_wp2
  refine bodyPost_ret (by simp [results, Try.results65, go_sem]; try rfl) rfl ⟨rfl, rfl⟩

theorem none_calls (cb : Nat) (c : Conf) (r : Int) (w : World) (h : BoxConf w cb c) : Calls Try.prog 64 #[.int .i64 r, .pointer (some ⟨cb, 0, none⟩)] w fun e w' => e = .returned (.bool (noneB c r)) ∧ w' = w := by
  obtain ⟨q0, q1, q2, q3, q4, q5, q6, q7, q8, q9, q10, q11⟩ := h.all
  unfold noneB
  clear h q0 q1 q2 q3 q4 q5 q7 q8 q9 q10 q11
  by_cases h0 : r < 0
  · have d : decide (r < 0) = true := by simpa using h0
    rw [d]
    clear h0
    go_enter Try.func64, Try.ntmps64
    go_wp2
    go_ret
    exact ⟨rfl, rfl⟩
  · have d : decide (r < 0) = false := by simpa using h0
    rw [d]
    clear h0
    go_enter Try.func64, Try.ntmps64
    go_wp2
    go_ret
    exact ⟨rfl, rfl⟩

theorem any_of {xs : List Int} {p : Int → Bool} {i : Nat} (h : i < xs.length) (hp : p (xs.getD i 0) = true) : xs.any p = true := by
  rw [List.any_eq_true]
  refine ⟨xs.getD i 0, ?_, hp⟩
  rw [List.getD_eq_getElem?_getD, List.getElem?_eq_getElem h]; exact List.getElem_mem h
theorem any_none {xs : List Int} {p : Int → Bool} (h : ∀ i, i < xs.length → p (xs.getD i 0) = false) : xs.any p = false := by
  rw [List.any_eq_false]
  intro x hx
  obtain ⟨i, hi, rfl⟩ := List.getElem_of_mem hx
  have := h i hi
  rw [List.getD_eq_getElem?_getD, List.getElem?_eq_getElem hi] at this
  simpa using this
set_option maxRecDepth 100000 in
theorem indexNone_calls (cb : Nat) (c : Conf) (A : Option Addr) (n cap : Nat) (xs : List Int) (F : Nat → Prop) (w : World) (hx : Flat w F A n xs) (hn : n ≤ 20000) (hb : BoxConf w cb c) :
    Calls Try.prog 74 #[.slice A n cap, .func (.func 64) #[] #[.pointer (some ⟨cb, 0, none⟩)]] w fun e w' => ∃ p : Int, e = .returned (.int .i64 p) ∧ decide (0 ≤ p) = xs.any (noneB c) ∧ Fr (fun _ => False) w w' := by
  obtain ⟨r, hr⟩ : ∃ r, r = xs.any (noneB c) := ⟨_, rfl⟩
  rw [← hr]
  have HR := Lib.hid hr
  have HB := Lib.hid hb
  clear hr hb
  go_enter Try.func74, Try.ntmps74
  go_wp2
  go_loopw [5, 8] (fun _ v8 wr => ∃ j : Nat, j ≤ n ∧ v8 = .int .i64 j ∧ (∀ i, i < j → noneB c (xs.getD i 0) = false) ∧ Fr (fun _ => False) w wr) (fun _ v8 _ => n - (intOf v8).toNat)
  case atStart => exact ⟨0, Nat.zero_le _, rfl, fun i hi => absurd hi (Nat.not_lt_zero _), Fr.refl _ _⟩
  case round =>
    obtain ⟨j, hj, rfl, hb, hf⟩ := hrel
    have HBJ := Lib.hid hb
    clear hb
    by_cases hlt : j < n
    · obtain ⟨ad, rfl, _, h1⟩ := hx.at_ (by omega)
      have q0 := hf.cell (h1 j hlt) (fun x => x)
      have HBW := Lib.hid (HB.out.frame hf (fun x => x))
      clear h1
      generalize hx0 : xs.getD j 0 = x0 at q0
      have H0 := Lib.hid hx0
      clear hx0
      have HCL := none_calls cb c x0 _ HBW.out
      cases hq : noneB c x0 with
      | true =>
        rw [hq] at HCL
        have HQ := Lib.hid hq
        have HC := Lib.hid HCL
        clear hq HCL
        go_wp2_with (go_at_call 64
                     (with_reducible refine HC.out.mono ?_)
                     rintro ex w1 ⟨rfl, rfl⟩)
        go_ret
        exact ⟨j, rfl, by rw [HR.out, any_of (i := j) (by rw [hx.len]; exact hlt) (by rw [H0.out]; exact HQ.out)]; simp, hf⟩
      | false =>
        rw [hq] at HCL
        have HQ := Lib.hid hq
        have HC := Lib.hid HCL
        clear hq HCL
        go_wp2_with (go_at_call 64
                     (with_reducible refine HC.out.mono ?_)
                     rintro ex w1 ⟨rfl, rfl⟩)
        go_roundw
        case rel => exact ⟨j + 1, by omega, by go_num, fun i hi => by
          by_cases hij : i < j
          · exact HBJ.out i hij
          · obtain rfl : i = j := by omega
            rw [H0.out]; exact HQ.out, hf⟩
        case measure => simp [intOf]; omega
    · obtain rfl : j = n := by omega
      go_wp2
      go_ret
      exact ⟨-1, rfl, by rw [HR.out, any_none (by rw [hx.len]; exact HBJ.out)]; simp, hf⟩
set_option maxRecDepth 100000 in
theorem containsNone_calls (cb : Nat) (c : Conf) (A : Option Addr) (n cap : Nat) (xs : List Int) (F : Nat → Prop) (w : World) (hx : Flat w F A n xs) (hn : n ≤ 20000) (hb : BoxConf w cb c) :
    Calls Try.prog 67 #[.slice A n cap, .func (.func 64) #[] #[.pointer (some ⟨cb, 0, none⟩)]] w fun e w' => e = .returned (.bool (xs.any (noneB c))) ∧ Fr (fun _ => False) w w' := by
  have HI := Lib.hid (indexNone_calls cb c A n cap xs F w hx hn hb)
  obtain ⟨r, hr⟩ : ∃ r, r = xs.any (noneB c) := ⟨_, rfl⟩
  rw [← hr]
  have HR := Lib.hid hr
  clear hx hn hb hr
  go_enter Try.func67, Try.ntmps67
  go_wp2_with (go_at_call 74
               (with_reducible refine HI.out.mono ?_)
               rintro ex w1 ⟨p, rfl, hp, hf1⟩
               have HP := Lib.hid hp
               clear hp)
  go_ret
  exact ⟨by rw [HR.out, ← HP.out]; rfl, hf1⟩


set_option maxRecDepth 100000 in
set_option maxHeartbeats 4000000 in
theorem may1 (c : Conf) (k a b d : Int) (l : List Int) (A : Option Addr) (n cap : Nat) (F : Nat → Prop) (at_ many : Nat) (w : World) (hl : Flat w F A n l) (hn : n ≤ 20000) (hk : k = 1) :
    Calls Try.prog 57 #[c.val, .agg #[.int .i64 k, .int .i64 a, .int .i64 b, .int .i64 d, .slice A n cap], .int .i64 at_, .int .i64 many] w fun e w' => e = .returned (.bool (mayB c ⟨k, a, b, d, l⟩ at_ many)) ∧ Fr (fun _ => False) w w' := by
  obtain ⟨r, hr⟩ : ∃ r, r = mayB c ⟨k, a, b, d, l⟩ at_ many := ⟨_, rfl⟩
  rw [← hr]
  unfold mayB at hr
  dsimp only at hr
  have hln : l.length = n := hl.len
  rw [hln] at hr
  have hfa := ((Fr.refl (fun _ => False) w).alloc (.cells #[.int .i64 c.r, .int .i64 c.o, .int .i64 c.s, .int .i64 c.wd, .int .i64 c.th, .int .i64 c.sl, .int .i64 c.rg, .int .i64 c.lk, .int .i64 c.un, .int .i64 c.es, .int .i64 c.tk, .int .i64 c.po] 23)).alloc (.cells #[.int .i64 k, .int .i64 a, .int .i64 b, .int .i64 d, .slice A n cap] 67)
  have hbx := (BoxConf.mk w c).frame ((Fr.refl (fun _ => False) _).alloc (.cells #[.int .i64 k, .int .i64 a, .int .i64 b, .int .i64 d, .slice A n cap] 67)) (fun x => x)
  have HNA := none_calls w.heap.size c a _ hbx
  have HND := none_calls w.heap.size c d _ hbx
  have HKN := knownC b ((w.alloc (.cells #[.int .i64 c.r, .int .i64 c.o, .int .i64 c.s, .int .i64 c.wd, .int .i64 c.th, .int .i64 c.sl, .int .i64 c.rg, .int .i64 c.lk, .int .i64 c.un, .int .i64 c.es, .int .i64 c.tk, .int .i64 c.po] 23)).alloc (.cells #[.int .i64 k, .int .i64 a, .int .i64 b, .int .i64 d, .slice A n cap] 67))
  have HCN := containsNone_calls w.heap.size c A n cap l F _ (hl.frame hfa (fun _ _ x => x.elim)) hn hbx
  have HFA := Lib.hid hfa
  clear hl hln hbx hfa
  unfold Conf.val
  generalize noneB c a = na at *
  generalize noneB c d = nd at *
  generalize known b = kn at *
  generalize l.any (noneB c) = cn at *
  subst hk
  obtain ⟨m, hm⟩ : ∃ m, m = n := ⟨_, rfl⟩
  have hc : (na = true) ∨ (na = false ∧ n ≠ 0) ∨ (na = false ∧ n = 0) := by cases na <;> simp <;> omega
  rcases hc with rfl | ⟨rfl, hn0⟩ | ⟨rfl, rfl⟩
  · simp at hr
    replace HNA := Lib.hid HNA
    replace HND := Lib.hid HND
    replace HKN := Lib.hid HKN
    replace HCN := Lib.hid HCN
    have HR := Lib.hid hr
    clear hr
    go_enter Try.func57, Try.ntmps57
    go_wp2_with (first
      | (go_at_call 65; (with_reducible refine (word1 _).mono ?_); rintro ex w1 ⟨rfl, rfl⟩)
      | (go_at_call 64; (with_reducible refine HNA.out.mono ?_); clear HNA; rintro ex w1 ⟨rfl, rfl⟩)
      | (go_at_call 64; (with_reducible refine HND.out.mono ?_); rintro ex w1 ⟨rfl, rfl⟩)
      | (go_at_call 66; (with_reducible refine HKN.out.mono ?_); rintro ex w1 ⟨rfl, rfl⟩)
      | (go_at_call 67; (with_reducible refine HCN.out.mono ?_); rintro ex w1 ⟨rfl, hf1⟩))
    all_goals go_ret
    all_goals exact ⟨by rw [HR.out]; try rfl, by first | exact HFA.out | exact HFA.out.trans hf1⟩
  · have hp : decide ((0 : Int) < n) = true := by simp; omega
    simp [hn0] at hr
    replace HNA := Lib.hid HNA
    replace HND := Lib.hid HND
    replace HKN := Lib.hid HKN
    replace HCN := Lib.hid HCN
    have HR := Lib.hid hr
    clear hr
    go_enter Try.func57, Try.ntmps57
    go_wp2_with (first
      | (go_at_call 65; (with_reducible refine (word1 _).mono ?_); rintro ex w1 ⟨rfl, rfl⟩)
      | (go_at_call 64; (with_reducible refine HNA.out.mono ?_); clear HNA; rintro ex w1 ⟨rfl, rfl⟩)
      | (go_at_call 64; (with_reducible refine HND.out.mono ?_); rintro ex w1 ⟨rfl, rfl⟩)
      | (go_at_call 66; (with_reducible refine HKN.out.mono ?_); rintro ex w1 ⟨rfl, rfl⟩)
      | (go_at_call 67; (with_reducible refine HCN.out.mono ?_); rintro ex w1 ⟨rfl, hf1⟩))
    all_goals go_ret
    all_goals exact ⟨by rw [HR.out]; try rfl, by first | exact HFA.out | exact HFA.out.trans hf1⟩
  · by_cases hd : d = -1
    · subst hd
      simp at hr
      replace HNA := Lib.hid HNA
      replace HND := Lib.hid HND
      replace HKN := Lib.hid HKN
      replace HCN := Lib.hid HCN
      have HR := Lib.hid hr
      clear hr
      go_enter Try.func57, Try.ntmps57
      go_wp2_with (first
        | (go_at_call 65; (with_reducible refine (word1 _).mono ?_); rintro ex w1 ⟨rfl, rfl⟩)
        | (go_at_call 64; (with_reducible refine HNA.out.mono ?_); clear HNA; rintro ex w1 ⟨rfl, rfl⟩)
        | (go_at_call 64; (with_reducible refine HND.out.mono ?_); rintro ex w1 ⟨rfl, rfl⟩)
        | (go_at_call 66; (with_reducible refine HKN.out.mono ?_); rintro ex w1 ⟨rfl, rfl⟩)
        | (go_at_call 67; (with_reducible refine HCN.out.mono ?_); rintro ex w1 ⟨rfl, hf1⟩))
      all_goals go_ret
      all_goals exact ⟨by rw [HR.out]; try rfl, by first | exact HFA.out | exact HFA.out.trans hf1⟩
    · have hdd : (d == -1) = false := by simpa using hd
      simp [hdd] at hr
      clear hd
      replace HNA := Lib.hid HNA
      replace HND := Lib.hid HND
      replace HKN := Lib.hid HKN
      replace HCN := Lib.hid HCN
      have HR := Lib.hid hr
      clear hr
      go_enter Try.func57, Try.ntmps57
      go_wp2_with (first
        | (go_at_call 65; (with_reducible refine (word1 _).mono ?_); rintro ex w1 ⟨rfl, rfl⟩)
        | (go_at_call 64; (with_reducible refine HNA.out.mono ?_); clear HNA; rintro ex w1 ⟨rfl, rfl⟩)
        | (go_at_call 64; (with_reducible refine HND.out.mono ?_); rintro ex w1 ⟨rfl, rfl⟩)
        | (go_at_call 66; (with_reducible refine HKN.out.mono ?_); rintro ex w1 ⟨rfl, rfl⟩)
        | (go_at_call 67; (with_reducible refine HCN.out.mono ?_); rintro ex w1 ⟨rfl, hf1⟩))
      all_goals go_ret
      all_goals exact ⟨by rw [HR.out]; try rfl, by first | exact HFA.out | exact HFA.out.trans hf1⟩


set_option maxRecDepth 100000 in
set_option maxHeartbeats 4000000 in
theorem may2 (c : Conf) (k a b d : Int) (l : List Int) (A : Option Addr) (n cap : Nat) (F : Nat → Prop) (at_ many : Nat) (w : World) (hl : Flat w F A n l) (hn : n ≤ 20000) (hk : k = 2) :
    Calls Try.prog 57 #[c.val, .agg #[.int .i64 k, .int .i64 a, .int .i64 b, .int .i64 d, .slice A n cap], .int .i64 at_, .int .i64 many] w fun e w' => e = .returned (.bool (mayB c ⟨k, a, b, d, l⟩ at_ many)) ∧ Fr (fun _ => False) w w' := by
  obtain ⟨r, hr⟩ : ∃ r, r = mayB c ⟨k, a, b, d, l⟩ at_ many := ⟨_, rfl⟩
  rw [← hr]
  unfold mayB at hr
  dsimp only at hr
  have hln : l.length = n := hl.len
  rw [hln] at hr
  have hfa := ((Fr.refl (fun _ => False) w).alloc (.cells #[.int .i64 c.r, .int .i64 c.o, .int .i64 c.s, .int .i64 c.wd, .int .i64 c.th, .int .i64 c.sl, .int .i64 c.rg, .int .i64 c.lk, .int .i64 c.un, .int .i64 c.es, .int .i64 c.tk, .int .i64 c.po] 23)).alloc (.cells #[.int .i64 k, .int .i64 a, .int .i64 b, .int .i64 d, .slice A n cap] 67)
  have hbx := (BoxConf.mk w c).frame ((Fr.refl (fun _ => False) _).alloc (.cells #[.int .i64 k, .int .i64 a, .int .i64 b, .int .i64 d, .slice A n cap] 67)) (fun x => x)
  have HNA := none_calls w.heap.size c a _ hbx
  have HND := none_calls w.heap.size c d _ hbx
  have HKN := knownC b ((w.alloc (.cells #[.int .i64 c.r, .int .i64 c.o, .int .i64 c.s, .int .i64 c.wd, .int .i64 c.th, .int .i64 c.sl, .int .i64 c.rg, .int .i64 c.lk, .int .i64 c.un, .int .i64 c.es, .int .i64 c.tk, .int .i64 c.po] 23)).alloc (.cells #[.int .i64 k, .int .i64 a, .int .i64 b, .int .i64 d, .slice A n cap] 67))
  have HCN := containsNone_calls w.heap.size c A n cap l F _ (hl.frame hfa (fun _ _ x => x.elim)) hn hbx
  have HFA := Lib.hid hfa
  clear hl hln hbx hfa
  unfold Conf.val
  generalize noneB c a = na at *
  generalize noneB c d = nd at *
  generalize known b = kn at *
  generalize l.any (noneB c) = cn at *
  subst hk
  obtain ⟨m, hm⟩ : ∃ m, m = n := ⟨_, rfl⟩
  have hc : (na = true) ∨ (na = false ∧ n ≠ 0) ∨ (na = false ∧ n = 0) := by cases na <;> simp <;> omega
  rcases hc with rfl | ⟨rfl, hn0⟩ | ⟨rfl, rfl⟩
  · simp at hr
    replace HNA := Lib.hid HNA
    replace HND := Lib.hid HND
    replace HKN := Lib.hid HKN
    replace HCN := Lib.hid HCN
    have HR := Lib.hid hr
    clear hr
    go_enter Try.func57, Try.ntmps57
    go_wp2_with (first
      | (go_at_call 65; (with_reducible refine (word2 _).mono ?_); rintro ex w1 ⟨rfl, rfl⟩)
      | (go_at_call 64; (with_reducible refine HNA.out.mono ?_); clear HNA; rintro ex w1 ⟨rfl, rfl⟩)
      | (go_at_call 64; (with_reducible refine HND.out.mono ?_); rintro ex w1 ⟨rfl, rfl⟩)
      | (go_at_call 66; (with_reducible refine HKN.out.mono ?_); rintro ex w1 ⟨rfl, rfl⟩)
      | (go_at_call 67; (with_reducible refine HCN.out.mono ?_); rintro ex w1 ⟨rfl, hf1⟩))
    all_goals go_ret
    all_goals exact ⟨by rw [HR.out]; try rfl, by first | exact HFA.out | exact HFA.out.trans hf1⟩
  · have hp : decide ((0 : Int) < n) = true := by simp; omega
    simp [hn0] at hr
    replace HNA := Lib.hid HNA
    replace HND := Lib.hid HND
    replace HKN := Lib.hid HKN
    replace HCN := Lib.hid HCN
    have HR := Lib.hid hr
    clear hr
    go_enter Try.func57, Try.ntmps57
    go_wp2_with (first
      | (go_at_call 65; (with_reducible refine (word2 _).mono ?_); rintro ex w1 ⟨rfl, rfl⟩)
      | (go_at_call 64; (with_reducible refine HNA.out.mono ?_); clear HNA; rintro ex w1 ⟨rfl, rfl⟩)
      | (go_at_call 64; (with_reducible refine HND.out.mono ?_); rintro ex w1 ⟨rfl, rfl⟩)
      | (go_at_call 66; (with_reducible refine HKN.out.mono ?_); rintro ex w1 ⟨rfl, rfl⟩)
      | (go_at_call 67; (with_reducible refine HCN.out.mono ?_); rintro ex w1 ⟨rfl, hf1⟩))
    all_goals go_ret
    all_goals exact ⟨by rw [HR.out]; try rfl, by first | exact HFA.out | exact HFA.out.trans hf1⟩
  · by_cases hd : d = -1
    · subst hd
      simp at hr
      replace HNA := Lib.hid HNA
      replace HND := Lib.hid HND
      replace HKN := Lib.hid HKN
      replace HCN := Lib.hid HCN
      have HR := Lib.hid hr
      clear hr
      go_enter Try.func57, Try.ntmps57
      go_wp2_with (first
        | (go_at_call 65; (with_reducible refine (word2 _).mono ?_); rintro ex w1 ⟨rfl, rfl⟩)
        | (go_at_call 64; (with_reducible refine HNA.out.mono ?_); clear HNA; rintro ex w1 ⟨rfl, rfl⟩)
        | (go_at_call 64; (with_reducible refine HND.out.mono ?_); rintro ex w1 ⟨rfl, rfl⟩)
        | (go_at_call 66; (with_reducible refine HKN.out.mono ?_); rintro ex w1 ⟨rfl, rfl⟩)
        | (go_at_call 67; (with_reducible refine HCN.out.mono ?_); rintro ex w1 ⟨rfl, hf1⟩))
      all_goals go_ret
      all_goals exact ⟨by rw [HR.out]; try rfl, by first | exact HFA.out | exact HFA.out.trans hf1⟩
    · have hdd : (d == -1) = false := by simpa using hd
      simp [hdd] at hr
      clear hd
      replace HNA := Lib.hid HNA
      replace HND := Lib.hid HND
      replace HKN := Lib.hid HKN
      replace HCN := Lib.hid HCN
      have HR := Lib.hid hr
      clear hr
      go_enter Try.func57, Try.ntmps57
      go_wp2_with (first
        | (go_at_call 65; (with_reducible refine (word2 _).mono ?_); rintro ex w1 ⟨rfl, rfl⟩)
        | (go_at_call 64; (with_reducible refine HNA.out.mono ?_); clear HNA; rintro ex w1 ⟨rfl, rfl⟩)
        | (go_at_call 64; (with_reducible refine HND.out.mono ?_); rintro ex w1 ⟨rfl, rfl⟩)
        | (go_at_call 66; (with_reducible refine HKN.out.mono ?_); rintro ex w1 ⟨rfl, rfl⟩)
        | (go_at_call 67; (with_reducible refine HCN.out.mono ?_); rintro ex w1 ⟨rfl, hf1⟩))
      all_goals go_ret
      all_goals exact ⟨by rw [HR.out]; try rfl, by first | exact HFA.out | exact HFA.out.trans hf1⟩


set_option maxRecDepth 100000 in
set_option maxHeartbeats 4000000 in
theorem may3 (c : Conf) (k a b d : Int) (l : List Int) (A : Option Addr) (n cap : Nat) (F : Nat → Prop) (at_ many : Nat) (w : World) (hl : Flat w F A n l) (hn : n ≤ 20000) (hk : k = 3) :
    Calls Try.prog 57 #[c.val, .agg #[.int .i64 k, .int .i64 a, .int .i64 b, .int .i64 d, .slice A n cap], .int .i64 at_, .int .i64 many] w fun e w' => e = .returned (.bool (mayB c ⟨k, a, b, d, l⟩ at_ many)) ∧ Fr (fun _ => False) w w' := by
  obtain ⟨r, hr⟩ : ∃ r, r = mayB c ⟨k, a, b, d, l⟩ at_ many := ⟨_, rfl⟩
  rw [← hr]
  unfold mayB at hr
  dsimp only at hr
  have hln : l.length = n := hl.len
  rw [hln] at hr
  have hfa := ((Fr.refl (fun _ => False) w).alloc (.cells #[.int .i64 c.r, .int .i64 c.o, .int .i64 c.s, .int .i64 c.wd, .int .i64 c.th, .int .i64 c.sl, .int .i64 c.rg, .int .i64 c.lk, .int .i64 c.un, .int .i64 c.es, .int .i64 c.tk, .int .i64 c.po] 23)).alloc (.cells #[.int .i64 k, .int .i64 a, .int .i64 b, .int .i64 d, .slice A n cap] 67)
  have hbx := (BoxConf.mk w c).frame ((Fr.refl (fun _ => False) _).alloc (.cells #[.int .i64 k, .int .i64 a, .int .i64 b, .int .i64 d, .slice A n cap] 67)) (fun x => x)
  have HNA := none_calls w.heap.size c a _ hbx
  have HND := none_calls w.heap.size c d _ hbx
  have HKN := knownC b ((w.alloc (.cells #[.int .i64 c.r, .int .i64 c.o, .int .i64 c.s, .int .i64 c.wd, .int .i64 c.th, .int .i64 c.sl, .int .i64 c.rg, .int .i64 c.lk, .int .i64 c.un, .int .i64 c.es, .int .i64 c.tk, .int .i64 c.po] 23)).alloc (.cells #[.int .i64 k, .int .i64 a, .int .i64 b, .int .i64 d, .slice A n cap] 67))
  have HCN := containsNone_calls w.heap.size c A n cap l F _ (hl.frame hfa (fun _ _ x => x.elim)) hn hbx
  have HFA := Lib.hid hfa
  clear hl hln hbx hfa
  unfold Conf.val
  generalize noneB c a = na at *
  generalize noneB c d = nd at *
  generalize known b = kn at *
  generalize l.any (noneB c) = cn at *
  subst hk
  obtain ⟨m, hm⟩ : ∃ m, m = n := ⟨_, rfl⟩
  have hc : (na = true) ∨ (na = false ∧ n ≠ 0) ∨ (na = false ∧ n = 0) := by cases na <;> simp <;> omega
  rcases hc with rfl | ⟨rfl, hn0⟩ | ⟨rfl, rfl⟩
  · simp at hr
    replace HNA := Lib.hid HNA
    replace HND := Lib.hid HND
    replace HKN := Lib.hid HKN
    replace HCN := Lib.hid HCN
    have HR := Lib.hid hr
    clear hr
    go_enter Try.func57, Try.ntmps57
    go_wp2_with (first
      | (go_at_call 65; (with_reducible refine (word3 _).mono ?_); rintro ex w1 ⟨rfl, rfl⟩)
      | (go_at_call 64; (with_reducible refine HNA.out.mono ?_); clear HNA; rintro ex w1 ⟨rfl, rfl⟩)
      | (go_at_call 64; (with_reducible refine HND.out.mono ?_); rintro ex w1 ⟨rfl, rfl⟩)
      | (go_at_call 66; (with_reducible refine HKN.out.mono ?_); rintro ex w1 ⟨rfl, rfl⟩)
      | (go_at_call 67; (with_reducible refine HCN.out.mono ?_); rintro ex w1 ⟨rfl, hf1⟩))
    all_goals go_ret
    all_goals exact ⟨by rw [HR.out]; try rfl, by first | exact HFA.out | exact HFA.out.trans hf1⟩
  · have hp : decide ((0 : Int) < n) = true := by simp; omega
    simp [hn0] at hr
    replace HNA := Lib.hid HNA
    replace HND := Lib.hid HND
    replace HKN := Lib.hid HKN
    replace HCN := Lib.hid HCN
    have HR := Lib.hid hr
    clear hr
    go_enter Try.func57, Try.ntmps57
    go_wp2_with (first
      | (go_at_call 65; (with_reducible refine (word3 _).mono ?_); rintro ex w1 ⟨rfl, rfl⟩)
      | (go_at_call 64; (with_reducible refine HNA.out.mono ?_); clear HNA; rintro ex w1 ⟨rfl, rfl⟩)
      | (go_at_call 64; (with_reducible refine HND.out.mono ?_); rintro ex w1 ⟨rfl, rfl⟩)
      | (go_at_call 66; (with_reducible refine HKN.out.mono ?_); rintro ex w1 ⟨rfl, rfl⟩)
      | (go_at_call 67; (with_reducible refine HCN.out.mono ?_); rintro ex w1 ⟨rfl, hf1⟩))
    all_goals go_ret
    all_goals exact ⟨by rw [HR.out]; try rfl, by first | exact HFA.out | exact HFA.out.trans hf1⟩
  · simp at hr
    replace HNA := Lib.hid HNA
    replace HND := Lib.hid HND
    replace HKN := Lib.hid HKN
    replace HCN := Lib.hid HCN
    have HR := Lib.hid hr
    clear hr
    go_enter Try.func57, Try.ntmps57
    go_wp2_with (first
      | (go_at_call 65; (with_reducible refine (word3 _).mono ?_); rintro ex w1 ⟨rfl, rfl⟩)
      | (go_at_call 64; (with_reducible refine HNA.out.mono ?_); clear HNA; rintro ex w1 ⟨rfl, rfl⟩)
      | (go_at_call 64; (with_reducible refine HND.out.mono ?_); rintro ex w1 ⟨rfl, rfl⟩)
      | (go_at_call 66; (with_reducible refine HKN.out.mono ?_); rintro ex w1 ⟨rfl, rfl⟩)
      | (go_at_call 67; (with_reducible refine HCN.out.mono ?_); rintro ex w1 ⟨rfl, hf1⟩))
    all_goals go_ret
    all_goals exact ⟨by rw [HR.out]; try rfl, by first | exact HFA.out | exact HFA.out.trans hf1⟩


set_option maxRecDepth 100000 in
set_option maxHeartbeats 4000000 in
theorem may4 (c : Conf) (k a b d : Int) (l : List Int) (A : Option Addr) (n cap : Nat) (F : Nat → Prop) (at_ many : Nat) (w : World) (hl : Flat w F A n l) (hn : n ≤ 20000) (hk : k = 4) :
    Calls Try.prog 57 #[c.val, .agg #[.int .i64 k, .int .i64 a, .int .i64 b, .int .i64 d, .slice A n cap], .int .i64 at_, .int .i64 many] w fun e w' => e = .returned (.bool (mayB c ⟨k, a, b, d, l⟩ at_ many)) ∧ Fr (fun _ => False) w w' := by
  obtain ⟨r, hr⟩ : ∃ r, r = mayB c ⟨k, a, b, d, l⟩ at_ many := ⟨_, rfl⟩
  rw [← hr]
  unfold mayB at hr
  dsimp only at hr
  have hln : l.length = n := hl.len
  rw [hln] at hr
  have hfa := ((Fr.refl (fun _ => False) w).alloc (.cells #[.int .i64 c.r, .int .i64 c.o, .int .i64 c.s, .int .i64 c.wd, .int .i64 c.th, .int .i64 c.sl, .int .i64 c.rg, .int .i64 c.lk, .int .i64 c.un, .int .i64 c.es, .int .i64 c.tk, .int .i64 c.po] 23)).alloc (.cells #[.int .i64 k, .int .i64 a, .int .i64 b, .int .i64 d, .slice A n cap] 67)
  have hbx := (BoxConf.mk w c).frame ((Fr.refl (fun _ => False) _).alloc (.cells #[.int .i64 k, .int .i64 a, .int .i64 b, .int .i64 d, .slice A n cap] 67)) (fun x => x)
  have HNA := none_calls w.heap.size c a _ hbx
  have HND := none_calls w.heap.size c d _ hbx
  have HKN := knownC b ((w.alloc (.cells #[.int .i64 c.r, .int .i64 c.o, .int .i64 c.s, .int .i64 c.wd, .int .i64 c.th, .int .i64 c.sl, .int .i64 c.rg, .int .i64 c.lk, .int .i64 c.un, .int .i64 c.es, .int .i64 c.tk, .int .i64 c.po] 23)).alloc (.cells #[.int .i64 k, .int .i64 a, .int .i64 b, .int .i64 d, .slice A n cap] 67))
  have HCN := containsNone_calls w.heap.size c A n cap l F _ (hl.frame hfa (fun _ _ x => x.elim)) hn hbx
  have HFA := Lib.hid hfa
  clear hl hln hbx hfa
  unfold Conf.val
  generalize noneB c a = na at *
  generalize noneB c d = nd at *
  generalize known b = kn at *
  generalize l.any (noneB c) = cn at *
  subst hk
  have hc : (na = true) ∨ (na = false ∧ kn = false) ∨ (na = false ∧ kn = true ∧ n = 0) ∨ (na = false ∧ kn = true ∧ n ≠ 0 ∧ 8 < n) ∨ (na = false ∧ kn = true ∧ n ≠ 0 ∧ n ≤ 8) := by cases na <;> cases kn <;> simp <;> omega
  rcases hc with rfl | ⟨rfl, rfl⟩ | ⟨rfl, rfl, rfl⟩ | ⟨rfl, rfl, hn0, hn8⟩ | ⟨rfl, rfl, hn0, hn8⟩
  · simp at hr
    replace HNA := Lib.hid HNA
    replace HND := Lib.hid HND
    replace HKN := Lib.hid HKN
    replace HCN := Lib.hid HCN
    have HR := Lib.hid hr
    clear hr
    go_enter Try.func57, Try.ntmps57
    go_wp2_with (first
      | (go_at_call 65; (with_reducible refine (word4 _).mono ?_); rintro ex w1 ⟨rfl, rfl⟩)
      | (go_at_call 64; (with_reducible refine HNA.out.mono ?_); clear HNA; rintro ex w1 ⟨rfl, rfl⟩)
      | (go_at_call 64; (with_reducible refine HND.out.mono ?_); rintro ex w1 ⟨rfl, rfl⟩)
      | (go_at_call 66; (with_reducible refine HKN.out.mono ?_); rintro ex w1 ⟨rfl, rfl⟩)
      | (go_at_call 67; (with_reducible refine HCN.out.mono ?_); rintro ex w1 ⟨rfl, hf1⟩))
    all_goals go_ret
    all_goals exact ⟨by rw [HR.out]; try rfl, by first | exact HFA.out | exact HFA.out.trans hf1⟩
  · simp at hr
    replace HNA := Lib.hid HNA
    replace HND := Lib.hid HND
    replace HKN := Lib.hid HKN
    replace HCN := Lib.hid HCN
    have HR := Lib.hid hr
    clear hr
    go_enter Try.func57, Try.ntmps57
    go_wp2_with (first
      | (go_at_call 65; (with_reducible refine (word4 _).mono ?_); rintro ex w1 ⟨rfl, rfl⟩)
      | (go_at_call 64; (with_reducible refine HNA.out.mono ?_); clear HNA; rintro ex w1 ⟨rfl, rfl⟩)
      | (go_at_call 64; (with_reducible refine HND.out.mono ?_); rintro ex w1 ⟨rfl, rfl⟩)
      | (go_at_call 66; (with_reducible refine HKN.out.mono ?_); rintro ex w1 ⟨rfl, rfl⟩)
      | (go_at_call 67; (with_reducible refine HCN.out.mono ?_); rintro ex w1 ⟨rfl, hf1⟩))
    all_goals go_ret
    all_goals exact ⟨by rw [HR.out]; try rfl, by first | exact HFA.out | exact HFA.out.trans hf1⟩
  · simp at hr
    replace HNA := Lib.hid HNA
    replace HND := Lib.hid HND
    replace HKN := Lib.hid HKN
    replace HCN := Lib.hid HCN
    have HR := Lib.hid hr
    clear hr
    go_enter Try.func57, Try.ntmps57
    go_wp2_with (first
      | (go_at_call 65; (with_reducible refine (word4 _).mono ?_); rintro ex w1 ⟨rfl, rfl⟩)
      | (go_at_call 64; (with_reducible refine HNA.out.mono ?_); clear HNA; rintro ex w1 ⟨rfl, rfl⟩)
      | (go_at_call 64; (with_reducible refine HND.out.mono ?_); rintro ex w1 ⟨rfl, rfl⟩)
      | (go_at_call 66; (with_reducible refine HKN.out.mono ?_); rintro ex w1 ⟨rfl, rfl⟩)
      | (go_at_call 67; (with_reducible refine HCN.out.mono ?_); rintro ex w1 ⟨rfl, hf1⟩))
    all_goals go_ret
    all_goals exact ⟨by rw [HR.out]; try rfl, by first | exact HFA.out | exact HFA.out.trans hf1⟩
  · have hp : decide ((0 : Int) < n) = true := by simp; omega
    have hq : decide ((n : Int) ≤ 8) = false := by simp; omega
    simp [hn0, show ¬ n ≤ 8 by omega] at hr
    replace HNA := Lib.hid HNA
    replace HND := Lib.hid HND
    replace HKN := Lib.hid HKN
    replace HCN := Lib.hid HCN
    have HR := Lib.hid hr
    clear hr
    go_enter Try.func57, Try.ntmps57
    go_wp2_with (first
      | (go_at_call 65; (with_reducible refine (word4 _).mono ?_); rintro ex w1 ⟨rfl, rfl⟩)
      | (go_at_call 64; (with_reducible refine HNA.out.mono ?_); clear HNA; rintro ex w1 ⟨rfl, rfl⟩)
      | (go_at_call 64; (with_reducible refine HND.out.mono ?_); rintro ex w1 ⟨rfl, rfl⟩)
      | (go_at_call 66; (with_reducible refine HKN.out.mono ?_); rintro ex w1 ⟨rfl, rfl⟩)
      | (go_at_call 67; (with_reducible refine HCN.out.mono ?_); rintro ex w1 ⟨rfl, hf1⟩))
    all_goals go_ret
    all_goals exact ⟨by rw [HR.out]; try rfl, by first | exact HFA.out | exact HFA.out.trans hf1⟩
  · have hp : decide ((0 : Int) < n) = true := by simp; omega
    have hq : decide ((n : Int) ≤ 8) = true := by simp; omega
    simp [hn0, hn8] at hr
    replace HNA := Lib.hid HNA
    replace HND := Lib.hid HND
    replace HKN := Lib.hid HKN
    replace HCN := Lib.hid HCN
    have HR := Lib.hid hr
    clear hr
    go_enter Try.func57, Try.ntmps57
    go_wp2_with (first
      | (go_at_call 65; (with_reducible refine (word4 _).mono ?_); rintro ex w1 ⟨rfl, rfl⟩)
      | (go_at_call 64; (with_reducible refine HNA.out.mono ?_); clear HNA; rintro ex w1 ⟨rfl, rfl⟩)
      | (go_at_call 64; (with_reducible refine HND.out.mono ?_); rintro ex w1 ⟨rfl, rfl⟩)
      | (go_at_call 66; (with_reducible refine HKN.out.mono ?_); rintro ex w1 ⟨rfl, rfl⟩)
      | (go_at_call 67; (with_reducible refine HCN.out.mono ?_); rintro ex w1 ⟨rfl, hf1⟩))
    all_goals go_ret
    all_goals exact ⟨by rw [HR.out]; try rfl, by first | exact HFA.out | exact HFA.out.trans hf1⟩


set_option maxRecDepth 100000 in
set_option maxHeartbeats 4000000 in
theorem may5 (c : Conf) (k a b d : Int) (l : List Int) (A : Option Addr) (n cap : Nat) (F : Nat → Prop) (at_ many : Nat) (w : World) (hl : Flat w F A n l) (hn : n ≤ 20000) (hk : k = 5) :
    Calls Try.prog 57 #[c.val, .agg #[.int .i64 k, .int .i64 a, .int .i64 b, .int .i64 d, .slice A n cap], .int .i64 at_, .int .i64 many] w fun e w' => e = .returned (.bool (mayB c ⟨k, a, b, d, l⟩ at_ many)) ∧ Fr (fun _ => False) w w' := by
  obtain ⟨r, hr⟩ : ∃ r, r = mayB c ⟨k, a, b, d, l⟩ at_ many := ⟨_, rfl⟩
  rw [← hr]
  unfold mayB at hr
  dsimp only at hr
  have hln : l.length = n := hl.len
  rw [hln] at hr
  have hfa := ((Fr.refl (fun _ => False) w).alloc (.cells #[.int .i64 c.r, .int .i64 c.o, .int .i64 c.s, .int .i64 c.wd, .int .i64 c.th, .int .i64 c.sl, .int .i64 c.rg, .int .i64 c.lk, .int .i64 c.un, .int .i64 c.es, .int .i64 c.tk, .int .i64 c.po] 23)).alloc (.cells #[.int .i64 k, .int .i64 a, .int .i64 b, .int .i64 d, .slice A n cap] 67)
  have hbx := (BoxConf.mk w c).frame ((Fr.refl (fun _ => False) _).alloc (.cells #[.int .i64 k, .int .i64 a, .int .i64 b, .int .i64 d, .slice A n cap] 67)) (fun x => x)
  have HNA := none_calls w.heap.size c a _ hbx
  have HND := none_calls w.heap.size c d _ hbx
  have HKN := knownC b ((w.alloc (.cells #[.int .i64 c.r, .int .i64 c.o, .int .i64 c.s, .int .i64 c.wd, .int .i64 c.th, .int .i64 c.sl, .int .i64 c.rg, .int .i64 c.lk, .int .i64 c.un, .int .i64 c.es, .int .i64 c.tk, .int .i64 c.po] 23)).alloc (.cells #[.int .i64 k, .int .i64 a, .int .i64 b, .int .i64 d, .slice A n cap] 67))
  have HCN := containsNone_calls w.heap.size c A n cap l F _ (hl.frame hfa (fun _ _ x => x.elim)) hn hbx
  have HFA := Lib.hid hfa
  clear hl hln hbx hfa
  unfold Conf.val
  generalize noneB c a = na at *
  generalize noneB c d = nd at *
  generalize known b = kn at *
  generalize l.any (noneB c) = cn at *
  subst hk
  have hc : (na = true) ∨ (na = false ∧ n ≠ 0) ∨ (na = false ∧ n = 0 ∧ ¬ (at_ : Int) < b) ∨ (na = false ∧ n = 0 ∧ (at_ : Int) < b) := by cases na <;> simp <;> omega
  rcases hc with rfl | ⟨rfl, hn0⟩ | ⟨rfl, rfl, hb⟩ | ⟨rfl, rfl, hb⟩
  · simp at hr
    replace HNA := Lib.hid HNA
    replace HND := Lib.hid HND
    replace HKN := Lib.hid HKN
    replace HCN := Lib.hid HCN
    have HR := Lib.hid hr
    clear hr
    go_enter Try.func57, Try.ntmps57
    go_wp2_with (first
      | (go_at_call 65; (with_reducible refine (word5 _).mono ?_); rintro ex w1 ⟨rfl, rfl⟩)
      | (go_at_call 64; (with_reducible refine HNA.out.mono ?_); clear HNA; rintro ex w1 ⟨rfl, rfl⟩)
      | (go_at_call 64; (with_reducible refine HND.out.mono ?_); rintro ex w1 ⟨rfl, rfl⟩)
      | (go_at_call 66; (with_reducible refine HKN.out.mono ?_); rintro ex w1 ⟨rfl, rfl⟩)
      | (go_at_call 67; (with_reducible refine HCN.out.mono ?_); rintro ex w1 ⟨rfl, hf1⟩))
    all_goals go_ret
    all_goals exact ⟨by rw [HR.out]; try rfl, by first | exact HFA.out | exact HFA.out.trans hf1⟩
  · have hp : decide ((0 : Int) < n) = true := by simp; omega
    simp [hn0] at hr
    replace HNA := Lib.hid HNA
    replace HND := Lib.hid HND
    replace HKN := Lib.hid HKN
    replace HCN := Lib.hid HCN
    have HR := Lib.hid hr
    clear hr
    go_enter Try.func57, Try.ntmps57
    go_wp2_with (first
      | (go_at_call 65; (with_reducible refine (word5 _).mono ?_); rintro ex w1 ⟨rfl, rfl⟩)
      | (go_at_call 64; (with_reducible refine HNA.out.mono ?_); clear HNA; rintro ex w1 ⟨rfl, rfl⟩)
      | (go_at_call 64; (with_reducible refine HND.out.mono ?_); rintro ex w1 ⟨rfl, rfl⟩)
      | (go_at_call 66; (with_reducible refine HKN.out.mono ?_); rintro ex w1 ⟨rfl, rfl⟩)
      | (go_at_call 67; (with_reducible refine HCN.out.mono ?_); rintro ex w1 ⟨rfl, hf1⟩))
    all_goals go_ret
    all_goals exact ⟨by rw [HR.out]; try rfl, by first | exact HFA.out | exact HFA.out.trans hf1⟩
  · have hq : decide ((at_ : Int) < b) = false := by simpa using hb
    simp [hb] at hr
    clear hb
    replace HNA := Lib.hid HNA
    replace HND := Lib.hid HND
    replace HKN := Lib.hid HKN
    replace HCN := Lib.hid HCN
    have HR := Lib.hid hr
    clear hr
    go_enter Try.func57, Try.ntmps57
    go_wp2_with (first
      | (go_at_call 65; (with_reducible refine (word5 _).mono ?_); rintro ex w1 ⟨rfl, rfl⟩)
      | (go_at_call 64; (with_reducible refine HNA.out.mono ?_); clear HNA; rintro ex w1 ⟨rfl, rfl⟩)
      | (go_at_call 64; (with_reducible refine HND.out.mono ?_); rintro ex w1 ⟨rfl, rfl⟩)
      | (go_at_call 66; (with_reducible refine HKN.out.mono ?_); rintro ex w1 ⟨rfl, rfl⟩)
      | (go_at_call 67; (with_reducible refine HCN.out.mono ?_); rintro ex w1 ⟨rfl, hf1⟩))
    all_goals go_ret
    all_goals exact ⟨by rw [HR.out]; try rfl, by first | exact HFA.out | exact HFA.out.trans hf1⟩
  · have hq : decide ((at_ : Int) < b) = true := by simpa using hb
    simp [hb] at hr
    clear hb
    replace HNA := Lib.hid HNA
    replace HND := Lib.hid HND
    replace HKN := Lib.hid HKN
    replace HCN := Lib.hid HCN
    have HR := Lib.hid hr
    clear hr
    go_enter Try.func57, Try.ntmps57
    go_wp2_with (first
      | (go_at_call 65; (with_reducible refine (word5 _).mono ?_); rintro ex w1 ⟨rfl, rfl⟩)
      | (go_at_call 64; (with_reducible refine HNA.out.mono ?_); clear HNA; rintro ex w1 ⟨rfl, rfl⟩)
      | (go_at_call 64; (with_reducible refine HND.out.mono ?_); rintro ex w1 ⟨rfl, rfl⟩)
      | (go_at_call 66; (with_reducible refine HKN.out.mono ?_); rintro ex w1 ⟨rfl, rfl⟩)
      | (go_at_call 67; (with_reducible refine HCN.out.mono ?_); rintro ex w1 ⟨rfl, hf1⟩))
    all_goals go_ret
    all_goals exact ⟨by rw [HR.out]; try rfl, by first | exact HFA.out | exact HFA.out.trans hf1⟩


set_option maxRecDepth 100000 in
set_option maxHeartbeats 4000000 in
theorem may6 (c : Conf) (k a b d : Int) (l : List Int) (A : Option Addr) (n cap : Nat) (F : Nat → Prop) (at_ many : Nat) (w : World) (hl : Flat w F A n l) (hn : n ≤ 20000) (hk : k = 6) :
    Calls Try.prog 57 #[c.val, .agg #[.int .i64 k, .int .i64 a, .int .i64 b, .int .i64 d, .slice A n cap], .int .i64 at_, .int .i64 many] w fun e w' => e = .returned (.bool (mayB c ⟨k, a, b, d, l⟩ at_ many)) ∧ Fr (fun _ => False) w w' := by
  obtain ⟨r, hr⟩ : ∃ r, r = mayB c ⟨k, a, b, d, l⟩ at_ many := ⟨_, rfl⟩
  rw [← hr]
  unfold mayB at hr
  dsimp only at hr
  have hln : l.length = n := hl.len
  rw [hln] at hr
  have hfa := ((Fr.refl (fun _ => False) w).alloc (.cells #[.int .i64 c.r, .int .i64 c.o, .int .i64 c.s, .int .i64 c.wd, .int .i64 c.th, .int .i64 c.sl, .int .i64 c.rg, .int .i64 c.lk, .int .i64 c.un, .int .i64 c.es, .int .i64 c.tk, .int .i64 c.po] 23)).alloc (.cells #[.int .i64 k, .int .i64 a, .int .i64 b, .int .i64 d, .slice A n cap] 67)
  have hbx := (BoxConf.mk w c).frame ((Fr.refl (fun _ => False) _).alloc (.cells #[.int .i64 k, .int .i64 a, .int .i64 b, .int .i64 d, .slice A n cap] 67)) (fun x => x)
  have HNA := none_calls w.heap.size c a _ hbx
  have HND := none_calls w.heap.size c d _ hbx
  have HKN := knownC b ((w.alloc (.cells #[.int .i64 c.r, .int .i64 c.o, .int .i64 c.s, .int .i64 c.wd, .int .i64 c.th, .int .i64 c.sl, .int .i64 c.rg, .int .i64 c.lk, .int .i64 c.un, .int .i64 c.es, .int .i64 c.tk, .int .i64 c.po] 23)).alloc (.cells #[.int .i64 k, .int .i64 a, .int .i64 b, .int .i64 d, .slice A n cap] 67))
  have HCN := containsNone_calls w.heap.size c A n cap l F _ (hl.frame hfa (fun _ _ x => x.elim)) hn hbx
  have HFA := Lib.hid hfa
  clear hl hln hbx hfa
  unfold Conf.val
  generalize noneB c a = na at *
  generalize noneB c d = nd at *
  generalize known b = kn at *
  generalize l.any (noneB c) = cn at *
  subst hk
  have hc : n ≠ 0 ∨ n = 0 := by omega
  rcases hc with hn0 | rfl
  · have hp : decide ((0 : Int) < n) = true := by simp; omega
    simp [hn0] at hr
    replace HNA := Lib.hid HNA
    replace HND := Lib.hid HND
    replace HKN := Lib.hid HKN
    replace HCN := Lib.hid HCN
    have HR := Lib.hid hr
    clear hr
    go_enter Try.func57, Try.ntmps57
    go_wp2_with (first
      | (go_at_call 65; (with_reducible refine (word6 _).mono ?_); rintro ex w1 ⟨rfl, rfl⟩)
      | (go_at_call 64; (with_reducible refine HNA.out.mono ?_); clear HNA; rintro ex w1 ⟨rfl, rfl⟩)
      | (go_at_call 64; (with_reducible refine HND.out.mono ?_); rintro ex w1 ⟨rfl, rfl⟩)
      | (go_at_call 66; (with_reducible refine HKN.out.mono ?_); rintro ex w1 ⟨rfl, rfl⟩)
      | (go_at_call 67; (with_reducible refine HCN.out.mono ?_); rintro ex w1 ⟨rfl, hf1⟩))
    all_goals go_ret
    all_goals exact ⟨by rw [HR.out]; try rfl, by first | exact HFA.out | exact HFA.out.trans hf1⟩
  · simp at hr
    replace HNA := Lib.hid HNA
    replace HND := Lib.hid HND
    replace HKN := Lib.hid HKN
    replace HCN := Lib.hid HCN
    have HR := Lib.hid hr
    clear hr
    go_enter Try.func57, Try.ntmps57
    go_wp2_with (first
      | (go_at_call 65; (with_reducible refine (word6 _).mono ?_); rintro ex w1 ⟨rfl, rfl⟩)
      | (go_at_call 64; (with_reducible refine HNA.out.mono ?_); clear HNA; rintro ex w1 ⟨rfl, rfl⟩)
      | (go_at_call 64; (with_reducible refine HND.out.mono ?_); rintro ex w1 ⟨rfl, rfl⟩)
      | (go_at_call 66; (with_reducible refine HKN.out.mono ?_); rintro ex w1 ⟨rfl, rfl⟩)
      | (go_at_call 67; (with_reducible refine HCN.out.mono ?_); rintro ex w1 ⟨rfl, hf1⟩))
    all_goals go_ret
    all_goals exact ⟨by rw [HR.out]; try rfl, by first | exact HFA.out | exact HFA.out.trans hf1⟩


set_option maxRecDepth 100000 in
set_option maxHeartbeats 4000000 in
theorem may7 (c : Conf) (k a b d : Int) (l : List Int) (A : Option Addr) (n cap : Nat) (F : Nat → Prop) (at_ many : Nat) (w : World) (hl : Flat w F A n l) (hn : n ≤ 20000) (hk : k = 7) :
    Calls Try.prog 57 #[c.val, .agg #[.int .i64 k, .int .i64 a, .int .i64 b, .int .i64 d, .slice A n cap], .int .i64 at_, .int .i64 many] w fun e w' => e = .returned (.bool (mayB c ⟨k, a, b, d, l⟩ at_ many)) ∧ Fr (fun _ => False) w w' := by
  obtain ⟨r, hr⟩ : ∃ r, r = mayB c ⟨k, a, b, d, l⟩ at_ many := ⟨_, rfl⟩
  rw [← hr]
  unfold mayB at hr
  dsimp only at hr
  have hln : l.length = n := hl.len
  rw [hln] at hr
  have hfa := ((Fr.refl (fun _ => False) w).alloc (.cells #[.int .i64 c.r, .int .i64 c.o, .int .i64 c.s, .int .i64 c.wd, .int .i64 c.th, .int .i64 c.sl, .int .i64 c.rg, .int .i64 c.lk, .int .i64 c.un, .int .i64 c.es, .int .i64 c.tk, .int .i64 c.po] 23)).alloc (.cells #[.int .i64 k, .int .i64 a, .int .i64 b, .int .i64 d, .slice A n cap] 67)
  have hbx := (BoxConf.mk w c).frame ((Fr.refl (fun _ => False) _).alloc (.cells #[.int .i64 k, .int .i64 a, .int .i64 b, .int .i64 d, .slice A n cap] 67)) (fun x => x)
  have HNA := none_calls w.heap.size c a _ hbx
  have HND := none_calls w.heap.size c d _ hbx
  have HKN := knownC b ((w.alloc (.cells #[.int .i64 c.r, .int .i64 c.o, .int .i64 c.s, .int .i64 c.wd, .int .i64 c.th, .int .i64 c.sl, .int .i64 c.rg, .int .i64 c.lk, .int .i64 c.un, .int .i64 c.es, .int .i64 c.tk, .int .i64 c.po] 23)).alloc (.cells #[.int .i64 k, .int .i64 a, .int .i64 b, .int .i64 d, .slice A n cap] 67))
  have HCN := containsNone_calls w.heap.size c A n cap l F _ (hl.frame hfa (fun _ _ x => x.elim)) hn hbx
  have HFA := Lib.hid hfa
  clear hl hln hbx hfa
  unfold Conf.val
  generalize noneB c a = na at *
  generalize noneB c d = nd at *
  generalize known b = kn at *
  generalize l.any (noneB c) = cn at *
  subst hk
  have hc : n ≠ 0 ∨ n = 0 := by omega
  rcases hc with hn0 | rfl
  · have hp : decide ((0 : Int) < n) = true := by simp; omega
    simp [hn0] at hr
    replace HNA := Lib.hid HNA
    replace HND := Lib.hid HND
    replace HKN := Lib.hid HKN
    replace HCN := Lib.hid HCN
    have HR := Lib.hid hr
    clear hr
    go_enter Try.func57, Try.ntmps57
    go_wp2_with (first
      | (go_at_call 65; (with_reducible refine (word7 _).mono ?_); rintro ex w1 ⟨rfl, rfl⟩)
      | (go_at_call 64; (with_reducible refine HNA.out.mono ?_); clear HNA; rintro ex w1 ⟨rfl, rfl⟩)
      | (go_at_call 64; (with_reducible refine HND.out.mono ?_); rintro ex w1 ⟨rfl, rfl⟩)
      | (go_at_call 66; (with_reducible refine HKN.out.mono ?_); rintro ex w1 ⟨rfl, rfl⟩)
      | (go_at_call 67; (with_reducible refine HCN.out.mono ?_); rintro ex w1 ⟨rfl, hf1⟩))
    all_goals go_ret
    all_goals exact ⟨by rw [HR.out]; try rfl, by first | exact HFA.out | exact HFA.out.trans hf1⟩
  · simp at hr
    replace HNA := Lib.hid HNA
    replace HND := Lib.hid HND
    replace HKN := Lib.hid HKN
    replace HCN := Lib.hid HCN
    have HR := Lib.hid hr
    clear hr
    go_enter Try.func57, Try.ntmps57
    go_wp2_with (first
      | (go_at_call 65; (with_reducible refine (word7 _).mono ?_); rintro ex w1 ⟨rfl, rfl⟩)
      | (go_at_call 64; (with_reducible refine HNA.out.mono ?_); clear HNA; rintro ex w1 ⟨rfl, rfl⟩)
      | (go_at_call 64; (with_reducible refine HND.out.mono ?_); rintro ex w1 ⟨rfl, rfl⟩)
      | (go_at_call 66; (with_reducible refine HKN.out.mono ?_); rintro ex w1 ⟨rfl, rfl⟩)
      | (go_at_call 67; (with_reducible refine HCN.out.mono ?_); rintro ex w1 ⟨rfl, hf1⟩))
    all_goals go_ret
    all_goals exact ⟨by rw [HR.out]; try rfl, by first | exact HFA.out | exact HFA.out.trans hf1⟩


set_option maxRecDepth 100000 in
set_option maxHeartbeats 4000000 in
theorem may0 (c : Conf) (k a b d : Int) (l : List Int) (A : Option Addr) (n cap : Nat) (F : Nat → Prop) (at_ many : Nat) (w : World) (hl : Flat w F A n l) (hn : n ≤ 20000) (hk : ¬ (1 ≤ k ∧ k ≤ 7)) :
    Calls Try.prog 57 #[c.val, .agg #[.int .i64 k, .int .i64 a, .int .i64 b, .int .i64 d, .slice A n cap], .int .i64 at_, .int .i64 many] w fun e w' => e = .returned (.bool (mayB c ⟨k, a, b, d, l⟩ at_ many)) ∧ Fr (fun _ => False) w w' := by
  obtain ⟨r, hr⟩ : ∃ r, r = mayB c ⟨k, a, b, d, l⟩ at_ many := ⟨_, rfl⟩
  rw [← hr]
  unfold mayB at hr
  dsimp only at hr
  have hln : l.length = n := hl.len
  rw [hln] at hr
  have hfa := ((Fr.refl (fun _ => False) w).alloc (.cells #[.int .i64 c.r, .int .i64 c.o, .int .i64 c.s, .int .i64 c.wd, .int .i64 c.th, .int .i64 c.sl, .int .i64 c.rg, .int .i64 c.lk, .int .i64 c.un, .int .i64 c.es, .int .i64 c.tk, .int .i64 c.po] 23)).alloc (.cells #[.int .i64 k, .int .i64 a, .int .i64 b, .int .i64 d, .slice A n cap] 67)
  have hbx := (BoxConf.mk w c).frame ((Fr.refl (fun _ => False) _).alloc (.cells #[.int .i64 k, .int .i64 a, .int .i64 b, .int .i64 d, .slice A n cap] 67)) (fun x => x)
  have HNA := none_calls w.heap.size c a _ hbx
  have HND := none_calls w.heap.size c d _ hbx
  have HKN := knownC b ((w.alloc (.cells #[.int .i64 c.r, .int .i64 c.o, .int .i64 c.s, .int .i64 c.wd, .int .i64 c.th, .int .i64 c.sl, .int .i64 c.rg, .int .i64 c.lk, .int .i64 c.un, .int .i64 c.es, .int .i64 c.tk, .int .i64 c.po] 23)).alloc (.cells #[.int .i64 k, .int .i64 a, .int .i64 b, .int .i64 d, .slice A n cap] 67))
  have HCN := containsNone_calls w.heap.size c A n cap l F _ (hl.frame hfa (fun _ _ x => x.elim)) hn hbx
  have HFA := Lib.hid hfa
  clear hl hln hbx hfa
  unfold Conf.val
  generalize noneB c a = na at *
  generalize noneB c d = nd at *
  generalize known b = kn at *
  generalize l.any (noneB c) = cn at *
  have hc : True := trivial
  rcases hc with _
  · rw [if_neg (by omega), if_neg (by omega), if_neg (by omega), if_neg (by omega), if_neg (by omega)] at hr
    replace HNA := Lib.hid HNA
    replace HND := Lib.hid HND
    replace HKN := Lib.hid HKN
    replace HCN := Lib.hid HCN
    have HR := Lib.hid hr
    clear hr
    go_enter Try.func57, Try.ntmps57
    go_wp2_with (first
      | (go_at_call 65; (with_reducible refine (word0 k _ hk).mono ?_); rintro ex w1 ⟨rfl, rfl⟩)
      | (go_at_call 64; (with_reducible refine HNA.out.mono ?_); clear HNA; rintro ex w1 ⟨rfl, rfl⟩)
      | (go_at_call 64; (with_reducible refine HND.out.mono ?_); rintro ex w1 ⟨rfl, rfl⟩)
      | (go_at_call 66; (with_reducible refine HKN.out.mono ?_); rintro ex w1 ⟨rfl, rfl⟩)
      | (go_at_call 67; (with_reducible refine HCN.out.mono ?_); rintro ex w1 ⟨rfl, hf1⟩))
    all_goals go_ret
    all_goals exact ⟨by rw [HR.out]; try rfl, by first | exact HFA.out | exact HFA.out.trans hf1⟩

theorem may_calls (c : Conf) (x : Ins) (A : Option Addr) (n cap : Nat) (F : Nat → Prop) (at_ many : Nat) (w : World) (hl : Flat w F A n x.l) (hn : n ≤ 20000) :
    Calls Try.prog 57 #[c.val, .agg #[.int .i64 x.k, .int .i64 x.a, .int .i64 x.b, .int .i64 x.c, .slice A n cap], .int .i64 at_, .int .i64 many] w fun e w' => e = .returned (.bool (mayB c x at_ many)) ∧ Fr (fun _ => False) w w' := by
  obtain ⟨k, a, b, d, l⟩ := x
  by_cases h : 1 ≤ k ∧ k ≤ 7
  · have : k = 1 ∨ k = 2 ∨ k = 3 ∨ k = 4 ∨ k = 5 ∨ k = 6 ∨ k = 7 := by omega
    rcases this with h1 | h1 | h1 | h1 | h1 | h1 | h1
    · exact may1 c k a b d l A n cap F at_ many w hl hn h1
    · exact may2 c k a b d l A n cap F at_ many w hl hn h1
    · exact may3 c k a b d l A n cap F at_ many w hl hn h1
    · exact may4 c k a b d l A n cap F at_ many w hl hn h1
    · exact may5 c k a b d l A n cap F at_ many w hl hn h1
    · exact may6 c k a b d l A n cap F at_ many w hl hn h1
    · exact may7 c k a b d l A n cap F at_ many w hl hn h1
  · exact may0 c k a b d l A n cap F at_ many w hl hn h
end Go.Proofs.Ytkaokhpaabfhmaa

