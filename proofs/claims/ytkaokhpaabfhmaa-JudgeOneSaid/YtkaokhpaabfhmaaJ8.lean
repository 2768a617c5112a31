/- Programs of threads that came in; ltklaw18.Few. -/
import Derived.Test.YtkaokhpaabfhmaaJ4
import Derived.Test.YtkaokhpaabfhmaaRefShape
import Derived.Test.YtkaokhpaabfhmaaEvC
import Derived.Test.YtkaokhpaabfhmaaPA
namespace Go.Proofs.Ytkaokhpaabfhmaa
open Go.RowKit

/-! Lists of lists of programs that came in. -/
def rdProg : Rd (List Ins) := fun W p cs => ∃ A n c, cs = [.slice A n c] ∧ ProgAt W (fun _ => True) A n c p
theorem opens_prog : Opens Try.prog 40 rdProg := by
  intro H enc W sp fuel cs y h
  obtain ⟨p, hp⟩ := (opens_slice (P := Try.prog) (sz := 5) Try.underlying40 (by kernel_rfl) opens_ins) H enc W sp fuel cs y h
  obtain ⟨A, n, c, rfl⟩ := rdSlice_cells hp
  exact ⟨p, A, n, c, rfl, ProgAt.of hp⟩
theorem ProgsAt.of {W : World} {A : Option Addr} {n cap : Nat} {ps : List (List Ins)} (h : rdSlice rdProg 1 W ps [.slice A n cap]) : ProgsAt W (fun _ => True) A n ps := by
  rcases h with ⟨h1, rfl⟩ | ⟨a, len, cap', h1, h2, h3, h4, h5⟩
  · simp at h1; obtain ⟨rfl, rfl, rfl⟩ := h1
    exact ⟨rfl, fun h => absurd h (Nat.lt_irrefl _)⟩
  · simp at h1; obtain ⟨rfl, rfl, rfl⟩ := h1
    subst h4
    refine ⟨rfl, fun _ => ⟨a, rfl, trivial, fun j hj => ?_⟩⟩
    obtain ⟨c, hc, hv, A', n', c', hs, hp⟩ := h5 j ps[j] (List.getElem?_eq_getElem hj)
    subst hs
    rw [List.getD_eq_getElem?_getD, List.getElem?_eq_getElem hj]
    refine ⟨A', n', c', ?_, hp⟩
    have := hv 0 _ rfl
    rwa [show j * 1 + 0 = j by omega] at this
def rdProgs : Rd (List (List Ins)) := fun W p cs => ∃ A n c, cs = [.slice A n c] ∧ ProgsAt W (fun _ => True) A n p
theorem opens_progs : Opens Try.prog 51 rdProgs := by
  intro H enc W sp fuel cs y h
  obtain ⟨p, hp⟩ := (opens_slice (P := Try.prog) (sz := 1) Try.underlying51 (by kernel_rfl) opens_prog) H enc W sp fuel cs y h
  obtain ⟨A, n, c, rfl⟩ := rdSlice_cells hp
  exact ⟨p, A, n, c, rfl, ProgsAt.of hp⟩
theorem ThrAt.of {W : World} {A : Option Addr} {n cap : Nat} {ts : Thr} (h : rdSlice rdProgs 1 W ts [.slice A n cap]) : ThrAt W (fun _ => True) A n ts := by
  rcases h with ⟨h1, rfl⟩ | ⟨a, len, cap', h1, h2, h3, h4, h5⟩
  · simp at h1; obtain ⟨rfl, rfl, rfl⟩ := h1
    exact ⟨rfl, fun h => absurd h (Nat.lt_irrefl _)⟩
  · simp at h1; obtain ⟨rfl, rfl, rfl⟩ := h1
    subst h4
    refine ⟨rfl, fun _ => ⟨a, rfl, trivial, fun j hj => ?_⟩⟩
    obtain ⟨c, hc, hv, A', n', c', hs, hp⟩ := h5 j ts[j] (List.getElem?_eq_getElem hj)
    subst hs
    rw [List.getD_eq_getElem?_getD, List.getElem?_eq_getElem hj]
    refine ⟨A', n', c', ?_, hp⟩
    have := hv 0 _ rfl
    rwa [show j * 1 + 0 = j by omega] at this
/-- A heap that came in, with its room. -/
structure IntsZ (w : World) (A : Option Addr) (n cap : Nat) (xs : List Int) : Prop where
  flat : Flat w (fun _ => True) A n xs
  i64 : ∀ y ∈ xs, I64 y
  nil_ : A = none → cap = 0
theorem IntsZ.of {W : World} {A : Option Addr} {n cap : Nat} {xs : List Int} (h : rdSlice rdInt 1 W xs [.slice A n cap]) : IntsZ W A n cap xs := by
  have := IntsW.of h
  refine ⟨this.flat, this.i64, fun hA => ?_⟩
  rcases h with ⟨h1, _⟩ | ⟨a, len, cap', h1, _⟩
  · simp at h1; exact h1.2.2
  · simp at h1; rw [hA] at h1; exact absurd h1.1 (by simp)

theorem box_all (w : World) (c : Conf) : ∀ w' (_ : Fr (fun _ => False) (w.alloc (.cells #[.int .i64 c.r, .int .i64 c.o, .int .i64 c.s, .int .i64 c.wd, .int .i64 c.th, .int .i64 c.sl, .int .i64 c.rg, .int .i64 c.lk, .int .i64 c.un, .int .i64 c.es, .int .i64 c.tk, .int .i64 c.po] 23)) w'),
    w'.cell? ⟨w.heap.size, 0, none⟩ = some (.int .i64 c.r) ∧ w'.cell? ⟨w.heap.size, 1, none⟩ = some (.int .i64 c.o) ∧ w'.cell? ⟨w.heap.size, 2, none⟩ = some (.int .i64 c.s) ∧ w'.cell? ⟨w.heap.size, 3, none⟩ = some (.int .i64 c.wd) ∧
    w'.cell? ⟨w.heap.size, 4, none⟩ = some (.int .i64 c.th) ∧ w'.cell? ⟨w.heap.size, 5, none⟩ = some (.int .i64 c.sl) ∧ w'.cell? ⟨w.heap.size, 6, none⟩ = some (.int .i64 c.rg) ∧ w'.cell? ⟨w.heap.size, 7, none⟩ = some (.int .i64 c.lk) ∧
    w'.cell? ⟨w.heap.size, 8, none⟩ = some (.int .i64 c.un) ∧ w'.cell? ⟨w.heap.size, 9, none⟩ = some (.int .i64 c.es) ∧ w'.cell? ⟨w.heap.size, 10, none⟩ = some (.int .i64 c.tk) ∧ w'.cell? ⟨w.heap.size, 11, none⟩ = some (.int .i64 c.po) :=
  fun _ h => ((BoxConf.mk w c).frame h (fun x => x)).all


/-! Few. -/
def sumL (ps : List (List Ins)) : Nat := (ps.map List.length).sum
def sumT (ts : Thr) : Nat := (ts.map sumL).sum
theorem sumL_step {ps : List (List Ins)} {j : Nat} (h : j < ps.length) : sumL (ps.take (j + 1)) = sumL (ps.take j) + (ps.getD j []).length := by
  unfold sumL
  rw [List.take_add_one, List.getElem?_eq_getElem h, List.getD_eq_getElem?_getD, List.getElem?_eq_getElem h]
  simp only [List.map_append, List.sum_append, Option.toList, List.map_cons, List.map_nil, List.sum_cons, List.sum_nil, Option.getD_some, Nat.add_zero]
theorem sumT_step {ts : Thr} {j : Nat} (h : j < ts.length) : sumT (ts.take (j + 1)) = sumT (ts.take j) + sumL (ts.getD j []) := by
  unfold sumT
  rw [List.take_add_one, List.getElem?_eq_getElem h, List.getD_eq_getElem?_getD, List.getElem?_eq_getElem h]
  simp only [List.map_append, List.sum_append, Option.toList, List.map_cons, List.map_nil, List.sum_cons, List.sum_nil, Option.getD_some, Nat.add_zero]
def okP (ps : List (List Ins)) : Prop := ps.length ≤ 30 ∧ ∀ j, j < ps.length → fewP (ps.getD j []) = true
def few18P (c : Conf) (hn : Nat) (ts : Thr) : Prop := ts.length ≤ 70 ∧ (∀ i, i < ts.length → okP (ts.getD i [])) ∧ sumT ts ≤ 1000 ∧ hn ≤ 5000 ∧ (c.th ≤ 12 ∨ 64 < c.th)
open Classical in
noncomputable def few18 (c : Conf) (hn : Nat) (ts : Thr) : Bool := decide (few18P c hn ts)
theorem few18_true {c : Conf} {hn : Nat} {ts : Thr} (h : few18 c hn ts = true) : few18P c hn ts := by
  unfold few18 at h; exact @of_decide_eq_true _ (Classical.propDecidable _) h
theorem few18_false {c : Conf} {hn : Nat} {ts : Thr} (h : ¬ few18P c hn ts) : few18 c hn ts = false := by
  unfold few18; exact @decide_eq_false _ (Classical.propDecidable _) h
theorem few18_short {c : Conf} {hn : Nat} {ts : Thr} (h : few18 c hn ts = true) : ShortT ts := by
  intro i j
  have hp := (few18_true h).2.1
  by_cases h1 : i < ts.length
  · by_cases h2 : j < (ts.getD i []).length
    · exact fewP_short ((hp i h1).2 j h2)
    · rw [List.getD_eq_getElem?_getD (l := ts.getD i []), List.getElem?_eq_none (by omega)]
      intro x hx; cases hx
  · rw [List.getD_eq_getElem?_getD (l := ts), List.getElem?_eq_none (by omega)]
    intro x hx; simp at hx

set_option maxRecDepth 100000 in
set_option maxHeartbeats 4000000 in
theorem few18_calls (c : Conf) (H : Option Addr) (hn hcap : Nat) (T : Option Addr) (tn tc : Nat) (ts : Thr) (GT : Nat → Prop) (w : World) (ht : ThrAt w GT T tn ts) :
    Calls Try.prog 8 #[c.val, .slice H hn hcap, .slice T tn tc] w fun e w' => e = .returned (.bool (few18 c hn ts)) ∧ Fr (fun _ => False) w w' := by
  obtain ⟨r, hr⟩ : ∃ r, r = few18 c hn ts := ⟨_, rfl⟩
  rw [← hr]
  have HR := Lib.hid hr
  have HTL := Lib.hid ht.len
  have HTH := Lib.hid (fun w' (hf : Fr (fun _ => False) w w') => ht.frame hf (fun _ _ x => x.elim))
  clear hr ht
  have HBX := Lib.hid (box_all w c)
  unfold Conf.val at *
  have hk := (Fr.refl (fun _ => False) w).alloc (.cells #[.int .i64 c.r, .int .i64 c.o, .int .i64 c.s, .int .i64 c.wd, .int .i64 c.th, .int .i64 c.sl, .int .i64 c.rg, .int .i64 c.lk, .int .i64 c.un, .int .i64 c.es, .int .i64 c.tk, .int .i64 c.po] 23)
  have hbk := Fr.refl (fun _ => False) (w.alloc (.cells #[.int .i64 c.r, .int .i64 c.o, .int .i64 c.s, .int .i64 c.wd, .int .i64 c.th, .int .i64 c.sl, .int .i64 c.rg, .int .i64 c.lk, .int .i64 c.un, .int .i64 c.es, .int .i64 c.tk, .int .i64 c.po] 23))
  have HW0 := Lib.hid hk
  clear hk
  go_enter Try.func8, Try.ntmps8
  go_wp2
  generalize w.alloc (.cells #[.int .i64 c.r, .int .i64 c.o, .int .i64 c.s, .int .i64 c.wd, .int .i64 c.th, .int .i64 c.sl, .int .i64 c.rg, .int .i64 c.lk, .int .i64 c.un, .int .i64 c.es, .int .i64 c.tk, .int .i64 c.po] 23) = wB at *
  go_loopw [7, 8, 9] (fun v7 v8 _ wr => ∃ t m : Nat, t ≤ tn ∧ t ≤ 70 ∧ v8 = .int .i64 t ∧ v7 = .int .i64 m ∧ m ≤ t * 6000 ∧ sumT (ts.take t) = m ∧ (∀ k, k < t → okP (ts.getD k [])) ∧ Fr (fun _ => False) wB wr) (fun _ v8 _ _ => tn - (intOf v8).toNat)
  case atStart => exact ⟨0, 0, Nat.zero_le _, by omega, rfl, rfl, by omega, rfl, fun k hk => absurd hk (Nat.not_lt_zero _), hbk⟩
  case round =>
    clear hbk
    obtain ⟨t, m, htn, ht7, rfl, rfl, hm, hs, hok, hf⟩ := hrel
    have HS := Lib.hid hs
    have HOK := Lib.hid hok
    have HF := Lib.hid hf
    clear hs hok hf
    by_cases hlt : t < tn
    · by_cases h7 : t < 70
      · obtain ⟨adT, rfl, _, hth⟩ := (HTH.out _ (HW0.out.trans HF.out)).at_ (by omega)
        obtain ⟨AI, ni, ci, hcI, hpI⟩ := hth t hlt
        have HPL := Lib.hid hpI.len
        have HPI := Lib.hid (fun w' (hw : Fr (fun _ => False) wr w') => And.intro (hw.cell hcI (fun x => x)) (hpI.frame hw (fun _ _ x => x.elim)))
        have hss := sumT_step (ts := ts) (j := t) (by rw [HTL.out]; exact hlt)
        rw [HS.out] at hss
        have HSS := Lib.hid hss
        have HFL := Lib.hid (fun (h : ¬ okP (ts.getD t [])) => few18_false (c := c) (hn := hn) (ts := ts) (fun h2 => h (h2.2.1 t (by rw [HTL.out]; exact hlt))))
        have HOK2 := Lib.hid (fun (h : okP (ts.getD t [])) k (hk : k < t + 1) => show okP (ts.getD k []) from by
          by_cases e : k = t
          · rw [e]; exact h
          · exact HOK.out k (by omega))
        clear hth hpI hcI hss
        generalize ts.getD t [] = ps at *
        have hd7 : decide ((t : Int) < 70) = true := by simp; omega
        go_wp2
        go_loopw [7, 9] (fun v7 v9 wq => ∃ i m' : Nat, i ≤ ni ∧ i ≤ 30 ∧ v9 = .int .i64 i ∧ v7 = .int .i64 m' ∧ m' ≤ m + i * 200 ∧ m + sumL (ps.take i) = m' ∧ (∀ k, k < i → fewP (ps.getD k []) = true) ∧ Fr (fun _ => False) wr wq) (fun _ v9 _ => ni - (intOf v9).toNat)
        case atStart => exact ⟨0, m, Nat.zero_le _, by omega, rfl, rfl, by omega, by unfold sumL; simp, fun k hk => absurd hk (Nat.not_lt_zero _), by first | exact Fr.refl _ _ | exact (Fr.refl _ _).drew | exact (Fr.refl _ _).drewN _⟩
        case round =>
          obtain ⟨i, m', hin, hi3, rfl, rfl, hm', hsl, hfw, hfq⟩ := hrel
          rename World => wq
          have HSL := Lib.hid hsl
          have HFW := Lib.hid hfw
          have HFQ := Lib.hid hfq
          obtain ⟨hcI, hpI⟩ := HPI.out _ hfq
          clear hsl hfw hfq
          by_cases hil : i < ni
          · by_cases h3 : i < 30
            · obtain ⟨adI, rfl, _, hin2⟩ := hpI.at_ (by omega)
              obtain ⟨AQ, nq, cq, hcQ, hpQ⟩ := hin2 i hil
              have HQL := Lib.hid hpQ.len
              have HQ := Lib.hid (fun w' (hw : Fr (fun _ => False) wq w') => And.intro (hw.cell hcI (fun x => x)) (And.intro (hw.cell hcQ (fun x => x)) (few6_calls AQ nq cq _ _ w' (hpQ.frame hw (fun _ _ x => x.elim)))))
              have hss := sumL_step (ps := ps) (j := i) (by rw [HPL.out]; exact hil)
              have HSX := Lib.hid hss
              have HFL2 := Lib.hid (fun h : fewP (ps.getD i []) = false => HFL.out (fun h2 => by have := h2.2 i (by rw [HPL.out]; exact hil); rw [h] at this; cases this))
              have HFW2 := Lib.hid (fun (h : fewP (ps.getD i []) = true) k (hk : k < i + 1) => show fewP (ps.getD k []) = true from by
                by_cases e : k = i
                · rw [e]; exact h
                · exact HFW.out k (by omega))
              have HMX := Lib.hid (fun h : fewP (ps.getD i []) = true => (fewP_iff.1 h).1)
              have hcI0 := hcI
              have hcQ0 := hcQ
              clear hpI hin2 hpQ hss
              generalize ps.getD i [] = p at *
              cases hfp : fewP p with
              | false =>
                have HV := Lib.hid (HFL2.out hfp)
                rw [hfp] at HQ
                clear hfp
                go_wp2_with (go_at_call 22; (with_reducible refine ((HQ.out _ (by first | exact Fr.refl _ _ | exact (Fr.refl _ _).drew | exact (Fr.refl _ _).drewN _)).2.2).mono ?_); rintro ex w4 ⟨rfl, hf4⟩)
                go_ret
                exact ⟨by rw [HR.out, HV.out]; simp, by first | exact HW0.out.trans (HF.out.trans (HFQ.out.trans hf4)) | exact HW0.out.trans (HF.out.trans (HFQ.out.trans ((Fr.refl _ _).drew.trans hf4)))⟩
              | true =>
                have hlq := HMX.out hfp
                rw [HQL.out] at hlq
                rw [hfp] at HQ
                have HFP := Lib.hid hfp
                have s1 : IntKind.i64.wrap ((m' : Int) + (nq : Int)) = (m' : Int) + (nq : Int) := by rw [IntKind.wrap_i64]; omega
                clear hfp
                go_wp2_with (go_at_call 22; (with_reducible refine ((HQ.out _ (by first | exact Fr.refl _ _ | exact (Fr.refl _ _).drew | exact (Fr.refl _ _).drewN _)).2.2).mono ?_); rintro ex w4 ⟨rfl, hf4⟩; have hcI := hf4.cell hcI0 (fun x => x); have hcQ := hf4.cell hcQ0 (fun x => x))
                go_roundw
                case rel =>
                  refine ⟨i + 1, m' + nq, by omega, by omega, by go_num, by go_num, by omega, ?_, HFW2.out HFP.out, by first | exact HFQ.out.trans hf4 | exact HFQ.out.trans ((Fr.refl _ _).drew.trans hf4)⟩
                  rw [HSX.out, HQL.out, ← HSL.out]; omega
                case measure => simp [intOf]; omega
            · obtain rfl : i = 30 := by omega
              have hg : decide ((ni : Int) > 30) = true := by simp; omega
              have HV := Lib.hid (HFL.out (fun h2 => by have := h2.1; rw [HPL.out] at this; omega))
              go_wp2
              go_ret
              exact ⟨by rw [HR.out, HV.out]; simp, by first | exact HW0.out.trans (HF.out.trans HFQ.out) | exact HW0.out.trans (HF.out.trans (HFQ.out.drewN _)) | exact HW0.out.trans (HF.out.trans HFQ.out.drew)⟩
          · obtain rfl : i = ni := by omega
            have hg : decide ((i : Int) > 30) = false := by simp; omega
            go_wp2
            go_roundw
            case rel =>
              refine ⟨t + 1, m', by omega, by omega, by go_num, rfl, by omega, ?_, ?_, by first | exact HF.out.trans HFQ.out | exact HF.out.trans (HFQ.out.drewN _)⟩
              · have := HSL.out
                rw [← HPL.out, List.take_length] at this
                rw [HSS.out, this]
              · exact HOK2.out ⟨by rw [HPL.out]; exact hi3, fun j hj => HFW.out j (by rw [HPL.out] at hj; exact hj)⟩
            case measure => simp [intOf]; omega
      · obtain rfl : t = 70 := by omega
        have HV := Lib.hid (few18_false (c := c) (hn := hn) (ts := ts) (fun h2 => by have := h2.1; rw [HTL.out] at this; omega))
        have hg : decide ((tn : Int) ≤ 70) = false := by simp; omega
        go_wp2
        go_ret
        exact ⟨by rw [HR.out, HV.out]; simp, HW0.out.trans HF.out⟩
    · obtain rfl : t = tn := by omega
      obtain ⟨c0, c1, c2, c3, c4, c5, c6, c7, c8, c9, c10, c11⟩ := HBX.out _ HF.out
      clear c0 c1 c2 c3 c5 c6 c7 c8 c9 c10 c11
      have hst : sumT ts = m := by have := HS.out; rwa [← HTL.out, List.take_length] at this
      have HSTT := Lib.hid hst
      clear hst
      by_cases q1 : m ≤ 1000
      · by_cases q2 : hn ≤ 5000
        · by_cases q3 : c.th ≤ 12
          · have HV := Lib.hid (show few18 c hn ts = true from @decide_eq_true _ (Classical.propDecidable _) ⟨by rw [HTL.out]; exact ht7, fun i hi => HOK.out i (by rw [HTL.out] at hi; exact hi), by rw [HSTT.out]; exact q1, q2, .inl q3⟩)
            go_wp2
            all_goals go_ret
            all_goals exact ⟨by rw [HR.out, HV.out]; simp_all, HW0.out.trans HF.out⟩
          · by_cases q4 : 64 < c.th
            · have HV := Lib.hid (show few18 c hn ts = true from @decide_eq_true _ (Classical.propDecidable _) ⟨by rw [HTL.out]; exact ht7, fun i hi => HOK.out i (by rw [HTL.out] at hi; exact hi), by rw [HSTT.out]; exact q1, q2, .inr q4⟩)
              go_wp2
              all_goals go_ret
              all_goals exact ⟨by rw [HR.out, HV.out]; simp_all, HW0.out.trans HF.out⟩
            · have HV := Lib.hid (few18_false (c := c) (hn := hn) (ts := ts) (fun h2 => by have := h2.2.2.2.2; omega))
              go_wp2
              all_goals go_ret
              all_goals exact ⟨by rw [HR.out, HV.out]; simp_all, HW0.out.trans HF.out⟩
        · have HV := Lib.hid (few18_false (c := c) (hn := hn) (ts := ts) (fun h2 => q2 h2.2.2.2.1))
          go_wp2
          all_goals go_ret
          all_goals exact ⟨by rw [HR.out, HV.out]; simp_all, HW0.out.trans HF.out⟩
      · have HV := Lib.hid (few18_false (c := c) (hn := hn) (ts := ts) (fun h2 => by have := h2.2.2.1; rw [HSTT.out] at this; exact q1 this))
        go_wp2
        all_goals go_ret
        all_goals exact ⟨by rw [HR.out, HV.out]; simp_all, HW0.out.trans HF.out⟩

/-! ltkref20.Serial where the heap's length is another. -/
set_option maxRecDepth 100000 in
set_option maxHeartbeats 2000000 in
theorem refSerialRange_calls (c : Conf) (H : Option Addr) (hn hcap : Nat) (T : Option Addr) (tn tc : Nat) (U : Option Addr) (un uc : Nat) (w : World) (hw : (hn : Int) ≠ c.words) :
    Calls Try.prog 11 #[c.val, .slice H hn hcap, .slice T tn tc, .slice U un uc] w fun e w' => e = .returned (.tuple #[.slice none 0 0, .int .i64 1]) ∧ Fr (fun _ => False) w w' := by
  have HW := Lib.hid (ref_words_calls c)
  have hd : ((hn : Int) != c.words) = true := by simpa using hw
  clear hw
  unfold Conf.val at *
  have hk := (Fr.refl (fun _ => False) w).alloc (.cells #[.int .i64 c.r, .int .i64 c.o, .int .i64 c.s, .int .i64 c.wd, .int .i64 c.th, .int .i64 c.sl, .int .i64 c.rg, .int .i64 c.lk, .int .i64 c.un, .int .i64 c.es, .int .i64 c.tk, .int .i64 c.po] 23)
  go_enter Try.func11, Try.ntmps11
  go_wp2_with (go_at_call 19; (with_reducible refine (HW.out _).mono ?_); rintro ex w4 ⟨rfl, hf4⟩; replace hk := hk.trans hf4; clear hf4)
  refine bodyPost_ret (by simp [results, Try.results11, go_sem]; try rfl) rfl ⟨rfl, hk⟩
end Go.Proofs.Ytkaokhpaabfhmaa
