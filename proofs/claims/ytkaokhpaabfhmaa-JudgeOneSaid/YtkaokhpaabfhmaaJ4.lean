/- judge.Serial: what it answers. -/
import Derived.Test.YtkaokhpaabfhmaaJA2
namespace Go.Proofs.Ytkaokhpaabfhmaa
open Go.RowKit

/-! Programs of threads, as they lie in a world. -/
abbrev Thr := List (List (List Ins))
structure ProgsAt (w : World) (F : Nat → Prop) (A : Option Addr) (n : Nat) (ps : List (List Ins)) : Prop where
  len : ps.length = n
  at_ : 0 < n → ∃ ad, A = some ad ∧ F ad.block ∧ ∀ j, j < n → ∃ A' n' c', w.cell? (ad.add j) = some (.slice A' n' c') ∧ ProgAt w F A' n' c' (ps.getD j [])
structure ThrAt (w : World) (F : Nat → Prop) (A : Option Addr) (n : Nat) (ts : Thr) : Prop where
  len : ts.length = n
  at_ : 0 < n → ∃ ad, A = some ad ∧ F ad.block ∧ ∀ i, i < n → ∃ A' n' c', w.cell? (ad.add i) = some (.slice A' n' c') ∧ ProgsAt w F A' n' (ts.getD i [])
theorem ProgsAt.frame {w w' : World} {F S : Nat → Prop} {A : Option Addr} {n : Nat} {ps : List (List Ins)} (h : ProgsAt w F A n ps) (hf : Fr S w w') (hs : ∀ k, F k → S k → w.heap.size ≤ k) : ProgsAt w' F A n ps := by
  refine ⟨h.len, fun h0 => ?_⟩
  obtain ⟨ad, h1, h2, h3⟩ := h.at_ h0
  refine ⟨ad, h1, h2, fun j hj => ?_⟩
  obtain ⟨A', n', c', h4, h5⟩ := h3 j hj
  exact ⟨A', n', c', hf.cell h4 (fun x => by
    have := hs _ h2 (by rw [add_blk] at x; exact x)
    have := World.block_lt_of_cell? w _ h4
    rw [add_blk] at this
    omega), h5.frame hf hs⟩
theorem ThrAt.frame {w w' : World} {F S : Nat → Prop} {A : Option Addr} {n : Nat} {ts : Thr} (h : ThrAt w F A n ts) (hf : Fr S w w') (hs : ∀ k, F k → S k → w.heap.size ≤ k) : ThrAt w' F A n ts := by
  refine ⟨h.len, fun h0 => ?_⟩
  obtain ⟨ad, h1, h2, h3⟩ := h.at_ h0
  refine ⟨ad, h1, h2, fun j hj => ?_⟩
  obtain ⟨A', n', c', h4, h5⟩ := h3 j hj
  exact ⟨A', n', c', hf.cell h4 (fun x => by
    have := hs _ h2 (by rw [add_blk] at x; exact x)
    have := World.block_lt_of_cell? w _ h4
    rw [add_blk] at this
    omega), h5.frame hf hs⟩
def ShortT (ts : Thr) : Prop := ∀ i j, Short ((ts.getD i []).getD j [])

/-! How long a run's parts are. -/
theorem step_lensJ (s : PS) (c : Conf) (x : Ins) : (s.step c x).regs.length = s.regs.length ∧ (s.step c x).heap.length = s.heap.length ∧ s.rs.length ≤ (s.step c x).rs.length ∧ s.ws.length ≤ (s.step c x).ws.length ∧ (s.step c x).rs.length ≤ s.rs.length + 2 ∧ (s.step c x).ws.length ≤ s.ws.length + 2 := by
  unfold PS.step
  repeat' split
  all_goals (simp)
theorem runP_lensJ (c : Conf) (p : List Ins) : ∀ n at_ (s : PS), (runP c p n at_ s).regs.length = s.regs.length ∧ (runP c p n at_ s).heap.length = s.heap.length ∧ s.ws.length ≤ (runP c p n at_ s).ws.length ∧ (runP c p n at_ s).rs.length ≤ s.rs.length + 2 * n ∧ (runP c p n at_ s).ws.length ≤ s.ws.length + 2 * n
  | 0, _, s => ⟨rfl, rfl, Nat.le_refl _, by unfold runP; omega, by unfold runP; omega⟩
  | n + 1, at_, s => by
    by_cases h : at_ < p.length ∧ s.e = 1
    · rw [runP_go h.1 h.2]
      obtain ⟨h1, h2, h3, h4, h5⟩ := runP_lensJ c p n (s.next (p.getD at_ default) at_) (s.step c (p.getD at_ default))
      obtain ⟨g1, g2, g3, g4, g5, g6⟩ := step_lensJ s c (p.getD at_ default)
      exact ⟨by omega, by omega, by omega, by omega, by omega⟩
    · rw [runP_stop h]
      exact ⟨rfl, rfl, Nat.le_refl _, by omega, by omega⟩
theorem res_smallJ (c : Conf) (heap : List Int) (p : List Ins) (hh : heap.length ≤ 20000) : (resS c heap p).regs.length ≤ 20000 ∧ (resS c heap p).rs.length ≤ 20000 ∧ (resS c heap p).ws.length ≤ 20000 ∧ (resH c heap p).length ≤ 20000 := by
  by_cases hr : progOk c p = true ∧ (heap.length : Int) = c.words
  · obtain ⟨e1, e2, _⟩ := runs_full hr.1 hr.2
    rw [e1, e2]
    obtain ⟨hfn, hn60, _⟩ := progOk_iff.1 hr.1
    have hrg := hfn.2.1.2.2.1
    obtain ⟨h1, h2, _, h4, h5⟩ := runP_lensJ c p p.length 0 (begP c heap)
    have e : fullP c heap p = runP c p p.length 0 (begP c heap) := rfl
    rw [← e] at h1 h2 h4 h5
    have b1 : (begP c heap).regs.length = c.rg.toNat := by unfold begP; simp
    have b2 : (begP c heap).heap.length = heap.length := rfl
    have b3 : (begP c heap).rs.length = 0 := rfl
    have b4 : (begP c heap).ws.length = 0 := rfl
    refine ⟨by omega, by omega, by omega, ?_⟩
    unfold PS.after
    split <;> omega
  · obtain ⟨e1, e2, _⟩ := runs_not hr
    rw [e1, e2]
    simp


/-! What Serial answers. -/
def evS (e : Ev) : PS := ⟨e.gs, [], e.rs, e.ws, 1⟩
def progJ (ts : Thr) (e : Ev) : List Ins := (ts.getD e.th.toNat []).getD e.pr.toNat []
def noneJ (ts : Thr) (e : Ev) : Bool := decide (e.th < 0) || decide ((ts.length : Int) ≤ e.th) || decide (e.pr < 0) || decide (((ts.getD e.th.toNat []).length : Int) ≤ e.pr)
def badJ (c : Conf) (ts : Thr) (h : List Int) (e : Ev) : Bool := (resE c h (progJ ts e) != 0) || !sameB (resS c h (progJ ts e)) (evS e)
def serJ (c : Conf) (ts : Thr) : List Int → List Ev → List Int × Int
  | h, [] => (h, 0)
  | h, e :: es => if noneJ ts e then ([], 4) else if badJ c ts h e then ([], 2) else serJ c ts (resH c h (progJ ts e)) es
theorem runP_good {c : Conf} {p : List Ins} (hp : ∀ x ∈ p, I64 x.b) : ∀ n at_ (s : PS) m, Good c s m → ∃ m', Good c (runP c p n at_ s) m'
  | 0, _, s, m, h => ⟨m, h⟩
  | n + 1, at_, s, m, h => by
    by_cases hg : at_ < p.length ∧ s.e = 1
    · rw [runP_go hg.1 hg.2]
      exact runP_good hp n _ _ (m + 1) (h.step _ (hp _ (by rw [List.getD_eq_getElem?_getD, List.getElem?_eq_getElem hg.1]; exact List.getElem_mem _)))
    · rw [runP_stop hg]; exact ⟨m, h⟩
theorem resH_i64 {c : Conf} {heap : List Int} {p : List Ins} (hh : ∀ y ∈ heap, I64 y) (hp : ∀ x ∈ p, I64 x.b) : ∀ y ∈ resH c heap p, I64 y := by
  by_cases hr : progOk c p = true ∧ (heap.length : Int) = c.words
  · obtain ⟨_, e2, _⟩ := runs_full hr.1 hr.2
    rw [e2]
    have hrg := (progOk_iff.1 hr.1).1.2.1.2.2.1
    obtain ⟨m, hg⟩ := runP_good (c := c) hp p.length 0 (begP c heap) 0 (begP_good (by omega) hh hr.2)
    unfold PS.after
    split
    · exact hg.hi
    · exact hh
  · obtain ⟨_, e2, _⟩ := runs_not hr
    rw [e2]
    intro y hy; cases hy
theorem drop_step {es : List Ev} {i : Nat} (h : i < es.length) : es.drop i = es.getD i default :: es.drop (i + 1) := by
  rw [List.drop_eq_getElem_cons h, List.getD_eq_getElem?_getD, List.getElem?_eq_getElem h]; rfl


set_option maxRecDepth 100000 in
set_option maxHeartbeats 8000000 in
theorem serial_calls (c : Conf) (H : Option Addr) (hn hcap : Nat) (heap : List Int) (T : Option Addr) (tn tc : Nat) (ts : Thr) (u : Value) (es : List Ev) (F G GT : Nat → Prop) (w : World) (hh : Flat w F H hn heap) (hi : ∀ y ∈ heap, I64 y) (h2 : hn ≤ 20000) (hw : (hn : Int) = c.words) (ht : ThrAt w GT T tn ts) (hst : ShortT ts) (hu : EvsAt w G u es) (hs : Smalls es) :
    Calls Try.prog 10 #[c.val, .slice H hn hcap, .slice T tn tc, u] w fun e w' => ∃ A' n' c', e = .returned (.tuple #[.slice A' n' c', .int .i64 (serJ c ts heap (es.filter (·.keeps 2 []))).2]) ∧ Flat w' (fun k => w.heap.size ≤ k) A' n' (serJ c ts heap (es.filter (·.keeps 2 []))).1 ∧ Fr (fun _ => False) w w' := by
  have HW := Lib.hid (words_calls c)
  have hd : ((hn : Int) != c.words) = false := by simpa using hw
  have HC := Lib.hid (fun w' (hf : Fr (fun _ => False) w w') => cloneInts_calls H hn hcap heap F w' (hh.frame hf (fun _ _ x => x.elim)) h2)
  have HK := Lib.hid (fun w' (hf : Fr (fun _ => False) w w') => commits_calls u es G w' (hu.frame hf (fun _ _ x => x.elim)) hs)
  have HTH := Lib.hid (fun w' (hf : Fr (fun _ => False) w w') => ht.frame hf (fun _ _ x => x.elim))
  have HSH := Lib.hid hst
  have HTL := Lib.hid ht.len
  have hsf := hs.filter (·.keeps 2 [])
  have HSM := Lib.hid hsf
  generalize es.filter (·.keeps 2 []) = cs at *
  have HBX := Lib.hid (fun w' (hf : Fr (fun _ => False) (w.alloc (.cells #[.int .i64 c.r, .int .i64 c.o, .int .i64 c.s, .int .i64 c.wd, .int .i64 c.th, .int .i64 c.sl, .int .i64 c.rg, .int .i64 c.lk, .int .i64 c.un, .int .i64 c.es, .int .i64 c.tk, .int .i64 c.po] 23)) w') => ((BoxConf.mk w c).frame hf (fun x => x)).all)
  have HI := Lib.hid hi
  obtain ⟨U, uc, ucs, rfl, _⟩ := id hu.ex
  clear hw hh hu hs ht hst hi hsf
  have HRUN := Lib.hid (fun (A : Option Addr) (n cap : Nat) (h : List Int) (B : Option Addr) (m d : Nat) (p : List Ins) (F G : Nat → Prop) (w' : World) (h1 : ProgAt w' F B m d p) (h2 : Short p) (h3 : Flat w' G A n h) (h4 : ∀ y ∈ h, I64 y) => run_calls c A n cap h B m d p F G w' h1 h2 h3 h4)
  unfold Conf.val at *
  have hk := (Fr.refl (fun _ => False) w).alloc (.cells #[.int .i64 c.r, .int .i64 c.o, .int .i64 c.s, .int .i64 c.wd, .int .i64 c.th, .int .i64 c.sl, .int .i64 c.rg, .int .i64 c.lk, .int .i64 c.un, .int .i64 c.es, .int .i64 c.tk, .int .i64 c.po] 23)
  have hbk := Fr.refl (fun _ => False) (w.alloc (.cells #[.int .i64 c.r, .int .i64 c.o, .int .i64 c.s, .int .i64 c.wd, .int .i64 c.th, .int .i64 c.sl, .int .i64 c.rg, .int .i64 c.lk, .int .i64 c.un, .int .i64 c.es, .int .i64 c.tk, .int .i64 c.po] 23))
  go_enter Try.func10, Try.ntmps10
  go_wp2_with (first
    | (go_at_call 23
       (with_reducible refine (HW.out _).mono ?_)
       rintro ex w4 ⟨rfl, hf4⟩
       replace hk := hk.trans hf4
       replace hbk := hbk.trans hf4
       clear hf4)
    | (go_at_call 24
       (with_reducible refine (HC.out _ hk).mono ?_)
       rintro ex w5 ⟨A5, c5, rfl, hfl, hf5⟩
       have HFL := Lib.hid (hfl.mono (G := fun k => w.heap.size ≤ k) (fun k _ x => Nat.le_trans hk.size x))
       replace hk := hk.trans hf5
       replace hbk := hbk.trans hf5
       clear hfl hf5)
    | (go_at_call 16
       (with_reducible refine (HK.out _ hk).mono ?_)
       rintro ex w6 ⟨v6, rfl, ho6, hf6⟩
       have HEV := Lib.hid ((ho6.at_ (fun _ x => x)))
       obtain ⟨A6, c6, rfl⟩ := ho6.shape
       have HF6 := Lib.hid hf6
       have HK6 := Lib.hid (hk.trans hf6)
       have HB6 := Lib.hid (hbk.trans hf6)
       clear ho6 hf6 hk hbk))
  clear hd
  generalize hcl : cs.length = m at *
  have HCL := Lib.hid hcl
  have hm : m ≤ 20000 := by have := HSM.out.1; omega
  clear hcl
  go_loopw [10, 12, 13, 14, 15, 26] (fun v10 _ _ _ _ v26 wr => ∃ (i : Nat) (h : List Int) (A : Option Addr) (n d : Nat), i ≤ m ∧ v26 = .int .i64 i ∧ v10 = .slice A n d ∧ Flat wr (fun k => w.heap.size ≤ k) A n h ∧ (∀ y ∈ h, I64 y) ∧ h.length ≤ 20000 ∧ serJ c ts h (cs.drop i) = serJ c ts heap cs ∧ Fr (fun _ => False) w6 wr) (fun _ _ _ _ _ v26 _ => m - (intOf v26).toNat)
  case atStart => exact ⟨0, heap, A5, hn, c5, Nat.zero_le _, rfl, rfl, HFL.out.frame HF6.out (fun _ _ x => x.elim), HI.out, by rw [HFL.out.len]; exact h2, rfl, Fr.refl _ _⟩
  case round =>
    obtain ⟨i, h, A, n, d, him, rfl, rfl, hfl, hi64, hhl, hser, hf⟩ := hrel
    have HFLH := Lib.hid hfl
    have HI64 := Lib.hid hi64
    have HSER := Lib.hid hser
    have HF := Lib.hid hf
    clear hfl hi64 hser hf
    by_cases hlt : i < m
    · obtain ⟨A9, c9, cells, ev, _, _, _, hce, hrow⟩ := id HEV.out.ex
      injection ev with ev1 ev2 ev3
      subst ev1
      obtain ⟨ad, rfl, _, hcell⟩ := hce (by rw [HCL.out]; omega)
      obtain ⟨A1, n1, k1, A2, n2, k2, A3, n3, k3, hra, hlie⟩ := hrow i (by rw [HCL.out]; exact hlt)
      obtain ⟨p0, p1, p2, p3, p4, p5, p6, p7, p8, p9⟩ := row_cells (fun t u htt => HF.out.cell (hcell t u htt) (fun x => x)) hra
      have hsv := HSER.out
      rw [drop_step (by rw [HCL.out]; exact hlt)] at hsv
      generalize cs.getD i default = x at *
      have HSV := Lib.hid hsv
      have HLIE := Lib.hid (fun w' (hw : Fr (fun _ => False) wr w') => hlie.frame (HF.out.trans hw) (fun _ _ x => x.elim))
      have hmi : ¬ m ≤ i := by omega
      have HTW := Lib.hid (fun w' (hw : Fr (fun _ => False) wr w') => HTH.out w' (HK6.out.trans (HF.out.trans hw)))
      clear ev2 ev3 hce hrow hcell hra hlie hsv
      obtain ⟨xk, xth, xpr, xtr, xti, xst, xca, xrs, xws, xgs⟩ := x
      dsimp only at p0 p1 p2 p3 p4 p5 p6
      by_cases g1 : xth < 0
      · have e1 : decide (xth < 0) = true := by simpa using g1
        have HV := Lib.hid (show serJ c ts heap cs = ([], 4) from by
          rw [← HSV.out]; unfold serJ; rw [if_pos (by unfold noneJ; rw [e1]; rfl)])
        have HFA := Lib.hid (HF.out.alloc (.cells #[.int .i64 xk, .int .i64 xth, .int .i64 xpr, .int .i64 xtr, .int .i64 xti, .int .i64 xst, .int .i64 xca, .slice A1 n1 k1, .slice A2 n2 k2, .slice A3 n3 k3] 50))
        have HB := Lib.hid (fun w' (hf : Fr (fun _ => False) (wr.alloc (.cells #[.int .i64 xk, .int .i64 xth, .int .i64 xpr, .int .i64 xtr, .int .i64 xti, .int .i64 xst, .int .i64 xca, .slice A1 n1 k1, .slice A2 n2 k2, .slice A3 n3 k3] 50)) w') => box10 (e := ⟨xk, xth, xpr, xtr, xti, xst, xca, xrs, xws, xgs⟩) (x := .slice A1 n1 k1) (y := .slice A2 n2 k2) (z := .slice A3 n3 k3) (hf.heap (heap_alloc_new wr _) (fun x => x)))
        dsimp only at HB
        obtain ⟨b0, b1, b2, b3, b4, b5, b6, b7, b8, b9⟩ := HB.out _ (Fr.refl _ _)
        go_wp2
        go_quiet (fail)
        go_wp2
        refine bodyPost_ret (by simp [results, Try.results10, go_sem]; try rfl) rfl ⟨none, 0, 0, by rw [HV.out], by rw [HV.out]; exact Flat.nil _ _ _, HK6.out.trans (HFA.out.drewN _)⟩
      · have e1 : decide (xth < 0) = false := by simpa using g1
        by_cases g2 : (tn : Int) ≤ xth
        · have e2 : decide ((tn : Int) ≤ xth) = true := by simpa using g2
          have HV := Lib.hid (show serJ c ts heap cs = ([], 4) from by
            rw [← HSV.out]; unfold serJ; rw [if_pos (by unfold noneJ; rw [e1, HTL.out, e2]; rfl)])
          have HFA := Lib.hid (HF.out.alloc (.cells #[.int .i64 xk, .int .i64 xth, .int .i64 xpr, .int .i64 xtr, .int .i64 xti, .int .i64 xst, .int .i64 xca, .slice A1 n1 k1, .slice A2 n2 k2, .slice A3 n3 k3] 50))
          have HB := Lib.hid (fun w' (hf : Fr (fun _ => False) (wr.alloc (.cells #[.int .i64 xk, .int .i64 xth, .int .i64 xpr, .int .i64 xtr, .int .i64 xti, .int .i64 xst, .int .i64 xca, .slice A1 n1 k1, .slice A2 n2 k2, .slice A3 n3 k3] 50)) w') => box10 (e := ⟨xk, xth, xpr, xtr, xti, xst, xca, xrs, xws, xgs⟩) (x := .slice A1 n1 k1) (y := .slice A2 n2 k2) (z := .slice A3 n3 k3) (hf.heap (heap_alloc_new wr _) (fun x => x)))
          dsimp only at HB
          obtain ⟨b0, b1, b2, b3, b4, b5, b6, b7, b8, b9⟩ := HB.out _ (Fr.refl _ _)
          go_wp2
          go_quiet (fail)
          go_wp2
          refine bodyPost_ret (by simp [results, Try.results10, go_sem]; try rfl) rfl ⟨none, 0, 0, by rw [HV.out], by rw [HV.out]; exact Flat.nil _ _ _, HK6.out.trans (HFA.out.drewN _)⟩
        · have e2 : decide ((tn : Int) ≤ xth) = false := by simpa using g2
          obtain ⟨t, rfl⟩ := Int.eq_ofNat_of_zero_le (show 0 ≤ xth by omega)
          have htn : t < tn := by omega
          have htn2 : ¬ tn ≤ t := by omega
          obtain ⟨adT, rfl, _, hth⟩ := (HTH.out _ (HK6.out.trans HF.out)).at_ (by omega)
          obtain ⟨AI, ni, ci, hcI, hpI⟩ := hth t htn
          have HPI := Lib.hid hpI
          have HCI := Lib.hid hcI
          clear hth hpI
          by_cases g3 : xpr < 0
          · have e3 : decide (xpr < 0) = true := by simpa using g3
            have HV := Lib.hid (show serJ c ts heap cs = ([], 4) from by
              rw [← HSV.out]; unfold serJ; rw [if_pos (by unfold noneJ; rw [HTL.out]; dsimp only; rw [e1, e2, e3]; rfl)])
            have HFA := Lib.hid (HF.out.alloc (.cells #[.int .i64 xk, .int .i64 t, .int .i64 xpr, .int .i64 xtr, .int .i64 xti, .int .i64 xst, .int .i64 xca, .slice A1 n1 k1, .slice A2 n2 k2, .slice A3 n3 k3] 50))
            have HB := Lib.hid (fun w' (hf : Fr (fun _ => False) (wr.alloc (.cells #[.int .i64 xk, .int .i64 t, .int .i64 xpr, .int .i64 xtr, .int .i64 xti, .int .i64 xst, .int .i64 xca, .slice A1 n1 k1, .slice A2 n2 k2, .slice A3 n3 k3] 50)) w') => box10 (e := ⟨xk, t, xpr, xtr, xti, xst, xca, xrs, xws, xgs⟩) (x := .slice A1 n1 k1) (y := .slice A2 n2 k2) (z := .slice A3 n3 k3) (hf.heap (heap_alloc_new wr _) (fun x => x)))
            dsimp only at HB
            obtain ⟨b0, b1, b2, b3, b4, b5, b6, b7, b8, b9⟩ := HB.out _ (Fr.refl _ _)
            go_wp2
            go_quiet (fail)
            go_wp2
            refine bodyPost_ret (by simp [results, Try.results10, go_sem]; try rfl) rfl ⟨none, 0, 0, by rw [HV.out], by rw [HV.out]; exact Flat.nil _ _ _, HK6.out.trans (HFA.out.drewN _)⟩
          · have e3 : decide (xpr < 0) = false := by simpa using g3
            by_cases g4 : (ni : Int) ≤ xpr
            · have e4 : decide ((ni : Int) ≤ xpr) = true := by simpa using g4
              have hc4 : (wr.alloc (.cells #[.int .i64 xk, .int .i64 t, .int .i64 xpr, .int .i64 xtr, .int .i64 xti, .int .i64 xst, .int .i64 xca, .slice A1 n1 k1, .slice A2 n2 k2, .slice A3 n3 k3] 50)).cell? (adT.add t) = some (.slice AI ni ci) := ((Fr.refl (fun _ => False) wr).alloc _).cell HCI.out (fun x => x)
              have HV := Lib.hid (show serJ c ts heap cs = ([], 4) from by
                rw [← HSV.out]; unfold serJ; rw [if_pos (by unfold noneJ; rw [HTL.out]; dsimp only; rw [e1, e2, e3, Int.toNat_natCast, HPI.out.len, e4]; rfl)])
              have HFA := Lib.hid (HF.out.alloc (.cells #[.int .i64 xk, .int .i64 t, .int .i64 xpr, .int .i64 xtr, .int .i64 xti, .int .i64 xst, .int .i64 xca, .slice A1 n1 k1, .slice A2 n2 k2, .slice A3 n3 k3] 50))
              have HB := Lib.hid (fun w' (hf : Fr (fun _ => False) (wr.alloc (.cells #[.int .i64 xk, .int .i64 t, .int .i64 xpr, .int .i64 xtr, .int .i64 xti, .int .i64 xst, .int .i64 xca, .slice A1 n1 k1, .slice A2 n2 k2, .slice A3 n3 k3] 50)) w') => box10 (e := ⟨xk, t, xpr, xtr, xti, xst, xca, xrs, xws, xgs⟩) (x := .slice A1 n1 k1) (y := .slice A2 n2 k2) (z := .slice A3 n3 k3) (hf.heap (heap_alloc_new wr _) (fun x => x)))
              dsimp only at HB
              obtain ⟨b0, b1, b2, b3, b4, b5, b6, b7, b8, b9⟩ := HB.out _ (Fr.refl _ _)
              go_wp2
              go_quiet (fail)
              go_wp2
              refine bodyPost_ret (by simp [results, Try.results10, go_sem]; try rfl) rfl ⟨none, 0, 0, by rw [HV.out], by rw [HV.out]; exact Flat.nil _ _ _, HK6.out.trans (HFA.out.drewN _)⟩
            · have e4 : decide ((ni : Int) ≤ xpr) = false := by simpa using g4
              obtain ⟨q, rfl⟩ := Int.eq_ofNat_of_zero_le (show 0 ≤ xpr by omega)
              have hqn : q < ni := by omega
              have hqn2 : ¬ ni ≤ q := by omega
              obtain ⟨adI, rfl, _, hin⟩ := HPI.out.at_ (by omega)
              obtain ⟨AQ, nq1, cq1, hcQ, hpQ⟩ := hin q hqn
              have HPQ := Lib.hid hpQ
              have HCQ := Lib.hid hcQ
              clear hin hpQ
              have hc4 : (wr.alloc (.cells #[.int .i64 xk, .int .i64 t, .int .i64 q, .int .i64 xtr, .int .i64 xti, .int .i64 xst, .int .i64 xca, .slice A1 n1 k1, .slice A2 n2 k2, .slice A3 n3 k3] 50)).cell? (adT.add t) = some (.slice (some adI) ni ci) := ((Fr.refl (fun _ => False) wr).alloc _).cell HCI.out (fun x => x)
              have hc5 : (wr.alloc (.cells #[.int .i64 xk, .int .i64 t, .int .i64 q, .int .i64 xtr, .int .i64 xti, .int .i64 xst, .int .i64 xca, .slice A1 n1 k1, .slice A2 n2 k2, .slice A3 n3 k3] 50)).cell? (adI.add q) = some (.slice AQ nq1 cq1) := ((Fr.refl (fun _ => False) wr).alloc _).cell HCQ.out (fun x => x)
              have HNJ := Lib.hid (show noneJ ts ⟨xk, t, q, xtr, xti, xst, xca, xrs, xws, xgs⟩ = false from by
                unfold noneJ
                rw [HTL.out]
                dsimp only
                rw [e1, e2, e3, Int.toNat_natCast, HPI.out.len, e4]; rfl)
              have HPJ := Lib.hid (show progJ ts ⟨xk, t, q, xtr, xti, xst, xca, xrs, xws, xgs⟩ = (ts.getD t []).getD q [] from by unfold progJ; dsimp only; rw [Int.toNat_natCast, Int.toNat_natCast])
              have HSP := Lib.hid (HSH.out t q)
              have HPP := Lib.hid HPQ.out.i64
              generalize hpp : (ts.getD t []).getD q [] = p at *
              obtain ⟨l1, l2, l3, l4⟩ := res_smallJ c h p hhl
              have HBD := Lib.hid (show badJ c ts h ⟨xk, t, q, xtr, xti, xst, xca, xrs, xws, xgs⟩ = ((resE c h p != 0) || !sameB (resS c h p) ⟨xgs, [], xrs, xws, 1⟩) from by unfold badJ; rw [HPJ.out]; rfl)
              have HRI := Lib.hid (resH_i64 (c := c) HI64.out HPP.out)
              have HRUN2 := Lib.hid (fun w' (hw : Fr (fun _ => False) wr w') => HRUN.out A n d h AQ nq1 cq1 p _ _ w' (HPQ.out.frame hw (fun _ _ x => x.elim)) HSP.out (HFLH.out.frame hw (fun _ _ x => x.elim)) HI64.out)
              have HSV2 := Lib.hid (show serJ c ts heap cs = if badJ c ts h ⟨xk, t, q, xtr, xti, xst, xca, xrs, xws, xgs⟩ then ([], 2) else serJ c ts (resH c h p) (cs.drop (i + 1)) from by
                rw [← HSV.out]
                conv => lhs; unfold serJ
                rw [HNJ.out, HPJ.out]; rfl)
              rw [HBD.out] at HSV2
              generalize resS c h p = RS at *
              generalize resH c h p = RH at *
              generalize resE c h p = RE at *
              obtain ⟨sb, hsb⟩ : ∃ sb, sameB RS ⟨xgs, [], xrs, xws, 1⟩ = sb := ⟨_, rfl⟩
              rw [hsb] at HSV2
              have HSB := Lib.hid hsb
              clear hsb hpp HBD HNJ HPJ
              have HFA := Lib.hid (HF.out.alloc (.cells #[.int .i64 xk, .int .i64 t, .int .i64 q, .int .i64 xtr, .int .i64 xti, .int .i64 xst, .int .i64 xca, .slice A1 n1 k1, .slice A2 n2 k2, .slice A3 n3 k3] 50))
              have HB := Lib.hid (fun w' (hf : Fr (fun _ => False) (wr.alloc (.cells #[.int .i64 xk, .int .i64 t, .int .i64 q, .int .i64 xtr, .int .i64 xti, .int .i64 xst, .int .i64 xca, .slice A1 n1 k1, .slice A2 n2 k2, .slice A3 n3 k3] 50)) w') => box10 (e := ⟨xk, t, q, xtr, xti, xst, xca, xrs, xws, xgs⟩) (x := .slice A1 n1 k1) (y := .slice A2 n2 k2) (z := .slice A3 n3 k3) (hf.heap (heap_alloc_new wr _) (fun x => x)))
              dsimp only at HB
              obtain ⟨b0, b1, b2, b3, b4, b5, b6, b7, b8, b9⟩ := HB.out _ (Fr.refl _ _)
              have HKA := Lib.hid (fun w' (hw : Fr (fun _ => False) (wr.alloc (.cells #[.int .i64 xk, .int .i64 t, .int .i64 q, .int .i64 xtr, .int .i64 xti, .int .i64 xst, .int .i64 xca, .slice A1 n1 k1, .slice A2 n2 k2, .slice A3 n3 k3] 50)) w') => And.intro (HBX.out w' (HB6.out.trans (HFA.out.trans hw))) (And.intro (HB.out w' hw).2.1 (And.intro (HB.out w' hw).2.2.1 (And.intro ((((Fr.refl (fun _ => False) wr).alloc _).trans hw).cell HCI.out (fun x => x)) ((((Fr.refl (fun _ => False) wr).alloc _).trans hw).cell HCQ.out (fun x => x))))))
              go_wp2
              go_quiet (fail)
              go_wp2
              have HW0 := Lib.hid (show Fr (fun _ => False) (wr.alloc (.cells #[.int .i64 xk, .int .i64 t, .int .i64 q, .int .i64 xtr, .int .i64 xti, .int .i64 xst, .int .i64 xca, .slice A1 n1 k1, .slice A2 n2 k2, .slice A3 n3 k3] 50)) ((wr.alloc (.cells #[.int .i64 xk, .int .i64 t, .int .i64 q, .int .i64 xtr, .int .i64 xti, .int .i64 xst, .int .i64 xca, .slice A1 n1 k1, .slice A2 n2 k2, .slice A3 n3 k3] 50)).drewN nq) from (Fr.refl _ _).drewN _)
              generalize (wr.alloc (.cells #[.int .i64 xk, .int .i64 t, .int .i64 q, .int .i64 xtr, .int .i64 xti, .int .i64 xst, .int .i64 xca, .slice A1 n1 k1, .slice A2 n2 k2, .slice A3 n3 k3] 50)).drewN nq = W at *
              clear b0 b1 b2 b3 b4 b5 b6 b7 b8 b9 hc4 hc5 e1 e2 e3 e4
              have HWW := Lib.hid (show w.heap.size ≤ W.heap.size from (HK6.out.trans (HF.out.trans (((Fr.refl (fun _ => False) wr).alloc (.cells #[.int .i64 xk, .int .i64 t, .int .i64 q, .int .i64 xtr, .int .i64 xti, .int .i64 xst, .int .i64 xca, .slice A1 n1 k1, .slice A2 n2 k2, .slice A3 n3 k3] 50)).trans HW0.out))).size)
              have hWs := HW0.out.size
              go_cut [13, 14, 15] from 56 to 71 (fun v13 v14 v15 wx => ∃ ob B1 m1 d1 B2 m2 d2 B3 m3 d3 B4 m4 d4 b0, v13 = .pointer (some ⟨ob, 0, none⟩) ∧ v14 = .slice B4 m4 d4 ∧ v15 = .int .i64 RE ∧ w.heap.size ≤ b0 ∧ wx.heap[ob]? = some (.cells #[.int .i64 RS.e, .slice B1 m1 d1, .slice B2 m2 d2, .slice B3 m3 d3] 46) ∧ RunIs wx b0 RS RH B1 m1 B2 m2 B3 m3 B4 m4 ∧ Fr (fun _ => False) W wx)
              case first =>
                go_region_held3 (fun w' => (w'.cell? ⟨w.heap.size, 0, none⟩ = some (.int .i64 c.r) ∧ w'.cell? ⟨w.heap.size, 1, none⟩ = some (.int .i64 c.o) ∧ w'.cell? ⟨w.heap.size, 2, none⟩ = some (.int .i64 c.s) ∧ w'.cell? ⟨w.heap.size, 3, none⟩ = some (.int .i64 c.wd) ∧ w'.cell? ⟨w.heap.size, 4, none⟩ = some (.int .i64 c.th) ∧ w'.cell? ⟨w.heap.size, 5, none⟩ = some (.int .i64 c.sl) ∧ w'.cell? ⟨w.heap.size, 6, none⟩ = some (.int .i64 c.rg) ∧ w'.cell? ⟨w.heap.size, 7, none⟩ = some (.int .i64 c.lk) ∧ w'.cell? ⟨w.heap.size, 8, none⟩ = some (.int .i64 c.un) ∧ w'.cell? ⟨w.heap.size, 9, none⟩ = some (.int .i64 c.es) ∧ w'.cell? ⟨w.heap.size, 10, none⟩ = some (.int .i64 c.tk) ∧ w'.cell? ⟨w.heap.size, 11, none⟩ = some (.int .i64 c.po)) ∧ w'.cell? ⟨wr.heap.size, 1, none⟩ = some (.int .i64 t) ∧ w'.cell? ⟨wr.heap.size, 2, none⟩ = some (.int .i64 q) ∧ w'.cell? (adT.add t) = some (.slice (some adI) ni ci) ∧ w'.cell? (adI.add q) = some (.slice AQ nq1 cq1))
                  (first | exact HKA.out _ (HW0.out.trans (g8.alloc _)) | exact HKA.out _ (HW0.out.trans g8) | exact HKA.out _ HW0.out.drew | exact HKA.out _ (HW0.out.trans ((Fr.refl (fun _ => False) W).alloc _).drew) | exact HKA.out _ (HW0.out.trans' g9 (fun k x y => by omega)) | go_keep)
                  (first
                  | (go_at_call 25
                     first
                     | (with_reducible refine (HRUN2.out _ (((Fr.refl (fun _ => False) wr).alloc (.cells #[.int .i64 xk, .int .i64 t, .int .i64 q, .int .i64 xtr, .int .i64 xti, .int .i64 xst, .int .i64 xca, .slice A1 n1 k1, .slice A2 n2 k2, .slice A3 n3 k3] 50)).trans HW0.out.drew)).mono ?_)
                       rintro ex w8 ⟨B1, m1, d1, B2, m2, d2, B3, m3, d3, B4, m4, d4, rfl, ho8, hf8⟩
                       have g8 : Fr (fun _ => False) W w8 := (Fr.refl (fun _ => False) W).drew.trans hf8
                       have HO8 := Lib.hid (show RunIs w8 W.heap.size RS RH B1 m1 B2 m2 B3 m3 B4 m4 from ho8)
                       clear ho8
                     | (with_reducible refine (HRUN2.out _ (((Fr.refl (fun _ => False) wr).alloc (.cells #[.int .i64 xk, .int .i64 t, .int .i64 q, .int .i64 xtr, .int .i64 xti, .int .i64 xst, .int .i64 xca, .slice A1 n1 k1, .slice A2 n2 k2, .slice A3 n3 k3] 50)).trans (HW0.out.trans ((Fr.refl (fun _ => False) W).alloc (.cells #[.int .i64 0, .slice none 0 0, .slice none 0 0, .slice none 0 0] 46)).drew))).mono ?_)
                       rintro ex w8 ⟨B1, m1, d1, B2, m2, d2, B3, m3, d3, B4, m4, d4, rfl, ho8, hf8⟩
                       have g8 : Fr (fun _ => False) W w8 := ((Fr.refl (fun _ => False) W).alloc (.cells #[.int .i64 0, .slice none 0 0, .slice none 0 0, .slice none 0 0] 46)).drew.trans hf8
                       have hob := hf8.heap (show (W.alloc (.cells #[.int .i64 0, .slice none 0 0, .slice none 0 0, .slice none 0 0] 46)).drew.heap[W.heap.size]? = some (.cells #[.int .i64 0, .slice none 0 0, .slice none 0 0, .slice none 0 0] 46) from heap_alloc_new W (.cells #[.int .i64 0, .slice none 0 0, .slice none 0 0, .slice none 0 0] 46)) (fun x => x)
                       have z0 : w8.cell? ⟨W.heap.size, 0, none⟩ = some (.int .i64 0) := by rw [blk_cell hob]; rfl
                       have z1 : w8.cell? ⟨W.heap.size, 1, none⟩ = some (.slice none 0 0) := by rw [blk_cell hob]; rfl
                       have z2 : w8.cell? ⟨W.heap.size, 2, none⟩ = some (.slice none 0 0) := by rw [blk_cell hob]; rfl
                       have z3 : w8.cell? ⟨W.heap.size, 3, none⟩ = some (.slice none 0 0) := by rw [blk_cell hob]; rfl
                       have y0 : w8.frozen? ⟨W.heap.size, 0, none⟩ = false := by rw [blk_free hob]
                       have y1 : w8.frozen? ⟨W.heap.size, 1, none⟩ = false := by rw [blk_free hob]
                       have y2 : w8.frozen? ⟨W.heap.size, 2, none⟩ = false := by rw [blk_free hob]
                       have y3 : w8.frozen? ⟨W.heap.size, 3, none⟩ = false := by rw [blk_free hob]
                       have HOB := Lib.hid hob
                       have HO8 := Lib.hid (show RunIs w8 (W.heap.size + 1) RS RH B1 m1 B2 m2 B3 m3 B4 m4 from by have h := ho8; rw [show (W.alloc (.cells #[.int .i64 0, .slice none 0 0, .slice none 0 0, .slice none 0 0] 46)).drew.heap.size = W.heap.size + 1 from by show (W.alloc (.cells #[.int .i64 0, .slice none 0 0, .slice none 0 0, .slice none 0 0] 46)).heap.size = _; simp] at h; exact h)
                       have g9 : Fr (fun k => k = W.heap.size) W ((((w8.setCell ⟨W.heap.size, 0, none⟩ (.int .i64 RS.e)).setCell ⟨W.heap.size, 1, none⟩ (.slice B1 m1 d1)).setCell ⟨W.heap.size, 2, none⟩ (.slice B2 m2 d2)).setCell ⟨W.heap.size, 3, none⟩ (.slice B3 m3 d3)) := (g8.mono (fun _ x => x.elim)).trans (fr_out w8 W.heap.size _ _ _ _)
                       clear ho8 hob))
                all_goals
                  go_wp2
                  go_meet
                  case rel =>
                    first
                    | exact ⟨_, B1, m1, d1, B2, m2, d2, B3, m3, d3, B4, m4, d4, W.heap.size, rfl, rfl, rfl, HWW.out, heap_alloc_new w8 _, HO8.out.frame ((Fr.refl (fun _ => False) w8).alloc _) (fun _ _ x => x.elim), g8.alloc _⟩
                    | exact ⟨_, B1, m1, d1, B2, m2, d2, B3, m3, d3, B4, m4, d4, W.heap.size + 1, rfl, rfl, rfl, by have := HWW.out; omega, by rw [blk_set (blk_set (blk_set (blk_set HOB.out 0 _) 1 _) 2 _) 3 _]; rfl, HO8.out.frame (fr_out w8 W.heap.size _ _ _ _) (fun k x y => by omega), (g9.mono (fun k x => by omega)).fresh'⟩
              case rest =>
                obtain ⟨ob, B1, m1, d1, B2, m2, d2, B3, m3, d3, B4, m4, d4, bz, rfl, rfl, rfl, hb0, hob, hri, hfw⟩ := hcut
                have HRW := Lib.hid (show Fr (fun _ => False) wr wc from ((Fr.refl (fun _ => False) wr).alloc (.cells #[.int .i64 xk, .int .i64 t, .int .i64 q, .int .i64 xtr, .int .i64 xti, .int .i64 xst, .int .i64 xca, .slice A1 n1 k1, .slice A2 n2 k2, .slice A3 n3 k3] 50)).trans (HW0.out.trans hfw))
                have HOBX := Lib.hid (fun w' (hw : Fr (fun _ => False) wc w') => out_box (hw.heap hob (fun x => x)) rfl)
                have HRIS := Lib.hid hri
                have HBZ := Lib.hid hb0
                have hs1 : m1 ≤ 20000 := by have := hri.g.len; omega
                have hs2 : m2 ≤ 20000 := by have := hri.r.len; omega
                have hs3 : m3 ≤ 20000 := by have := hri.w_.len; omega
                have hsame := fun w' (hw : Fr (fun _ => False) wc w') => same_calls RS ⟨xgs, [], xrs, xws, 1⟩ B1 m1 d1 B2 m2 d2 B3 m3 d3 A3 n3 k3 A1 n1 k1 A2 n2 k2 _ _ w' (hri.frame hw (fun _ _ x => x.elim)).g (hri.frame hw (fun _ _ x => x.elim)).r (hri.frame hw (fun _ _ x => x.elim)).w_ (HLIE.out w' (HRW.out.trans hw)).g (HLIE.out w' (HRW.out.trans hw)).r (HLIE.out w' (HRW.out.trans hw)).w_ hs1 hs2 hs3
                rw [HSB.out] at hsame
                have HSAME := Lib.hid hsame
                obtain ⟨o0, o1, o2, o3⟩ := HOBX.out _ (Fr.refl _ _)
                obtain ⟨b0, b1, b2, b3, b4, b5, b6, b7, b8, b9⟩ := HB.out _ (HW0.out.trans hfw)
                clear hob hri hfw hsame hb0
                by_cases hre : RE = 0
                · have hrd : (RE != 0) = false := by simpa using hre
                  clear hre
                  cases sb with
                  | false =>
                    have HV := Lib.hid (show serJ c ts heap cs = ([], 2) from by rw [HSV2.out, hrd]; rfl)
                    go_wp2_with (go_at_call 26; (with_reducible refine (HSAME.out _ (Fr.refl _ _)).mono ?_); rintro ex w9 ⟨rfl, hf9⟩)
                    refine bodyPost_ret (by simp [results, Try.results10, go_sem]; try rfl) rfl ⟨none, 0, 0, by rw [HV.out], by rw [HV.out]; exact Flat.nil _ _ _, HK6.out.trans (HF.out.trans (HRW.out.trans hf9))⟩
                  | true =>
                    have HV := Lib.hid (show serJ c ts heap cs = serJ c ts RH (cs.drop (i + 1)) from by rw [HSV2.out, hrd]; rfl)
                    go_wp2_with (go_at_call 26; (with_reducible refine (HSAME.out _ (Fr.refl _ _)).mono ?_); rintro ex w9 ⟨rfl, hf9⟩)
                    go_roundw
                    case rel => exact ⟨i + 1, RH, B4, m4, d4, by omega, by go_num, rfl, (HRIS.out.h.mono (fun k _ x => Nat.le_trans HBZ.out x)).frame hf9 (fun _ _ x => x.elim), HRI.out, l4, HV.out.symm, HF.out.trans (HRW.out.trans hf9)⟩
                    case measure => simp [intOf]; omega
                · have hrd : (RE != 0) = true := by simpa using hre
                  clear hre
                  have HV := Lib.hid (show serJ c ts heap cs = ([], 2) from by rw [HSV2.out, hrd]; rfl)
                  go_wp2
                  refine bodyPost_ret (by simp [results, Try.results10, go_sem]; try rfl) rfl (by first | exact ⟨none, 0, 0, by rw [HV.out], by rw [HV.out]; exact Flat.nil _ _ _, HK6.out.trans (HF.out.trans HRW.out)⟩ | exact ⟨none, 0, ⟨0, by rw [HV.out]⟩, by rw [HV.out]; exact Flat.nil _ _ _, HK6.out.trans (HF.out.trans HRW.out)⟩)
    · obtain rfl : i = m := by omega
      have hser := HSER.out
      rw [List.drop_of_length_le (by rw [HCL.out]; exact Nat.le_refl _)] at hser
      go_wp2
      refine bodyPost_ret (by simp [results, Try.results10, go_sem]; try rfl) rfl ⟨A, n, d, by rw [← hser]; rfl, by rw [← hser]; exact HFLH.out, HK6.out.trans HF.out⟩
end Go.Proofs.Ytkaokhpaabfhmaa
