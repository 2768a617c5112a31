/- ltklaw20.JudgeOne answers true. -/
import Derived.Test.YtkaokhpaabfhmaaJW
namespace Go.Proofs.Ytkaokhpaabfhmaa
open Go.RowKit


/-! One behind the other. -/
def hN (c : Conf) (p : List Ins) (heap : List Int) : Nat → List Int
  | 0 => heap
  | n + 1 => resH c (hN c p heap n) p
def evB (i : Nat) : Ev := ⟨1, 0, 0, i, 0, 0, 0, [], [], []⟩
def evC (c : Conf) (p : List Ins) (heap : List Int) (i : Nat) : Ev := ⟨2, 0, 0, i, 0, 0, 0, (resS c (hN c p heap i) p).rs, (resS c (hN c p heap i) p).ws, (resS c (hN c p heap i) p).regs⟩
def evL (c : Conf) (p : List Ins) (heap : List Int) : Nat → List Ev
  | 0 => []
  | n + 1 => evL c p heap n ++ [evB n, evC c p heap n]
def okN (c : Conf) (p : List Ins) (heap : List Int) (n : Nat) : Prop := ∀ j, j < n → (resS c (hN c p heap j) p).e = 1
theorem evL_len (c : Conf) (p : List Ins) (heap : List Int) : ∀ n, (evL c p heap n).length = n * 2
  | 0 => rfl
  | n + 1 => by unfold evL; rw [List.length_append, evL_len c p heap n]; simp; omega
theorem hN_len {c : Conf} {p : List Ins} {heap : List Int} (h1 : progOk c p = true) (h2 : (heap.length : Int) = c.words) : ∀ n, (hN c p heap n).length = heap.length
  | 0 => rfl
  | n + 1 => by
    have h := hN_len h1 h2 n
    unfold hN
    rw [res_heap_len h1 (by rw [h]; exact h2), h]
theorem hN_i64 {c : Conf} {p : List Ins} {heap : List Int} (hh : ∀ y ∈ heap, I64 y) (hp : ∀ x ∈ p, I64 x.b) : ∀ n, ∀ y ∈ hN c p heap n, I64 y
  | 0 => hh
  | n + 1 => by unfold hN; exact resH_i64 (hN_i64 hh hp n) hp
theorem evL_get (c : Conf) (p : List Ins) (heap : List Int) : ∀ n j, j < n → (evL c p heap n).getD (j * 2) default = evB j ∧ (evL c p heap n).getD (j * 2 + 1) default = evC c p heap j
  | n + 1, j, h => by
    have hl := evL_len c p heap n
    unfold evL
    by_cases e : j = n
    · subst e
      constructor
      · rw [List.getD_eq_getElem?_getD, List.getElem?_append_right (by omega), hl, show j * 2 - j * 2 = 0 by omega]; rfl
      · rw [List.getD_eq_getElem?_getD, List.getElem?_append_right (by omega), hl, show j * 2 + 1 - j * 2 = 1 by omega]; rfl
    · obtain ⟨h1, h2⟩ := evL_get c p heap n j (by omega)
      rw [List.getD_eq_getElem?_getD] at h1 h2
      exact ⟨by rw [List.getD_eq_getElem?_getD, List.getElem?_append_left (by omega)]; exact h1, by rw [List.getD_eq_getElem?_getD, List.getElem?_append_left (by omega)]; exact h2⟩
theorem evL_filter (c : Conf) (p : List Ins) (heap : List Int) (n : Nat) : (evL c p heap (n + 1)).filter (·.keeps 2 []) = (evL c p heap n).filter (·.keeps 2 []) ++ [evC c p heap n] := by
  show (evL c p heap n ++ [evB n, evC c p heap n]).filter _ = _
  rw [List.filter_append]
  congr 1
theorem evL_count (c : Conf) (p : List Ins) (heap : List Int) : ∀ n, ((evL c p heap n).filter (·.keeps 2 [])).length = n
  | 0 => rfl
  | n + 1 => by rw [evL_filter, List.length_append, evL_count c p heap n]; rfl
theorem serJ_app (c : Conf) (ts : Thr) : ∀ (a b : List Ev) (h : List Int), (serJ c ts h a).2 = 0 → serJ c ts h (a ++ b) = serJ c ts (serJ c ts h a).1 b
  | [], b, h, _ => rfl
  | e :: a, b, h, h0 => by
    have e1 : serJ c ts h (e :: a) = if noneJ ts e then ([], 4) else if badJ c ts h e then ([], 2) else serJ c ts (resH c h (progJ ts e)) a := rfl
    have e2 : serJ c ts h (e :: a ++ b) = if noneJ ts e then ([], 4) else if badJ c ts h e then ([], 2) else serJ c ts (resH c h (progJ ts e)) (a ++ b) := rfl
    rw [e1] at h0 ⊢
    rw [e2]
    by_cases hn : noneJ ts e = true
    · rw [if_pos hn] at h0; exact absurd h0 (by decide)
    · rw [if_neg hn] at h0 ⊢
      rw [if_neg hn]
      by_cases hb : badJ c ts h e = true
      · rw [if_pos hb] at h0; exact absurd h0 (by decide)
      · rw [if_neg hb] at h0 ⊢
        rw [if_neg hb]
        exact serJ_app c ts a b _ h0
theorem one_good {c : Conf} {p : List Ins} {h : List Int} {e : Ev} (h1 : e.th = 0) (h2 : e.pr = 0) (hE : resE c h p = 0) (hs : sameB (resS c h p) (evS e) = true) : serJ c [[p]] h [e] = (resH c h p, 0) := by
  unfold serJ
  have hn : noneJ [[p]] e = false := by unfold noneJ; simp [h1, h2]
  have hp : progJ [[p]] e = p := by unfold progJ; rw [h1, h2]; rfl
  have hb : badJ c [[p]] h e = false := by unfold badJ; rw [hp, hs, hE]; simp
  rw [if_neg (by rw [hn]; simp), if_neg (by rw [hb]; simp), hp]; rfl
theorem one_wrong {c : Conf} {p : List Ins} {h : List Int} {e : Ev} (h1 : e.th = 0) (h2 : e.pr = 0) (hs : sameB (resS c h p) (evS e) = false) : serJ c [[p]] h [e] = ([], 2) := by
  unfold serJ
  have hn : noneJ [[p]] e = false := by unfold noneJ; simp [h1, h2]
  have hp : progJ [[p]] e = p := by unfold progJ; rw [h1, h2]; rfl
  have hb : badJ c [[p]] h e = true := by unfold badJ; rw [hp, hs]; simp
  rw [if_neg (by rw [hn]; simp), if_pos hb]
theorem evL_ser {c : Conf} {p : List Ins} {heap : List Int} (h1 : progOk c p = true) (h2 : (heap.length : Int) = c.words) : ∀ n, okN c p heap n → serJ c [[p]] heap ((evL c p heap n).filter (·.keeps 2 [])) = (hN c p heap n, 0)
  | 0, _ => rfl
  | n + 1, hk => by
    have ih := evL_ser h1 h2 n (fun j hj => hk j (by omega))
    rw [evL_filter, serJ_app _ _ _ _ _ (by rw [ih]), ih]
    exact one_good rfl rfl (runs_full h1 (by rw [hN_len h1 h2]; exact h2)).2.2 (by
      have := hk n (by omega)
      unfold sameB evS evC
      simp [this])
theorem evL_bad {c : Conf} {p : List Ins} {heap : List Int} (h1 : progOk c p = true) (h2 : (heap.length : Int) = c.words) {n : Nat} (hk : okN c p heap n) (gs : List Int) (hg : gs ≠ (resS c (hN c p heap n) p).regs) :
    (serJ c [[p]] heap ((evL c p heap n ++ [evB n] ++ [({ evC c p heap n with gs := gs } : Ev)]).filter (·.keeps 2 []))).2 = 2 := by
  have hf : (evL c p heap n ++ [evB n] ++ [({ evC c p heap n with gs := gs } : Ev)]).filter (·.keeps 2 []) = (evL c p heap n).filter (·.keeps 2 []) ++ [({ evC c p heap n with gs := gs } : Ev)] := by
    rw [List.filter_append, List.filter_append]
    have e1 : [evB n].filter (·.keeps 2 []) = [] := by simp [List.filter, keeps2, evB]
    have e2 : [({ evC c p heap n with gs := gs } : Ev)].filter (·.keeps 2 []) = [({ evC c p heap n with gs := gs } : Ev)] := by simp [List.filter, keeps2, evC]
    rw [e1, e2, List.append_nil]
  rw [hf, serJ_app _ _ _ _ _ (by rw [evL_ser h1 h2 n hk]), evL_ser h1 h2 n hk, one_wrong rfl rfl]
  have hd : decide ((resS c (hN c p heap n) p).regs = gs) = false := by simpa using fun e => hg e.symm
  unfold sameB evS
  show (_ && decide ((resS c (hN c p heap n) p).regs = gs) && _ && _) = false
  rw [hd]; simp
theorem evL_ahead (c : Conf) (p : List Ins) (heap : List Int) (n : Nat) : aheadB (evL c p heap n) = true := by
  refine aheadB_true fun i hi => ?_
  rw [evL_len] at hi
  obtain ⟨g1, g2⟩ := evL_get c p heap n (i / 2) (by omega)
  rcases Nat.mod_two_eq_zero_or_one i with h | h
  · rw [show i / 2 * 2 = i by omega] at g1
    unfold okAt
    rw [g1]; rfl
  · rw [show i / 2 * 2 + 1 = i by omega] at g2
    unfold okAt
    rw [g2]
    have hb : backK (evL c p heap n) (evC c p heap (i / 2)).th i = ((i / 2 * 2 : Nat) : Int) := by
      obtain ⟨j, hj⟩ : ∃ j, i = j + 1 := ⟨i - 1, by omega⟩
      have hj2 : i / 2 * 2 = j := by omega
      rw [hj2] at g1 ⊢
      rw [hj]
      unfold backK
      have hs : skipB (evL c p heap n) (evC c p heap ((j + 1) / 2)).th j = false := by
        unfold skipB
        rw [g1]; rfl
      rw [hs]; rfl
    rw [hb, Int.toNat_natCast, g1]
    have h0 : decide (((i / 2 * 2 : Nat) : Int) < 0) = false := by simp; omega
    rw [h0]
    unfold begins evB evC
    simp
theorem evL_tail (c : Conf) (p : List Ins) (heap : List Int) (n : Nat) (hn : 0 < n) : aheadB ((evL c p heap n).drop 1) = false := by
  refine aheadB_false (i := 0) (by rw [List.length_drop, evL_len]; omega) ?_
  have g2 := (evL_get c p heap n 0 hn).2
  have e : ((evL c p heap n).drop 1).getD 0 default = evC c p heap 0 := by
    rw [List.getD_eq_getElem?_getD, List.getElem?_drop]
    rw [List.getD_eq_getElem?_getD] at g2
    exact g2
  unfold okAt
  rw [e]; rfl

/-! A list of events that grows; its events' lists lie elsewhere. -/
def EvsO (B : Nat) (w : World) (v : Value) (es : List Ev) : Prop := EvsOwn 50 B w (fun k => v.ownBlock ≠ some k) v es
theorem EvsO.frame {B : Nat} {w w' : World} {v : Value} {es : List Ev} (h : EvsO B w v es) (hf : Fr (fun _ => False) w w') : EvsO B w' v es := by
  obtain ⟨cs, h1, h2⟩ := h
  exact ⟨cs, ownsRow_frame h1 hf (fun _ _ x => x), fun i hi => (h2 i hi).frame hf (fun _ _ x => x.elim)⟩
theorem EvsO.at_ {B : Nat} {w : World} {v : Value} {es : List Ev} (h : EvsO B w v es) : EvsAt w (fun _ => True) v es :=
  (EvsOwn.mono (G := fun _ => True) h (fun _ _ _ => trivial)).at_ (fun _ _ => trivial)
theorem EvsO.nil (B : Nat) (w : World) : EvsO B w (.slice none 0 0) [] := EvsOwn.nil _ _ _ _
theorem EvsO.base {B C : Nat} {w : World} {v : Value} {es : List Ev} (h : EvsO B w v es) (hc : C ≤ B) : EvsO C w v es := EvsOwn.base h hc
set_option maxRecDepth 100000 in
theorem grow_evs (w : World) (ty : TypeId) (B : Nat) (v : Value) (es : List Ev) (h : EvsO B w v es) (A : Option Addr) (m c : Nat) (news : List Ev) (hu : EvsAt w (fun k => v.ownBlock ≠ some k) (.slice A m c) news) (hm : news.length = m) (h0 : 0 < m) (hlen : es.length + m ≤ 100000) (hB : B ≤ w.heap.size) :
    ∃ g c' w', (Builtin.append_ #[26, 26] ty #[v, .slice A m c]).run Try.prog w = .ok (.slice (some ⟨g, 0, none⟩) (es.length + m) c') w' ∧ EvsO B w' (.slice (some ⟨g, 0, none⟩) (es.length + m) c') (es ++ news) ∧ Fr (fun k => v.ownBlock = some k) w w' ∧ (some g = v.ownBlock ∨ g = w.heap.size) ∧ g < w'.heap.size := by
  subst hm
  obtain ⟨cs, hown, hrows⟩ := h
  obtain ⟨A', c0, ns, e, hc, hA, hl, hat, hr2⟩ := hu.ex
  cases e
  obtain ⟨ad, hAd, hAF, hcell⟩ := hat h0
  subst hAd
  have hone : ∀ u ∈ ns, u.oneCell' = true := by
    intro u hu2
    obtain ⟨j, hj⟩ := List.getElem?_of_mem hu2
    have hjl : j < ns.length := (List.getElem?_eq_some_iff.1 hj).1
    obtain ⟨B1, m1, d1, B2, m2, d2, B3, m3, d3, hrow, _⟩ := hr2 (j / 10) (by omega)
    have := hrow (j % 10) (by omega)
    rw [show j / 10 * 10 + j % 10 = j by omega, hj] at this
    have h10 : j % 10 = 0 ∨ j % 10 = 1 ∨ j % 10 = 2 ∨ j % 10 = 3 ∨ j % 10 = 4 ∨ j % 10 = 5 ∨ j % 10 = 6 ∨ j % 10 = 7 ∨ j % 10 = 8 ∨ j % 10 = 9 := by omega
    rcases h10 with h | h | h | h | h | h | h | h | h | h <;> (rw [h] at this; unfold Ev.cells at this; simp at this; rw [this]; rfl)
  obtain ⟨i0, hi, hz0, hz1, hz2⟩ := info_parts infoEv
  obtain ⟨v', w', hr, h2, hf⟩ := run_append_evs w ty B v es.length cs hown (some ad) news.length c ns hl hA hc (fun _ => ⟨ad, rfl, hcell⟩) hone (by omega) hB
  have hblk : v'.ownBlock = v.ownBlock ∨ v'.ownBlock = some w.heap.size := by
    rcases hown.2 with ⟨rfl, hz⟩ | ⟨g, cap, cur, rfl, hbg, hgg, hnc, hcm, hcs, htake⟩
    · have hcs0 : cs = [] := by have := hown.1; rw [hz] at this; exact List.length_eq_zero_iff.1 (by omega)
      have h3 := run_append_nil (P := Try.prog) w 26 ty 50 i0 _ Try.underlying26 hi hz0 ad news.length c ns (by rw [hz1]; exact hl) hcell (by omega) (by omega) (by rw [hz2]; omega)
      rw [h3] at hr
      cases hr
      exact .inr rfl
    · by_cases hroom : es.length + news.length ≤ cap
      · have h3 := run_append_room (P := Try.prog) w 26 ty 50 i0 Try.underlying26 hi g es.length cap cur hgg ad news.length c ns (by rw [hz1]; exact hl) hcell hone hroom (by rw [hz1, hcs, hl]; omega)
        rw [h3] at hr
        cases hr
        exact .inl rfl
      · have h3 := run_append_grow (P := Try.prog) (w := w) 26 ty 50 i0 _ Try.underlying26 hi hz0 ⟨g, 0, none⟩ es.length cap cs (by rw [hz1]; exact hown.1) (hown.cells (g := g) rfl) ad news.length c ns (by rw [hz1]; exact hl) hcell (by omega) (by omega) (growslice_fits (by omega) (by rw [hz2]; omega))
        rw [h3] at hr
        cases hr
        exact .inr rfl
  rcases id h2.2 with ⟨_, hz⟩ | ⟨g, cap, cur, rfl, hbg, hgg, _⟩
  · omega
  · refine ⟨g, cap, w', hr, ⟨cs ++ ns, by rw [List.length_append]; exact h2, fun i hi2 => ?_⟩, hf, hblk.imp (fun h => h) (fun h => by cases h; rfl), (Array.getElem?_eq_some_iff.1 hgg).1⟩
    have up : ∀ {xs : List Value} {j : Nat} {e : Ev}, EvRow w (fun k => v.ownBlock ≠ some k) xs j e → EvRow w' (fun k => (Value.slice (some ⟨g, 0, none⟩) (es.length + news.length) cap).ownBlock ≠ some k) xs j e := fun hx =>
      ((hx.mono (G := fun k => k < w.heap.size ∧ v.ownBlock ≠ some k) (fun k hk x => ⟨hk, x⟩)).frame hf (fun k x y => absurd y x.2)).mono (fun k _ x e => by
        rcases hblk with h | h
        · rw [h] at e; exact x.2 e
        · rw [h] at e; cases e; exact absurd x.1 (Nat.lt_irrefl _))
    by_cases hlt : i < es.length
    · rw [getD_append_left hlt]
      exact up ((hrows i hlt).ahead hown.1 hlt)
    · rw [getD_append_right (by omega)]
      rw [List.length_append] at hi2
      exact up (EvRow.shift (hr2 (i - es.length) (by omega)) hown.1 (by omega))
theorem append_evO {ops : Array Oper} {rest : List Oper} {o : Oper} {a : Act} {Q : Exit → Act → World → Prop} (w : World) (hgd : o.guard = none) (s x : Operand)
    (ho : o.op = .call { callee := .builtin .append, args := #[s, x], argTypes := #[26, 26] }) (B : Nat)
    (v : Value) (es : List Ev) (hs : a.eval s = v) (h : EvsO B w v es) (A : Option Addr) (m c : Nat) (news : List Ev) (hx : a.eval x = .slice A m c) (hu : EvsAt w (fun k => v.ownBlock ≠ some k) (.slice A m c) news) (hm : news.length = m) (h0 : 0 < m) (hlen : es.length + m ≤ 100000) (hB : B ≤ w.heap.size)
    (hK : ∀ g c' w', EvsO B w' (.slice (some ⟨g, 0, none⟩) (es.length + m) c') (es ++ news) → Fr (fun k => v.ownBlock = some k) w w' → wpList Try.prog ops Q rest (a.put o.dst (.slice (some ⟨g, 0, none⟩) (es.length + m) c')) w') : wpList Try.prog ops Q (o :: rest) a w :=
  wpList_plain hgd fun _ hK2 => by
    obtain ⟨g, c', w', hr, h2, h3, _⟩ := grow_evs w o.type B v es h A m c news hu hm h0 hlen hB
    unfold Oper.wp execOp
    simp only [ho, resolve, invoke, builtin, Sem.run_bind, Sem.run_pure, Result.andThen_ok, List.map_toArray, List.map_cons, List.map_nil, hs, hx, hr]
    exact hK2 _ _ (hK g c' w' h2 h3)
theorem step_evO {ops : Array Oper} {o : Oper} {a : Act} {K : Act → World → Prop} {Q : Exit → Act → World → Prop} {E : Prop} (w : World) (hgd : o.guard = none) (s x : Operand)
    (ho : o.op = .call { callee := .builtin .append, args := #[s, x], argTypes := #[26, 26] }) (B : Nat)
    (v : Value) (es : List Ev) (hs : a.eval s = v) (h : EvsO B w v es) (A : Option Addr) (m c : Nat) (news : List Ev) (hx : a.eval x = .slice A m c) (hu : EvsAt w (fun k => v.ownBlock ≠ some k) (.slice A m c) news) (hm : news.length = m) (h0 : 0 < m) (hlen : es.length + m ≤ 100000) (hB : B ≤ w.heap.size)
    (hK : ∀ g c' w', EvsO B w' (.slice (some ⟨g, 0, none⟩) (es.length + m) c') (es ++ news) → Fr (fun k => v.ownBlock = some k) w w' → (some g = v.ownBlock ∨ g = w.heap.size) → g < w'.heap.size → K (a.put o.dst (.slice (some ⟨g, 0, none⟩) (es.length + m) c')) w') :
    if Region.wanted o (yielded ops a.tmps) = true then Oper.wp Try.prog o a w K Q else E := by
  have hw : Region.wanted o (yielded ops a.tmps) = true := by simp [Region.wanted, hgd]
  rw [if_pos hw]
  obtain ⟨g, c', w', hr, h2, h3, h4, h5⟩ := grow_evs w o.type B v es h A m c news hu hm h0 hlen hB
  unfold Oper.wp execOp
  simp only [ho, resolve, invoke, builtin, Sem.run_bind, Sem.run_pure, Result.andThen_ok, List.map_toArray, List.map_cons, List.map_nil, hs, hx, hr]
  exact hK g c' w' h2 h3 h4 h5
/-- Two events in one block. -/
theorem two_at {w : World} {b i : Nat} {F : Nat → Prop} {e : Ev} {A1 A2 A3 : Option Addr} {n1 c1 n2 c2 n3 c3 : Nat} (hb : w.heap[b]? = some (.cells #[.int .i64 1, .int .i64 0, .int .i64 0, .int .i64 i, .int .i64 0, .int .i64 0, .int .i64 0, .slice none 0 0, .slice none 0 0, .slice none 0 0, .int .i64 e.k, .int .i64 e.th, .int .i64 e.pr, .int .i64 e.tr, .int .i64 e.ti, .int .i64 e.st, .int .i64 e.ca, .slice A1 n1 c1, .slice A2 n2 c2, .slice A3 n3 c3] 50 (0, 0))) (hF : F b) (h : Lies w F e A1 n1 c1 A2 n2 c2 A3 n3 c3) :
    EvsAt w F (.slice (some ⟨b, 0, none⟩) 2 2) [evB i, e] := by
  refine ⟨some ⟨b, 0, none⟩, 2, (evB i).cells (.slice none 0 0) (.slice none 0 0) (.slice none 0 0) ++ e.cells (.slice A1 n1 c1) (.slice A2 n2 c2) (.slice A3 n3 c3), rfl, Nat.le_refl _, (fun h => by cases h), rfl, fun _ => ⟨_, rfl, hF, fun j u hj => ?_⟩, fun t ht => ?_⟩
  · have h1 : (Addr.mk b 0 none).add j = ⟨b, j, none⟩ := by unfold Addr.add; split <;> simp_all
    rw [h1, blk_cell hb, ← Array.getElem?_toList]
    exact hj
  · have : t = 0 ∨ t = 1 := by simp at ht; omega
    rcases this with rfl | rfl
    · refine ⟨none, 0, 0, none, 0, 0, none, 0, 0, fun j hj => ?_, ⟨Flat.nil _ _ _, Flat.nil _ _ _, Flat.nil _ _ _⟩⟩
      rw [Nat.zero_mul, Nat.zero_add, List.getElem?_append_left (by show j < 10; exact hj)]; rfl
    · refine ⟨A1, n1, c1, A2, n2, c2, A3, n3, c3, fun j hj => ?_, h⟩
      rw [List.getElem?_append_right (by show 10 ≤ 1 * 10 + j; omega)]
      show (e.cells _ _ _)[1 * 10 + j - 10]? = _
      rw [show 1 * 10 + j - 10 = j by omega]; rfl
theorem empO {X : World} {B b : Nat} (hB : B ≤ b) (h : X.heap[b]? = some (.cells #[] 50 (0, 0))) : EvsO B X (.slice (some ⟨b, 0, none⟩) 0 0) [] :=
  ⟨[], ⟨rfl, .inr ⟨b, 0, #[], rfl, hB, h, Nat.le_refl _, Nat.zero_le _, rfl, rfl⟩⟩, fun _ hi => absurd hi (Nat.not_lt_zero _)⟩
theorem EvsAt.up {w X : World} {v u : Value} {es : List Ev} (h : EvsAt w (fun k => k < w.heap.size) u es) (hf : Fr (fun _ => False) w X) (hv : ∀ k, v.ownBlock = some k → w.heap.size ≤ k) : EvsAt X (fun k => v.ownBlock ≠ some k) u es :=
  (h.frame hf (fun _ _ x => x.elim)).mono (fun k _ x e => by have := hv k e; omega)
theorem one_at {w : World} {bu : Nat} {F G : Nat → Prop} {e : Ev} {A1 A2 A3 : Option Addr} {n1 c1 n2 c2 n3 c3 : Nat} (hb : w.heap[bu]? = some (.cells #[.int .i64 e.k, .int .i64 e.th, .int .i64 e.pr, .int .i64 e.tr, .int .i64 e.ti, .int .i64 e.st, .int .i64 e.ca, .slice A1 n1 c1, .slice A2 n2 c2, .slice A3 n3 c3] 50 (0, 0))) (h : Lies w F e A1 n1 c1 A2 n2 c2 A3 n3 c3) (hG : G bu) (hFG : ∀ k, F k → G k) :
    EvsAt w G (.slice (some ⟨bu, 0, none⟩) 1 1) [e] := by
  refine ⟨some ⟨bu, 0, none⟩, 1, e.cells (.slice A1 n1 c1) (.slice A2 n2 c2) (.slice A3 n3 c3), rfl, Nat.le_refl _, (fun h => by cases h), rfl, fun _ => ⟨_, rfl, hG, fun j u hj => ?_⟩, fun i hi => ?_⟩
  · have h1 : (Addr.mk bu 0 none).add j = ⟨bu, j, none⟩ := by unfold Addr.add; split <;> simp_all
    rw [h1, blk_cell hb]
    have : j < 10 := by have := (List.getElem?_eq_some_iff.1 hj).1; exact this
    have : j = 0 ∨ j = 1 ∨ j = 2 ∨ j = 3 ∨ j = 4 ∨ j = 5 ∨ j = 6 ∨ j = 7 ∨ j = 8 ∨ j = 9 := by omega
    rcases this with rfl | rfl | rfl | rfl | rfl | rfl | rfl | rfl | rfl | rfl <;> exact hj
  · obtain rfl : i = 0 := by simp at hi; exact hi
    exact ⟨A1, n1, c1, A2, n2, c2, A3, n3, c3, fun j hj => by rw [Nat.zero_mul, Nat.zero_add]; rfl, h.mono (fun k _ x => hFG k x)⟩
theorem own_eq {b n c k : Nat} (h : (Value.slice (some ⟨b, 0, none⟩) n c).ownBlock = some k) : b = k := by simpa [Value.ownBlock] using h
theorem own_ne {b n c k : Nat} (h : b ≠ k) : (Value.slice (some ⟨b, 0, none⟩) n c).ownBlock ≠ some k := fun e => h (own_eq e)
theorem own_or {g b n c s : Nat} (h : some g = (Value.slice (some ⟨b, 0, none⟩) n c).ownBlock ∨ g = s) : g = b ∨ g = s := h.imp (fun e => (own_eq e.symm).symm) (fun e => e)


theorem ten_cells {w : World} {b : Nat} {T : TypeId} {v0 v1 v2 v3 v4 v5 v6 v7 v8 v9 : Value} (h : w.heap[b]? = some (.cells #[v0, v1, v2, v3, v4, v5, v6, v7, v8, v9] T (0, 0))) : (w.cell? ⟨b, 0, none⟩ = some v0 ∧ w.cell? ⟨b, 1, none⟩ = some v1 ∧ w.cell? ⟨b, 2, none⟩ = some v2 ∧ w.cell? ⟨b, 3, none⟩ = some v3 ∧ w.cell? ⟨b, 4, none⟩ = some v4 ∧ w.cell? ⟨b, 5, none⟩ = some v5 ∧ w.cell? ⟨b, 6, none⟩ = some v6 ∧ w.cell? ⟨b, 7, none⟩ = some v7 ∧ w.cell? ⟨b, 8, none⟩ = some v8 ∧ w.cell? ⟨b, 9, none⟩ = some v9) ∧ (w.frozen? ⟨b, 0, none⟩ = false ∧ w.frozen? ⟨b, 1, none⟩ = false ∧ w.frozen? ⟨b, 2, none⟩ = false ∧ w.frozen? ⟨b, 3, none⟩ = false ∧ w.frozen? ⟨b, 4, none⟩ = false ∧ w.frozen? ⟨b, 5, none⟩ = false ∧ w.frozen? ⟨b, 6, none⟩ = false ∧ w.frozen? ⟨b, 7, none⟩ = false ∧ w.frozen? ⟨b, 8, none⟩ = false ∧ w.frozen? ⟨b, 9, none⟩ = false) := by
  refine ⟨?_, ?_⟩
  · refine ⟨?_, ?_, ?_, ?_, ?_, ?_, ?_, ?_, ?_, ?_⟩ <;> (rw [blk_cell h]; rfl)
  · refine ⟨?_, ?_, ?_, ?_, ?_, ?_, ?_, ?_, ?_, ?_⟩ <;> exact blk_free h _
theorem ne_typ {w : World} {a b : Nat} {x y : Array Value} {T T' : TypeId} (h1 : w.heap[a]? = some (.cells x T (0, 0))) (h2 : w.heap[b]? = some (.cells y T' (0, 0))) (hT : T ≠ T') : a ≠ b := by
  intro e
  subst e
  rw [h1] at h2
  injection h2 with h2
  injection h2 with _ h2
  exact hT h2
theorem thr_one {w : World} {A : Option Addr} {n cap b1 b2 : Nat} {p : List Ins} {T1 T2 : TypeId} (h1 : w.heap[b1]? = some (.cells #[.slice A n cap] T1 (0, 0))) (h2 : w.heap[b2]? = some (.cells #[.slice (some ⟨b1, 0, none⟩) 1 1] T2 (0, 0))) (h : ProgAt w (fun _ => True) A n cap p) :
    ThrAt w (fun _ => True) (some ⟨b2, 0, none⟩) 1 [[p]] := by
  refine ⟨rfl, fun _ => ⟨_, rfl, trivial, fun i hi => ?_⟩⟩
  obtain rfl : i = 0 := by omega
  refine ⟨some ⟨b1, 0, none⟩, 1, 1, ?_, rfl, fun _ => ⟨⟨b1, 0, none⟩, rfl, trivial, fun j hj => ?_⟩⟩
  · have e : (Addr.mk b2 0 none).add 0 = ⟨b2, 0, none⟩ := by unfold Addr.add; simp
    rw [e, blk_cell h2]; rfl
  · obtain rfl : j = 0 := by omega
    refine ⟨A, n, cap, ?_, h⟩
    have e : (Addr.mk b1 0 none).add 0 = ⟨b1, 0, none⟩ := by unfold Addr.add; simp
    rw [e, blk_cell h1]; rfl
/-! Parts of a list of events. -/
theorem EvsAt.take {w : World} {F : Nat → Prop} {A : Option Addr} {n c k : Nat} {es : List Ev} (h : EvsAt w F (.slice A n c) es) (hk : k ≤ n) : EvsAt w F (.slice A k c) (es.take k) := by
  obtain ⟨A', c', cs, e, h2, h3, h4, h5, h6⟩ := h.ex
  cases e
  have hl : (es.take k).length = k := by rw [List.length_take]; omega
  refine ⟨A, c, cs.take (k * 10), by rw [hl], by rw [hl]; omega, h3, by rw [hl, List.length_take]; omega, fun h0 => ?_, fun i hi => ?_⟩
  · obtain ⟨ad, g1, g2, g3⟩ := h5 (by omega)
    exact ⟨ad, g1, g2, fun j u hj => g3 j u (by rw [List.getElem?_take] at hj; split at hj; exact hj; cases hj)⟩
  · rw [hl] at hi
    have e : (es.take k).getD i default = es.getD i default := by
      rw [List.getD_eq_getElem?_getD, List.getElem?_take, if_pos hi, List.getD_eq_getElem?_getD]
    rw [e]
    obtain ⟨A1, n1, c1, A2, n2, c2, A3, n3, c3, hr, hL⟩ := h6 i (by omega)
    exact ⟨A1, n1, c1, A2, n2, c2, A3, n3, c3, fun j hj => by rw [List.getElem?_take, if_pos (by omega)]; exact hr j hj, hL⟩
theorem EvsAt.drop1 {w : World} {F : Nat → Prop} {g n c : Nat} {es : List Ev} (h : EvsAt w F (.slice (some ⟨g, 0, none⟩) n c) es) (hn : 0 < n) : EvsAt w F (.slice (some ⟨g, 10, none⟩) (n - 1) (c - 1)) (es.drop 1) := by
  obtain ⟨A', c', cs, e, h2, h3, h4, h5, h6⟩ := h.ex
  cases e
  have hl : (es.drop 1).length = es.length - 1 := List.length_drop ..
  obtain ⟨ad, g1, g2, g3⟩ := h5 hn
  cases g1
  refine ⟨some ⟨g, 10, none⟩, c - 1, cs.drop 10, by rw [hl], by rw [hl]; omega, (fun h => by cases h), by rw [hl, List.length_drop]; omega, fun h0 => ⟨_, rfl, g2, fun j u hj => ?_⟩, fun i hi => ?_⟩
  · rw [List.getElem?_drop] at hj
    have := g3 _ u hj
    have e1 : (Addr.mk g 10 none).add j = ⟨g, 10 + j, none⟩ := by unfold Addr.add; split <;> simp_all
    have e2 : (Addr.mk g 0 none).add (10 + j) = ⟨g, 10 + j, none⟩ := by unfold Addr.add; split <;> simp_all
    rw [e2] at this
    rw [e1]; exact this
  · rw [hl] at hi
    have e : (es.drop 1).getD i default = es.getD (i + 1) default := by
      rw [List.getD_eq_getElem?_getD, List.getElem?_drop, Nat.add_comm, List.getD_eq_getElem?_getD]
    rw [e]
    obtain ⟨A1, n1, c1, A2, n2, c2, A3, n3, c3, hr, hL⟩ := h6 (i + 1) (by omega)
    exact ⟨A1, n1, c1, A2, n2, c2, A3, n3, c3, fun j hj => by rw [List.getElem?_drop, show 10 + (i * 10 + j) = (i + 1) * 10 + j by omega]; exact hr j hj, hL⟩
theorem evL_take (c : Conf) (p : List Ins) (heap : List Int) (n : Nat) : (evL c p heap (n + 1)).take (n * 2 + 1) = evL c p heap n ++ [evB n] := by
  show (evL c p heap n ++ [evB n, evC c p heap n]).take (n * 2 + 1) = _
  rw [List.take_append, evL_len, show n * 2 + 1 - n * 2 = 1 by omega, List.take_of_length_le (by rw [evL_len]; omega)]; rfl
theorem evL_smalls {c : Conf} {p : List Ins} {heap : List Int} (hb : ∀ j, (resS c (hN c p heap j) p).regs.length ≤ 20000 ∧ (resS c (hN c p heap j) p).rs.length ≤ 20000 ∧ (resS c (hN c p heap j) p).ws.length ≤ 20000 ∧ (resH c (hN c p heap j) p).length ≤ 20000) (n : Nat) (hn : n ≤ 50) : Smalls (evL c p heap n) := by
  refine ⟨by rw [evL_len]; omega, fun e he => ?_⟩
  obtain ⟨i, hi, rfl⟩ := List.mem_iff_getElem.1 he
  have hi2 : i < n * 2 := by rw [evL_len] at hi; exact hi
  obtain ⟨g1, g2⟩ := evL_get c p heap n (i / 2) (by omega)
  have hg : (evL c p heap n)[i] = (evL c p heap n).getD i default := by rw [List.getD_eq_getElem?_getD, List.getElem?_eq_getElem hi]; rfl
  rw [hg]
  obtain ⟨b1, b2, b3, _⟩ := hb (i / 2)
  rcases Nat.mod_two_eq_zero_or_one i with h | h
  · rw [show i / 2 * 2 = i by omega] at g1
    rw [g1]
    exact ⟨Nat.zero_le _, Nat.zero_le _, Nat.zero_le _⟩
  · rw [show i / 2 * 2 + 1 = i by omega] at g2
    rw [g2]
    exact ⟨b2, b3, b1⟩
theorem evX_smalls {c : Conf} {p : List Ins} {heap : List Int} (hb : ∀ j, (resS c (hN c p heap j) p).regs.length ≤ 20000 ∧ (resS c (hN c p heap j) p).rs.length ≤ 20000 ∧ (resS c (hN c p heap j) p).ws.length ≤ 20000 ∧ (resH c (hN c p heap j) p).length ≤ 20000) (n : Nat) (hn : n ≤ 50) (i : Nat) (v : Int) : Smalls ([] ++ (evL c p heap n ++ [evB n]) ++ [({ evC c p heap n with gs := (evC c p heap n).gs.set i v } : Ev)]) := by
  have h := evL_smalls hb n hn
  rw [List.nil_append]
  refine ⟨by have := h.1; simp only [List.length_append, List.length_cons, List.length_nil]; rw [evL_len]; omega, fun e he => ?_⟩
  rcases List.mem_append.1 he with he | he
  · rcases List.mem_append.1 he with he | he
    · exact h.2 e he
    · rw [List.mem_singleton.1 he]
      exact ⟨Nat.zero_le _, Nat.zero_le _, Nat.zero_le _⟩
  · rw [List.mem_singleton.1 he]
    obtain ⟨b1, b2, b3, _⟩ := hb n
    refine ⟨b2, b3, ?_⟩
    show ((evC c p heap n).gs.set i v).length ≤ 20000
    rw [List.length_set]
    exact b1
theorem regs_len {c : Conf} {heap : List Int} {p : List Ins} (h1 : progOk c p = true) (h2 : (heap.length : Int) = c.words) : 0 < (resS c heap p).regs.length := by
  rw [(runs_full h1 h2).1]
  have h := (runP_lensJ c p p.length 0 (begP c heap)).1
  have hrg := (progOk_iff.1 h1).1.2.1.2.2.1
  have hb : (begP c heap).regs.length = c.rg.toNat := by unfold begP; simp
  show 0 < (runP c p p.length 0 (begP c heap)).regs.length
  omega

set_option maxRecDepth 100000 in
set_option maxHeartbeats 4000000 in
theorem one_many (c : Conf) (H : Option Addr) (hn hcap : Nat) (A : Option Addr) (n cap : Nat) (p : List Ins) (od : Int) (w : World) (h : ProgAt w (fun _ => True) A n cap p) (hb : 60 < n ∨ (n ≤ 60 ∧ od < 0) ∨ (n ≤ 60 ∧ 0 ≤ od ∧ 50 < od) ∨ (n ≤ 60 ∧ 0 ≤ od ∧ od ≤ 50 ∧ progOk c p = false) ∨ (n ≤ 60 ∧ 0 ≤ od ∧ od ≤ 50 ∧ progOk c p = true ∧ (hn : Int) ≠ c.words)) :
    Calls Try.prog 4 #[c.val, .slice H hn hcap, .slice A n cap, .int .i64 od] w fun e w' => e = .returned (.bool true) ∧ Fr (fun _ => False) w w' := by
  have HCK := Lib.hid (fun w' (hf : Fr (fun _ => False) w w') => refCheck5_any c A n cap p _ w' (h.frame hf (fun _ _ x => x.elim)))
  have HW := Lib.hid (ref_words_calls c)
  have HBX := Lib.hid (box_all w c)
  rcases hb with hb | ⟨hb, hb1⟩ | ⟨hb, hb1, hb2⟩ | ⟨hb, hb1, hb2, hb3⟩ | ⟨hb, hb1, hb2, hb3, hb4⟩
  · have hd : decide ((60 : Int) < n) = true := by simp; omega
    clear h hb HCK
    unfold Conf.val at *
    have hk := (Fr.refl (fun _ => False) w).alloc (.cells #[.int .i64 c.r, .int .i64 c.o, .int .i64 c.s, .int .i64 c.wd, .int .i64 c.th, .int .i64 c.sl, .int .i64 c.rg, .int .i64 c.lk, .int .i64 c.un, .int .i64 c.es, .int .i64 c.tk, .int .i64 c.po] 23)
    have hbk := Fr.refl (fun _ => False) (w.alloc (.cells #[.int .i64 c.r, .int .i64 c.o, .int .i64 c.s, .int .i64 c.wd, .int .i64 c.th, .int .i64 c.sl, .int .i64 c.rg, .int .i64 c.lk, .int .i64 c.un, .int .i64 c.es, .int .i64 c.tk, .int .i64 c.po] 23))
    go_enter Try.func4, Try.ntmps4
    go_wp2_with (first
    | (go_at_call 7
       (with_reducible refine (first20_calls _).mono ?_)
       rintro ex w3 ⟨rfl, hf⟩
       replace hk := hk.trans hf
       replace hbk := hbk.trans hf
       clear hf
       try (clear c0 c1 c2 c3 c4 c5 c6 c7 c8 c9 c10 c11)
       obtain ⟨c0, c1, c2, c3, c4, c5, c6, c7, c8, c9, c10, c11⟩ := HBX.out _ hbk))
    go_ret
    exact ⟨rfl, hk⟩
  · have hd : decide ((60 : Int) < n) = false := by simp; omega
    have hd1 : decide (od < 0) = true := by simp; omega
    clear h hb hb1 HCK
    unfold Conf.val at *
    have hk := (Fr.refl (fun _ => False) w).alloc (.cells #[.int .i64 c.r, .int .i64 c.o, .int .i64 c.s, .int .i64 c.wd, .int .i64 c.th, .int .i64 c.sl, .int .i64 c.rg, .int .i64 c.lk, .int .i64 c.un, .int .i64 c.es, .int .i64 c.tk, .int .i64 c.po] 23)
    have hbk := Fr.refl (fun _ => False) (w.alloc (.cells #[.int .i64 c.r, .int .i64 c.o, .int .i64 c.s, .int .i64 c.wd, .int .i64 c.th, .int .i64 c.sl, .int .i64 c.rg, .int .i64 c.lk, .int .i64 c.un, .int .i64 c.es, .int .i64 c.tk, .int .i64 c.po] 23))
    go_enter Try.func4, Try.ntmps4
    go_wp2_with (first
    | (go_at_call 7
       (with_reducible refine (first20_calls _).mono ?_)
       rintro ex w3 ⟨rfl, hf⟩
       replace hk := hk.trans hf
       replace hbk := hbk.trans hf
       clear hf
       try (clear c0 c1 c2 c3 c4 c5 c6 c7 c8 c9 c10 c11)
       obtain ⟨c0, c1, c2, c3, c4, c5, c6, c7, c8, c9, c10, c11⟩ := HBX.out _ hbk))
    go_ret
    exact ⟨rfl, hk⟩
  · have hd : decide ((60 : Int) < n) = false := by simp; omega
    have hd1 : decide (od < 0) = false := by simp; omega
    have hd2 : decide (50 < od) = true := by simp; omega
    clear h hb hb1 hb2 HCK
    unfold Conf.val at *
    have hk := (Fr.refl (fun _ => False) w).alloc (.cells #[.int .i64 c.r, .int .i64 c.o, .int .i64 c.s, .int .i64 c.wd, .int .i64 c.th, .int .i64 c.sl, .int .i64 c.rg, .int .i64 c.lk, .int .i64 c.un, .int .i64 c.es, .int .i64 c.tk, .int .i64 c.po] 23)
    have hbk := Fr.refl (fun _ => False) (w.alloc (.cells #[.int .i64 c.r, .int .i64 c.o, .int .i64 c.s, .int .i64 c.wd, .int .i64 c.th, .int .i64 c.sl, .int .i64 c.rg, .int .i64 c.lk, .int .i64 c.un, .int .i64 c.es, .int .i64 c.tk, .int .i64 c.po] 23))
    go_enter Try.func4, Try.ntmps4
    go_wp2_with (first
    | (go_at_call 7
       (with_reducible refine (first20_calls _).mono ?_)
       rintro ex w3 ⟨rfl, hf⟩
       replace hk := hk.trans hf
       replace hbk := hbk.trans hf
       clear hf
       try (clear c0 c1 c2 c3 c4 c5 c6 c7 c8 c9 c10 c11)
       obtain ⟨c0, c1, c2, c3, c4, c5, c6, c7, c8, c9, c10, c11⟩ := HBX.out _ hbk))
    go_ret
    exact ⟨rfl, hk⟩
  · have hd : decide ((60 : Int) < n) = false := by simp; omega
    have hd1 : decide (od < 0) = false := by simp; omega
    have hd2 : decide (50 < od) = false := by simp; omega
    have hv : chkV c p = 2 := by unfold chkV; rw [hb3]; rfl
    rw [hv] at HCK
    clear h hb hb1 hb2 hb3 hv
    unfold Conf.val at *
    have hk := (Fr.refl (fun _ => False) w).alloc (.cells #[.int .i64 c.r, .int .i64 c.o, .int .i64 c.s, .int .i64 c.wd, .int .i64 c.th, .int .i64 c.sl, .int .i64 c.rg, .int .i64 c.lk, .int .i64 c.un, .int .i64 c.es, .int .i64 c.tk, .int .i64 c.po] 23)
    have hbk := Fr.refl (fun _ => False) (w.alloc (.cells #[.int .i64 c.r, .int .i64 c.o, .int .i64 c.s, .int .i64 c.wd, .int .i64 c.th, .int .i64 c.sl, .int .i64 c.rg, .int .i64 c.lk, .int .i64 c.un, .int .i64 c.es, .int .i64 c.tk, .int .i64 c.po] 23))
    go_enter Try.func4, Try.ntmps4
    go_wp2_with (first
    | (go_at_call 7
       (with_reducible refine (first20_calls _).mono ?_)
       rintro ex w3 ⟨rfl, hf⟩
       replace hk := hk.trans hf
       replace hbk := hbk.trans hf
       clear hf
       try (clear c0 c1 c2 c3 c4 c5 c6 c7 c8 c9 c10 c11)
       obtain ⟨c0, c1, c2, c3, c4, c5, c6, c7, c8, c9, c10, c11⟩ := HBX.out _ hbk)
    | (go_at_call 18
       (with_reducible refine (HCK.out _ hk).mono ?_)
       rintro ex w3 ⟨rfl, hf⟩
       replace hk := hk.trans hf
       replace hbk := hbk.trans hf
       clear hf
       try (clear c0 c1 c2 c3 c4 c5 c6 c7 c8 c9 c10 c11)
       obtain ⟨c0, c1, c2, c3, c4, c5, c6, c7, c8, c9, c10, c11⟩ := HBX.out _ hbk))
    go_ret
    exact ⟨rfl, hk⟩
  · have hd : decide ((60 : Int) < n) = false := by simp; omega
    have hd1 : decide (od < 0) = false := by simp; omega
    have hd2 : decide (50 < od) = false := by simp; omega
    have hd3 : ((hn : Int) != c.words) = true := by simpa using hb4
    have hv : chkV c p = 0 := by unfold chkV; rw [hb3]; rfl
    rw [hv] at HCK
    clear h hb hb1 hb2 hb3 hb4 hv
    unfold Conf.val at *
    have hk := (Fr.refl (fun _ => False) w).alloc (.cells #[.int .i64 c.r, .int .i64 c.o, .int .i64 c.s, .int .i64 c.wd, .int .i64 c.th, .int .i64 c.sl, .int .i64 c.rg, .int .i64 c.lk, .int .i64 c.un, .int .i64 c.es, .int .i64 c.tk, .int .i64 c.po] 23)
    have hbk := Fr.refl (fun _ => False) (w.alloc (.cells #[.int .i64 c.r, .int .i64 c.o, .int .i64 c.s, .int .i64 c.wd, .int .i64 c.th, .int .i64 c.sl, .int .i64 c.rg, .int .i64 c.lk, .int .i64 c.un, .int .i64 c.es, .int .i64 c.tk, .int .i64 c.po] 23))
    go_enter Try.func4, Try.ntmps4
    go_wp2_with (first
    | (go_at_call 7
       (with_reducible refine (first20_calls _).mono ?_)
       rintro ex w3 ⟨rfl, hf⟩
       replace hk := hk.trans hf
       replace hbk := hbk.trans hf
       clear hf
       try (clear c0 c1 c2 c3 c4 c5 c6 c7 c8 c9 c10 c11)
       obtain ⟨c0, c1, c2, c3, c4, c5, c6, c7, c8, c9, c10, c11⟩ := HBX.out _ hbk)
    | (go_at_call 18
       (with_reducible refine (HCK.out _ hk).mono ?_)
       rintro ex w3 ⟨rfl, hf⟩
       replace hk := hk.trans hf
       replace hbk := hbk.trans hf
       clear hf
       try (clear c0 c1 c2 c3 c4 c5 c6 c7 c8 c9 c10 c11)
       obtain ⟨c0, c1, c2, c3, c4, c5, c6, c7, c8, c9, c10, c11⟩ := HBX.out _ hbk)
    | (go_at_call 19
       (with_reducible refine (HW.out _).mono ?_)
       rintro ex w3 ⟨rfl, hf⟩
       replace hk := hk.trans hf
       replace hbk := hbk.trans hf
       clear hf
       try (clear c0 c1 c2 c3 c4 c5 c6 c7 c8 c9 c10 c11)
       obtain ⟨c0, c1, c2, c3, c4, c5, c6, c7, c8, c9, c10, c11⟩ := HBX.out _ hbk))
    go_ret
    exact ⟨rfl, hk⟩


theorem flat_own {w : World} {B C : Nat} {A : Option Addr} {n c : Nat} {xs : List Int} (h : w.ownsRow B 3 1 (.slice A n c) n (xs.map (Value.int .i64))) (hc : C ≤ B) : Flat w (fun k => C ≤ k) A n xs := by
  obtain ⟨A', c', e, hf⟩ := Flat.ofOwn h
  cases e
  rw [Nat.mul_one] at hf
  exact hf.mono (fun k _ x => Nat.le_trans hc x)

set_option maxRecDepth 100000 in
set_option maxHeartbeats 8000000 in
theorem one_go (c : Conf) (had : Addr) (hn hcap : Nat) (heap : List Int) (A : Option Addr) (n cap : Nat) (p : List Ins) (q : Nat) (w : World) (hI : IntsZ w (some had) hn hcap heap) (h : ProgAt w (fun _ => True) A n cap p) (hb : n ≤ 60) (hq : q ≤ 50) (hb2 : progOk c p = true) (hb3 : (hn : Int) = c.words) (h0 : 0 < hn) :
    Calls Try.prog 4 #[c.val, .slice (some had) hn hcap, .slice A n cap, .int .i64 q] w fun e w' => e = .returned (.bool true) ∧ Fr (fun _ => False) w w' := by
  have HCK := Lib.hid (fun w' (hf : Fr (fun _ => False) w w') => refCheck5_any c A n cap p _ w' (h.frame hf (fun _ _ x => x.elim)))
  have HW := Lib.hid (ref_words_calls c)
  have HBX := Lib.hid (box_all w c)
  have hsh := progOk_short hb2
  have hhn : hn ≤ 20000 := by have := c.words_bounds; omega
  have hfl0 := hI.flat.len
  have HCP := Lib.hid (fun w' (hf : Fr (fun _ => False) w w') => copyOwnR_calls had hn hcap heap _ w' (hI.flat.frame hf (fun _ _ x => x.elim)) hhn h0)
  have HRUN := Lib.hid (fun (A' : Option Addr) (k : Nat) (hp : List Int) (G : Nat → Prop) (w' : World) (hf : Fr (fun _ => False) w w') (h3 : Flat w' G A' hn hp) (h4 : ∀ y ∈ hp, I64 y) => refRun_calls c A' hn k hp A n cap p _ G w' (h.frame hf (fun _ _ x => x.elim)) hsh h3 h4)
  have HRES := Lib.hid (fun j => (runs_full hb2 (show ((hN c p heap j).length : Int) = c.words from by rw [hN_len hb2 (by rw [hfl0]; exact hb3), hfl0]; exact hb3)).2.2)
  have HLEN := Lib.hid (fun j => show (hN c p heap j).length = hn from by rw [hN_len hb2 (by rw [hfl0]; exact hb3), hfl0])
  have HI64 := Lib.hid (fun j => hN_i64 (c := c) (p := p) hI.i64 h.i64 j)
  have HSER := Lib.hid (fun j (hk : okN c p heap j) => evL_ser hb2 (show (heap.length : Int) = c.words from by rw [hfl0]; exact hb3) j hk)
  have HBAD := Lib.hid (fun j (hk : okN c p heap j) gs hg => evL_bad hb2 (show (heap.length : Int) = c.words from by rw [hfl0]; exact hb3) hk gs hg)
  have HSML := Lib.hid (fun j => res_smallJ c (hN c p heap j) p (show (hN c p heap j).length ≤ 20000 from by rw [hN_len hb2 (by rw [hfl0]; exact hb3), hfl0]; exact hhn))
  have HPW := Lib.hid (fun w' (hf : Fr (fun _ => False) w w') => h.frame hf (fun _ _ x => x.elim))
  have HIW := Lib.hid hI
  have HW3 := Lib.hid hb3
  have HPO := Lib.hid hb2
  have HSHT := Lib.hid (show ShortT [[p]] from fun i j => by
    have h0 : Short ([] : List Ins) := fun x hx => by cases hx
    match i, j with
    | 0, 0 => exact progOk_short hb2
    | 0, j + 1 => exact h0
    | i + 1, j => cases j <;> exact h0)
  have hd : decide ((60 : Int) < n) = false := by simp <;> omega
  have hd1 : decide ((q : Int) < 0) = false := by simp <;> omega
  have hd2 : decide ((50 : Int) < q) = false := by simp <;> omega
  have hd3 : ((hn : Int) != c.words) = false := by simpa using hb3
  have hv : chkV c p = 0 := by unfold chkV; rw [hb2]; rfl
  rw [hv] at HCK
  have hHN := Lib.hid (And.intro hhn h0)
  clear h hb hb2 hv hI hb3 hsh hfl0 hhn h0
  unfold Conf.val at *
  have hk := (Fr.refl (fun _ => False) w).alloc (.cells #[.int .i64 c.r, .int .i64 c.o, .int .i64 c.s, .int .i64 c.wd, .int .i64 c.th, .int .i64 c.sl, .int .i64 c.rg, .int .i64 c.lk, .int .i64 c.un, .int .i64 c.es, .int .i64 c.tk, .int .i64 c.po] 23)
  have hbk := Fr.refl (fun _ => False) (w.alloc (.cells #[.int .i64 c.r, .int .i64 c.o, .int .i64 c.s, .int .i64 c.wd, .int .i64 c.th, .int .i64 c.sl, .int .i64 c.rg, .int .i64 c.lk, .int .i64 c.un, .int .i64 c.es, .int .i64 c.tk, .int .i64 c.po] 23))
  go_enter Try.func4, Try.ntmps4
  go_upto_region 6 with (first
    | (go_at_call 7
       (with_reducible refine (first20_calls _).mono ?_)
       rintro ex w3 ⟨rfl, hf⟩
       replace hk := hk.trans hf
       replace hbk := hbk.trans hf
       clear hf
       try (clear c0 c1 c2 c3 c4 c5 c6 c7 c8 c9 c10 c11)
       obtain ⟨c0, c1, c2, c3, c4, c5, c6, c7, c8, c9, c10, c11⟩ := HBX.out _ hbk)
    | (go_at_call 18
       (with_reducible refine (HCK.out _ hk).mono ?_)
       rintro ex w3 ⟨rfl, hf⟩
       replace hk := hk.trans hf
       replace hbk := hbk.trans hf
       clear hf
       try (clear c0 c1 c2 c3 c4 c5 c6 c7 c8 c9 c10 c11)
       obtain ⟨c0, c1, c2, c3, c4, c5, c6, c7, c8, c9, c10, c11⟩ := HBX.out _ hbk)
    | (go_at_call 19
       (with_reducible refine (HW.out _).mono ?_)
       rintro ex w3 ⟨rfl, hf⟩
       replace hk := hk.trans hf
       replace hbk := hbk.trans hf
       clear hf
       try (clear c0 c1 c2 c3 c4 c5 c6 c7 c8 c9 c10 c11)
       obtain ⟨c0, c1, c2, c3, c4, c5, c6, c7, c8, c9, c10, c11⟩ := HBX.out _ hbk)
    | (go_at_call 20
       (with_reducible refine (HCP.out _ hk).mono ?_)
       rintro ex w6 ⟨gb, gc, rfl, ho, hf⟩
       have HFL := Lib.hid (flat_own ho (hk.size))
       clear ho
       replace hk := hk.trans hf
       replace hbk := hbk.trans hf
       clear hf
       try (clear c0 c1 c2 c3 c4 c5 c6 c7 c8 c9 c10 c11)
       obtain ⟨c0, c1, c2, c3, c4, c5, c6, c7, c8, c9, c10, c11⟩ := HBX.out _ hbk))
  have HBW := Lib.hid (fun w' (hf : Fr (fun _ => False) w6 w') => HBX.out w' (hbk.trans hf))
  have HK := Lib.hid hk
  have hw6 := hk.size
  clear hd hd1 hd2 hd3 HCK HW HCP hk hbk HBX c0 c1 c2 c3 c4 c5 c6 c7 c8 c9 c10 c11
  go_upto_region 7 with fail
  go_cut [11] from 50 to 50 (fun v11 wz => v11 = .int .i64 0 ∧ wz = w6)
  case first =>
    go_wp2
    go_meet
    case rel => exact ⟨rfl, rfl⟩
  case rest =>
  obtain ⟨hv, hw⟩ := hcut
  subst hv
  subst hw
  rename World => w6
  apply_assumption
  go_cut [9, 10] from 50 to 81 (fun v9 v10 wz => ∃ m A' k' Z c', v9 = .slice A' hn k' ∧ v10 = .slice Z (m * 2) c' ∧ m ≤ 50 ∧ okN c p heap m ∧ Flat wz (fun k => w.heap.size ≤ k) A' hn (hN c p heap m) ∧ EvsO w6.heap.size wz (.slice Z (m * 2) c') (evL c p heap m) ∧ Fr (fun _ => False) w6 wz)
  case first =>
    go_wp2
    go_loopw [9, 10, 11, 12, 13, 14] (fun v9 v10 v11 _ _ _ wr => ∃ (i : Nat) (A' : Option Addr) (k' : Nat) (Z : Option Addr) (c' : Nat), i ≤ q ∧ v11 = .int .i64 i ∧ v9 = .slice A' hn k' ∧ v10 = .slice Z (i * 2) c' ∧ okN c p heap i ∧ Flat wr (fun k => w.heap.size ≤ k) A' hn (hN c p heap i) ∧ EvsO w6.heap.size wr (.slice Z (i * 2) c') (evL c p heap i) ∧ Fr (fun _ => False) w6 wr) (fun _ _ v11 _ _ _ _ => q - (intOf v11).toNat)
    case atStart => exact ⟨0, _, _, none, 0, Nat.zero_le _, rfl, rfl, rfl, fun j hj => absurd hj (Nat.not_lt_zero _), HFL.out, EvsO.nil _ _, by first | exact Fr.refl _ _ | exact (Fr.refl _ _).drew | exact (Fr.refl _ _).drewN _⟩
    case round =>
      obtain ⟨i, A', k', Z, c', hiq, rfl, rfl, rfl, hok, hfl, hev, hf⟩ := hrel
      have HOK := Lib.hid hok
      have HFLH := Lib.hid hfl
      have HEV := Lib.hid hev
      have HF := Lib.hid hf
      clear hok hfl hev hf
      by_cases hlt : i < q
      · have hrun := HRUN.out A' k' (hN c p heap i) _ wr (HK.out.trans HF.out) HFLH.out (HI64.out i)
        rw [HRES.out i] at hrun
        have HRUNI := Lib.hid hrun
        have HRL := Lib.hid (show (resH c (hN c p heap i) p).length = hn from HLEN.out (i + 1))
        have HHN := Lib.hid (show hN c p heap (i + 1) = resH c (hN c p heap i) p from rfl)
        have HEVC := Lib.hid (show evC c p heap i = ⟨2, 0, 0, i, 0, 0, 0, (resS c (hN c p heap i) p).rs, (resS c (hN c p heap i) p).ws, (resS c (hN c p heap i) p).regs⟩ from rfl)
        have HOKS := Lib.hid (fun (he : (resS c (hN c p heap i) p).e = 1) => show okN c p heap (i + 1) from fun j hj => by
          by_cases e : j = i
          · rw [e]; exact he
          · exact HOK.out j (by omega))
        have HLT := Lib.hid (fun g (hg : (Value.slice Z (i * 2) c').ownBlock = some g) => World.ownsRow.lt HEV.out.choose_spec.1 g hg)
        obtain ⟨c0, c1, c2, c3, c4, c5, c6, c7, c8, c9, c10, c11⟩ := HBW.out _ HF.out
        clear hrun
        generalize resS c (hN c p heap i) p = S at *
        generalize resH c (hN c p heap i) p = R at *
        by_cases he : S.e = 1
        · have hd5 : (S.e != 1) = false := by simpa using he
          have HEE := Lib.hid he
          clear he
          go_wp2_with (first
            | (go_at_call 21
               (with_reducible refine HRUNI.out.mono ?_)
               rintro ex v1 ⟨A1, n1, k1, A2, n2, k2, A3, n3, k3, A4, n4, k4, rfl, ho, hf⟩
               obtain ⟨o0, o1, o2, o3⟩ := out_box (heap_alloc_new v1 (.cells #[.int .i64 S.e, .slice A1 n1 k1, .slice A2 n2 k2, .slice A3 n3 k3] 46)) rfl
               have HN4 := Lib.hid (show n4 = hn from by have := ho.h.len; have := HRL.out; omega)
               have HX := Lib.hid (((hf.alloc (.cells #[.int .i64 S.e, .slice A1 n1 k1, .slice A2 n2 k2, .slice A3 n3 k3] 46)).alloc (.cells #[.int .i64 1, .int .i64 0, .int .i64 0, .int .i64 i, .int .i64 0, .int .i64 0, .int .i64 0, .slice none 0 0, .slice none 0 0, .slice none 0 0, .int .i64 2, .int .i64 0, .int .i64 0, .int .i64 i, .int .i64 0, .int .i64 0, .int .i64 0, .slice A2 n2 k2, .slice A3 n3 k3, .slice A1 n1 k1] 50)))
               have hxx := ((Fr.refl (fun _ => False) v1).alloc (.cells #[.int .i64 S.e, .slice A1 n1 k1, .slice A2 n2 k2, .slice A3 n3 k3] 46)).alloc (.cells #[.int .i64 1, .int .i64 0, .int .i64 0, .int .i64 i, .int .i64 0, .int .i64 0, .int .i64 0, .slice none 0 0, .slice none 0 0, .slice none 0 0, .int .i64 2, .int .i64 0, .int .i64 0, .int .i64 i, .int .i64 0, .int .i64 0, .int .i64 0, .slice A2 n2 k2, .slice A3 n3 k3, .slice A1 n1 k1] 50)
               have HTWO := Lib.hid (show EvsAt ((v1.alloc (.cells #[.int .i64 S.e, .slice A1 n1 k1, .slice A2 n2 k2, .slice A3 n3 k3] 46)).alloc (.cells #[.int .i64 1, .int .i64 0, .int .i64 0, .int .i64 i, .int .i64 0, .int .i64 0, .int .i64 0, .slice none 0 0, .slice none 0 0, .slice none 0 0, .int .i64 2, .int .i64 0, .int .i64 0, .int .i64 i, .int .i64 0, .int .i64 0, .int .i64 0, .slice A2 n2 k2, .slice A3 n3 k3, .slice A1 n1 k1] 50)) (fun k => (Value.slice Z (i * 2) c').ownBlock ≠ some k) (.slice (some ⟨v1.heap.size + 1, 0, none⟩) 2 2) [evB i, evC c p heap i] from by
                 rw [HEVC.out]
                 exact two_at (e := ⟨2, 0, 0, i, 0, 0, 0, S.rs, S.ws, S.regs⟩) (heap_alloc2_new v1 (.cells #[.int .i64 S.e, .slice A1 n1 k1, .slice A2 n2 k2, .slice A3 n3 k3] 46) (.cells #[.int .i64 1, .int .i64 0, .int .i64 0, .int .i64 i, .int .i64 0, .int .i64 0, .int .i64 0, .slice none 0 0, .slice none 0 0, .slice none 0 0, .int .i64 2, .int .i64 0, .int .i64 0, .int .i64 i, .int .i64 0, .int .i64 0, .int .i64 0, .slice A2 n2 k2, .slice A3 n3 k3, .slice A1 n1 k1] 50)) (fun e => by have := (HLT.out _ e).2; have := hf.size; omega)
                   (Lies.mono (Lies.frame ⟨ho.r, ho.w_, ho.g⟩ hxx (fun _ _ x => x.elim)) (fun k _ x e => by have := (HLT.out _ e).2; omega)))
               have HFR := Lib.hid (ho.h.frame hxx (fun _ _ x => x.elim))
               have HFX := Lib.hid hf.size
               clear hf ho hxx)
            | (at_builtin
               refine append_evO _ rfl _ _ rfl w6.heap.size _ (evL c p heap i) rfl (HEV.out.frame HX.out) _ 2 2 [evB i, evC c p heap i] rfl HTWO.out rfl (by decide) ?qa ?qb ?_))
          case qa => rw [evL_len]; omega
          case qb => simp; have := HK.out.size; have := HF.out.size; have := HFX.out; omega
          intro g5 c5 w5 ho5 hf5
          rw [evL_len] at ho5
          rw [evL_len]
          have HO5 := Lib.hid ho5
          have HF5 := Lib.hid hf5
          clear ho5 hf5
          go_wp2
          go_roundw
          case rel =>
            have h4 := HN4.out
            subst h4
            refine ⟨i + 1, A4, k4, some ⟨g5, 0, none⟩, c5, by omega, by go_num, rfl, by rw [show (i + 1) * 2 = i * 2 + 2 by omega], HOKS.out HEE.out, ?_, ?_, ?_⟩
            · rw [HHN.out]
              exact (HFR.out.frame HF5.out (fun k x y => by have := (HLT.out k y).2; omega)).mono (fun k _ x => by have := HK.out.size; have := HF.out.size; omega)
            · rw [show (i + 1) * 2 = i * 2 + 2 by omega]
              exact HO5.out
            · exact (HF.out.trans HX.out).trans' HF5.out (fun k x y => by have := (HLT.out k x).1; omega)
          case measure => simp [intOf]; omega
        · have hd5 : (S.e != 1) = true := by simpa using he
          clear he
          go_wp2_with (first
            | (go_at_call 21
               (with_reducible refine HRUNI.out.mono ?_)
               rintro ex v1 ⟨A1, n1, k1, A2, n2, k2, A3, n3, k3, A4, n4, k4, rfl, ho, hf⟩
               obtain ⟨o0, o1, o2, o3⟩ := out_box (heap_alloc_new v1 (.cells #[.int .i64 S.e, .slice A1 n1 k1, .slice A2 n2 k2, .slice A3 n3 k3] 46)) rfl
               have HX := Lib.hid (hf.alloc (.cells #[.int .i64 S.e, .slice A1 n1 k1, .slice A2 n2 k2, .slice A3 n3 k3] 46))
               clear hf ho))
          go_meet
          case rel => exact ⟨i, A', k', Z, c', rfl, rfl, by omega, HOK.out, HFLH.out.frame HX.out (fun _ _ x => x.elim), HEV.out.frame HX.out, HF.out.trans HX.out⟩
      · obtain rfl : i = q := by omega
        go_wp2
        go_meet
        case rel => exact ⟨i, A', k', Z, c', rfl, rfl, hq, HOK.out, HFLH.out, HEV.out, HF.out⟩
  case rest =>
    obtain ⟨m, A', k', Z, c', hv9, hv10, hm, hok, hfl, hev, hfz⟩ := hcut
    subst hv9
    subst hv10
    rename World => wz
    go_upto_region 17 with fail
    have hl1 := heap_alloc2_old wz (.cells #[.slice A n cap] 40) (.cells #[.slice (some ⟨wz.heap.size, 0, none⟩) 1 1] 51)
    have hl2 := heap_alloc2_new wz (.cells #[.slice A n cap] 40) (.cells #[.slice (some ⟨wz.heap.size, 0, none⟩) 1 1] 51)
    have h99 := ((Fr.refl (fun _ => False) wz).alloc (.cells #[.slice A n cap] 40)).alloc (.cells #[.slice (some ⟨wz.heap.size, 0, none⟩) 1 1] 51)
    have h9 := hfz.trans h99
    have hfl9 := hfl.frame h99 (fun _ _ x => x.elim)
    have hev9 := hev.frame h99
    generalize (wz.alloc (.cells #[.slice A n cap] 40)).alloc (.cells #[.slice (some ⟨wz.heap.size, 0, none⟩) 1 1] 51) = W9 at *
    generalize htb : wz.heap.size + 1 = tb at *
    generalize hsb : wz.heap.size = sb at *
    clear htb hsb h99 hfl hev hfz
    have HLM := Lib.hid (evL_len c p heap m)
    have hthr := thr_one hl1 hl2 (HPW.out _ (HK.out.trans h9))
    have hsm := evL_smalls (c := c) (p := p) (heap := heap) HSML.out m hm
    have hse := fun w' (hf : Fr (fun _ => False) W9 w') => serial_calls c (some had) hn hcap heap (some ⟨tb, 0, none⟩) 1 1 [[p]] (.slice Z (m * 2) c') (evL c p heap m) _ _ _ w' (HIW.out.flat.frame (HK.out.trans (h9.trans hf)) (fun _ _ x => x.elim)) HIW.out.i64 hHN.out.1 HW3.out (hthr.frame hf (fun _ _ x => x.elim)) HSHT.out (hev9.at_.frame hf (fun _ _ x => x.elim)) hsm
    rw [HSER.out m hok] at hse
    have hco := fun w' (hf : Fr (fun _ => False) W9 w') => commits_calls (.slice Z (m * 2) c') (evL c p heap m) _ w' (hev9.at_.frame hf (fun _ _ x => x.elim)) hsm
    have hah := fun w' (hf : Fr (fun _ => False) W9 w') => ahead_calls (.slice Z (m * 2) c') (evL c p heap m) _ w' (hev9.at_.frame hf (fun _ _ x => x.elim)) hsm.1
    rw [evL_ahead] at hah
    have HSE := Lib.hid hse
    have HCO := Lib.hid hco
    have HAH := Lib.hid hah
    have HK9 := Lib.hid h9
    have HFL9 := Lib.hid hfl9
    have HEV9 := Lib.hid hev9
    have HOK := Lib.hid hok
    have HTHR := Lib.hid hthr
    have HCNT := Lib.hid (evL_count c p heap m)
    obtain ⟨c0, c1, c2, c3, c4, c5, c6, c7, c8, c9, c10, c11⟩ := HBW.out _ h9
    unfold Conf.val at *
    have hk := Fr.refl (fun _ => False) W9
    clear hse hco hah h9 hfl9 hev9 hok hthr hsm hl1 hl2
    generalize hL : m * 2 = L at *
    have hdiv : Int.tdiv (L : Int) 2 = (m : Int) := by rw [← hL]; simp
    have HLL := Lib.hid hL
    clear hL
    by_cases hm0 : m = 0
    · have hL0 : L = 0 := by have := HLL.out; omega
      subst hL0
      go_wp2_with (first
      | (go_at_call 10
         (with_reducible refine (HSE.out _ hk).mono ?_)
         rintro ex w3 ⟨E1, r1, f1, rfl, hfs, hf⟩
         have HFS := Lib.hid hfs
         clear hfs
         try (replace hs := hs.trans hf)
         replace hk := hk.trans hf
         have hs := Fr.refl (fun _ => False) w3
         clear hf
         try (clear c0 c1 c2 c3 c4 c5 c6 c7 c8 c9 c10 c11)
         obtain ⟨c0, c1, c2, c3, c4, c5, c6, c7, c8, c9, c10, c11⟩ := HBW.out _ (HK9.out.trans hk))
      | (go_at_call 12
         (with_reducible refine (intsW_eq _ _ _ _ _ _ (hN c p heap m) _ _ _ (HFS.out.frame hs (fun _ _ x => x.elim)) (by rw [HLEN.out m]; exact hHN.out.1) (HFL9.out.frame hk (fun _ _ x => x.elim))).mono ?_)
         rintro ex w3 ⟨rfl, hf⟩
         try (replace hs := hs.trans hf)
         replace hk := hk.trans hf
         clear hf
         try (clear c0 c1 c2 c3 c4 c5 c6 c7 c8 c9 c10 c11)
         obtain ⟨c0, c1, c2, c3, c4, c5, c6, c7, c8, c9, c10, c11⟩ := HBW.out _ (HK9.out.trans hk))
      | (go_at_call 13
         (with_reducible refine (HAH.out _ hk).mono ?_)
         rintro ex w3 ⟨rfl, hf⟩
         try (replace hs := hs.trans hf)
         replace hk := hk.trans hf
         clear hf
         try (clear c0 c1 c2 c3 c4 c5 c6 c7 c8 c9 c10 c11)
         obtain ⟨c0, c1, c2, c3, c4, c5, c6, c7, c8, c9, c10, c11⟩ := HBW.out _ (HK9.out.trans hk))
      | (go_at_call 16
         (with_reducible refine (HCO.out _ hk).mono ?_)
         rintro ex w3 ⟨v5, rfl, ho, hf⟩
         have hshp := ho.shape
         rw [HCNT.out] at hshp
         obtain ⟨A5, c5, rfl⟩ := hshp
         clear ho
         try (replace hs := hs.trans hf)
         replace hk := hk.trans hf
         clear hf
         try (clear c0 c1 c2 c3 c4 c5 c6 c7 c8 c9 c10 c11)
         obtain ⟨c0, c1, c2, c3, c4, c5, c6, c7, c8, c9, c10, c11⟩ := HBW.out _ (HK9.out.trans hk))
      | (go_at_call 7
         (with_reducible refine (first20_calls _).mono ?_)
         rintro ex w3 ⟨rfl, hf⟩
         try (replace hs := hs.trans hf)
         replace hk := hk.trans hf
         clear hf
         try (clear c0 c1 c2 c3 c4 c5 c6 c7 c8 c9 c10 c11)
         obtain ⟨c0, c1, c2, c3, c4, c5, c6, c7, c8, c9, c10, c11⟩ := HBW.out _ (HK9.out.trans hk)))
      go_ret
      exact ⟨by simp, HK.out.trans (HK9.out.trans hk)⟩
    · obtain ⟨j, hj⟩ : ∃ j, m = j + 1 := ⟨m - 1, by omega⟩
      have hL2 : L = j * 2 + 2 := by have := HLL.out; omega
      have hne : ¬ L = 0 := by omega
      have s1 : IntKind.i64.wrap ((L : Int) - 1) = ((L - 1 : Nat) : Int) := by rw [IntKind.wrap_i64]; omega
      have hi1 : L - 1 < L := by omega
      obtain ⟨cs, hown, hrows⟩ := id HEV9.out
      have hcells := fun g e => World.ownsRow.cells hown (g := g) e
      obtain ⟨g, hZ, hcapL⟩ : ∃ g, Z = some ⟨g, 0, none⟩ ∧ L ≤ c' := by
        rcases hown.2 with ⟨_, h0⟩ | ⟨g, cap, cur, e, _, _, hcp, _⟩
        · rw [HLM.out] at h0; omega
        · rw [HLM.out] at hcp
          cases e; exact ⟨g, rfl, hcp⟩
      subst hZ
      have hrw := hrows (L - 1) (by rw [HLM.out]; exact hi1)
      rw [show L - 1 = j * 2 + 1 by omega, hj, (evL_get c p heap (j + 1) j (by omega)).2, show j * 2 + 1 = L - 1 by omega] at hrw
      have HRW := Lib.hid (And.intro (hcells g rfl) hrw)
      have HRB := Lib.hid (show ∀ k, (Value.slice (some ⟨g, 0, none⟩) L c').ownBlock = some k → w6.heap.size ≤ k from fun k e => (World.ownsRow.lt hown k e).1)
      have HL2 := Lib.hid hL2
      have HJ := Lib.hid hj
      clear hown hrows hcells hrw hL2 hj hm0
      go_upto_region 22 with (first
      | (go_at_call 10
         (with_reducible refine (HSE.out _ hk).mono ?_)
         rintro ex w3 ⟨E1, r1, f1, rfl, hfs, hf⟩
         have HFS := Lib.hid hfs
         clear hfs
         try (replace hs := hs.trans hf)
         replace hk := hk.trans hf
         have hs := Fr.refl (fun _ => False) w3
         clear hf
         try (clear c0 c1 c2 c3 c4 c5 c6 c7 c8 c9 c10 c11)
         obtain ⟨c0, c1, c2, c3, c4, c5, c6, c7, c8, c9, c10, c11⟩ := HBW.out _ (HK9.out.trans hk))
      | (go_at_call 12
         (with_reducible refine (intsW_eq _ _ _ _ _ _ (hN c p heap m) _ _ _ (HFS.out.frame hs (fun _ _ x => x.elim)) (by rw [HLEN.out m]; exact hHN.out.1) (HFL9.out.frame hk (fun _ _ x => x.elim))).mono ?_)
         rintro ex w3 ⟨rfl, hf⟩
         try (replace hs := hs.trans hf)
         replace hk := hk.trans hf
         clear hf
         try (clear c0 c1 c2 c3 c4 c5 c6 c7 c8 c9 c10 c11)
         obtain ⟨c0, c1, c2, c3, c4, c5, c6, c7, c8, c9, c10, c11⟩ := HBW.out _ (HK9.out.trans hk))
      | (go_at_call 13
         (with_reducible refine (HAH.out _ hk).mono ?_)
         rintro ex w3 ⟨rfl, hf⟩
         try (replace hs := hs.trans hf)
         replace hk := hk.trans hf
         clear hf
         try (clear c0 c1 c2 c3 c4 c5 c6 c7 c8 c9 c10 c11)
         obtain ⟨c0, c1, c2, c3, c4, c5, c6, c7, c8, c9, c10, c11⟩ := HBW.out _ (HK9.out.trans hk))
      | (go_at_call 16
         (with_reducible refine (HCO.out _ hk).mono ?_)
         rintro ex w3 ⟨v5, rfl, ho, hf⟩
         have hshp := ho.shape
         rw [HCNT.out] at hshp
         obtain ⟨A5, c5, rfl⟩ := hshp
         clear ho
         try (replace hs := hs.trans hf)
         replace hk := hk.trans hf
         clear hf
         try (clear c0 c1 c2 c3 c4 c5 c6 c7 c8 c9 c10 c11)
         obtain ⟨c0, c1, c2, c3, c4, c5, c6, c7, c8, c9, c10, c11⟩ := HBW.out _ (HK9.out.trans hk))
      | (go_at_call 7
         (with_reducible refine (first20_calls _).mono ?_)
         rintro ex w3 ⟨rfl, hf⟩
         try (replace hs := hs.trans hf)
         replace hk := hk.trans hf
         clear hf
         try (clear c0 c1 c2 c3 c4 c5 c6 c7 c8 c9 c10 c11)
         obtain ⟨c0, c1, c2, c3, c4, c5, c6, c7, c8, c9, c10, c11⟩ := HBW.out _ (HK9.out.trans hk)))
      rename World => W22
      obtain ⟨A2, n2, k2, A3, n3, k3, A1, n1, k1, hrow, hlie⟩ := HRW.out.2
      obtain ⟨p0, p1, p2, p3, p4, p5, p6, p7, p8, p9⟩ := row_cells (fun t u ht => hk.cell (HRW.out.1 t u ht) (fun x => x)) hrow
      have had9 : (Addr.mk g 0 none).add ((L - 1) * 10) = ⟨g, (L - 1) * 10, none⟩ := by unfold Addr.add; split <;> simp_all
      rw [had9] at p0 p1 p2 p3 p4 p5 p6 p7 p8 p9
      dsimp only at p1 p2 p3 p4 p5 p6 p7 p8 p9
      clear had9
      have HLI := Lib.hid (fun w' (hf : Fr (fun _ => False) W9 w') => hlie.frame hf (fun _ _ x => x.elim))
      have hgl := hlie.g.len
      have hreg := regs_len (c := c) (heap := hN c p heap j) HPO.out (by rw [HLEN.out j]; exact HW3.out)
      have hn1 : 0 < n1 := by have : (evC c p heap j).gs = (resS c (hN c p heap j) p).regs := rfl; rw [this] at hgl; omega
      have hb1 : n1 ≤ 20000 := by have := (HSML.out j).1; have e : (evC c p heap j).gs = (resS c (hN c p heap j) p).regs := rfl; rw [e] at hgl; omega
      obtain ⟨ga, hga, _, _⟩ := (hlie.g).at_ hn1
      subst hga
      dsimp only [evC] at p0 p1 p2 p3 p4 p5 p6
      clear hrow hlie hgl hreg
      go_upto_region 23 with fail
      have hbx := heap_alloc_new W22 (.cells #[.int .i64 2, .int .i64 0, .int .i64 0, .int .i64 j, .int .i64 0, .int .i64 0, .int .i64 0, .slice A2 n2 k2, .slice A3 n3 k3, .slice (some ga) n1 k1] 50)
      have hkb := hk.alloc (.cells #[.int .i64 2, .int .i64 0, .int .i64 0, .int .i64 j, .int .i64 0, .int .i64 0, .int .i64 0, .slice A2 n2 k2, .slice A3 n3 k3, .slice (some ga) n1 k1] 50)
      have hcp := copyOwnR_calls ga n1 k1 (evC c p heap j).gs _ (W22.alloc (.cells #[.int .i64 2, .int .i64 0, .int .i64 0, .int .i64 j, .int .i64 0, .int .i64 0, .int .i64 0, .slice A2 n2 k2, .slice A3 n3 k3, .slice (some ga) n1 k1] 50)) ((HLI.out _ hkb).g) hb1 hn1
      have HCP := Lib.hid hcp
      have HBXH := Lib.hid hbx
      have HK22 := Lib.hid hkb
      generalize W22.alloc (.cells #[.int .i64 2, .int .i64 0, .int .i64 0, .int .i64 j, .int .i64 0, .int .i64 0, .int .i64 0, .slice A2 n2 k2, .slice A3 n3 k3, .slice (some ga) n1 k1] 50) = WB at *
      have hxb9 := hk.size
      generalize W22.heap.size = xb at *
      obtain ⟨⟨x0, x1, x2, x3, x4, x5, x6, x7, x8, x9⟩, y0, y1, y2, y3, y4, y5, y6, y7, y8, y9⟩ := ten_cells hbx
      clear p0 p1 p2 p3 p4 p5 p6 p7 p8 p9 hk hkb hbx hcp c0 c1 c2 c3 c4 c5 c6 c7 c8 c9 c10 c11
      go_upto_region 24 with (first
        | (go_at_call 20
           (with_reducible refine HCP.out.mono ?_)
           rintro ex w5 ⟨hb, hc5, rfl, ho, hf⟩
           have HO := Lib.hid ho
           have HF5 := Lib.hid hf
           have hbx5 := hf.heap HBXH.out (fun x => x)
           clear x0 x1 x2 x3 x4 x5 x6 x7 x8 x9 y0 y1 y2 y3 y4 y5 y6 y7 y8 y9
           obtain ⟨⟨x0, x1, x2, x3, x4, x5, x6, x7, x8, x9⟩, y0, y1, y2, y3, y4, y5, y6, y7, y8, y9⟩ := ten_cells hbx5
           clear ho hf hbx5))
      obtain ⟨cur, hcur, hct⟩ : ∃ cur, w5.heap[hb]? = some (.cells cur 3 (0, 0)) ∧ cur.toList.take (n1 * 1) = (evC c p heap j).gs.map (Value.int .i64) := by
        rcases HO.out.2 with ⟨e, _⟩ | ⟨g', cap', cur, e, _, hg, _, _, _, ht⟩
        · cases e
        · cases e; exact ⟨cur, hg, ht⟩
      have hbx5 := HF5.out.heap HBXH.out (fun x => x)
      have hnx : hb ≠ xb := ne_typ hcur hbx5 (by decide)
      have hfs : Fr (fun k => k = xb) w5 (w5.setCell ⟨xb, 9, none⟩ (.slice (some ⟨hb, 0, none⟩) n1 hc5)) := (Fr.refl (fun k => k = xb) w5).setCell (p := ⟨xb, 9, none⟩) (.inl rfl) _
      have hbx6 := blk_set hbx5 9 (.slice (some ⟨hb, 0, none⟩) n1 hc5)
      have hcu6 := hfs.heap hcur (fun e => hnx e)
      have hhb9 : WB.heap.size ≤ hb := (World.ownsRow.lt HO.out hb rfl).1
      have hf24 : Fr (fun _ => False) W9 (w5.setCell ⟨xb, 9, none⟩ (.slice (some ⟨hb, 0, none⟩) n1 hc5)) := (HK22.out.trans HF5.out).setCell (.inr hxb9) _
      generalize w5.setCell ⟨xb, 9, none⟩ (.slice (some ⟨hb, 0, none⟩) n1 hc5) = W24 at *
      simp only [List.setIfInBounds_toArray, List.set_cons_zero, List.set_cons_succ] at hbx6
      have hgl : (evC c p heap j).gs.length = n1 := (HLI.out _ HK22.out).g.len
      have hnl : NewL W24 0 3 (some ⟨hb, 0, none⟩) n1 (evC c p heap j).gs := ⟨hgl, fun _ => ⟨hb, cur, rfl, Nat.zero_le _, hcu6, fun i hi => by
        have h1 : (cur.toList.take (n1 * 1))[i]? = some (.int .i64 ((evC c p heap j).gs.getD i 0)) := by
          rw [hct, List.getElem?_map, List.getElem?_eq_getElem (by omega), List.getD_eq_getElem?_getD, List.getElem?_eq_getElem (by omega)]; rfl
        rw [List.getElem?_take, if_pos (by omega)] at h1
        simpa using h1⟩⟩
      obtain ⟨y, hy⟩ : ∃ y, y = (evC c p heap j).gs.getD 0 0 := ⟨_, rfl⟩
      have z0 : W24.cell? ⟨hb, 0, none⟩ = some (.int .i64 y) := by
        obtain ⟨g', ar, e, _, h2, h3⟩ := hnl.at_ hn1
        cases e
        rw [blk_cell h2, h3 0 hn1, hy]
      have z1 : W24.frozen? ⟨hb, 0, none⟩ = false := blk_free hcu6 _
      have hn10 : ¬ n1 = 0 := by omega
      have HGS := Lib.hid (set_ne' (d := 1) (show 0 < (evC c p heap j).gs.length from by omega) hy (.inl rfl))
      have hfb : Fr (fun k => k = hb) W24 (W24.setCell ⟨hb, 0, none⟩ (.int .i64 (wrap64 (y + 1)))) := (Fr.refl (fun k => k = hb) W24).setCell (p := ⟨hb, 0, none⟩) (.inl rfl) _
      have hbx7 := hfb.heap hbx6 (fun e => hnx e.symm)
      have hf27 : Fr (fun _ => False) W9 (W24.setCell ⟨hb, 0, none⟩ (.int .i64 (wrap64 (y + 1)))) := hf24.setCell (.inr (Nat.le_trans HK22.out.size hhb9)) _
      have hgs := (hnl.set hn1 (wrap64 (y + 1))).flat
      clear x0 x1 x2 x3 x4 x5 x6 x7 x8 x9 y0 y1 y2 y3 y4 y5 y6 y7 y8 y9
      obtain ⟨⟨x0, x1, x2, x3, x4, x5, x6, x7, x8, x9⟩, y0, y1, y2, y3, y4, y5, y6, y7, y8, y9⟩ := ten_cells hbx6
      have HY := Lib.hid hy
      clear hy hcur hct hbx5 hfs hbx6 hcu6 hf24 hnl hfb hgl
      go_upto_region 27 with fail
      generalize W24.setCell ⟨hb, 0, none⟩ (.int .i64 (wrap64 (y + 1))) = W27 at *
      clear x0 x1 x2 x3 x4 x5 x6 x7 x8 x9 y0 y1 y2 y3 y4 y5 y6 y7 y8 y9 z0 z1
      have HW27 := Lib.hid hf27
      have HGF := Lib.hid (hgs.mono (G := fun _ => True) (fun _ _ _ => trivial))
      have HBX7 := Lib.hid hbx7
      have HALL := Lib.hid (fun w' (hf : Fr (fun _ => False) W27 w') => show (w'.cell? ⟨w.heap.size, 0, none⟩ = some (.int .i64 c.r) ∧ w'.cell? ⟨w.heap.size, 1, none⟩ = some (.int .i64 c.o) ∧ w'.cell? ⟨w.heap.size, 2, none⟩ = some (.int .i64 c.s) ∧ w'.cell? ⟨w.heap.size, 3, none⟩ = some (.int .i64 c.wd) ∧ w'.cell? ⟨w.heap.size, 4, none⟩ = some (.int .i64 c.th) ∧ w'.cell? ⟨w.heap.size, 5, none⟩ = some (.int .i64 c.sl) ∧ w'.cell? ⟨w.heap.size, 6, none⟩ = some (.int .i64 c.rg) ∧ w'.cell? ⟨w.heap.size, 7, none⟩ = some (.int .i64 c.lk) ∧ w'.cell? ⟨w.heap.size, 8, none⟩ = some (.int .i64 c.un) ∧ w'.cell? ⟨w.heap.size, 9, none⟩ = some (.int .i64 c.es) ∧ w'.cell? ⟨w.heap.size, 10, none⟩ = some (.int .i64 c.tk) ∧ w'.cell? ⟨w.heap.size, 11, none⟩ = some (.int .i64 c.po) ∧ w'.cell? ⟨xb, 0, none⟩ = some (.int .i64 2) ∧ w'.cell? ⟨xb, 1, none⟩ = some (.int .i64 0) ∧ w'.cell? ⟨xb, 2, none⟩ = some (.int .i64 0) ∧ w'.cell? ⟨xb, 3, none⟩ = some (.int .i64 j) ∧ w'.cell? ⟨xb, 4, none⟩ = some (.int .i64 0) ∧ w'.cell? ⟨xb, 5, none⟩ = some (.int .i64 0) ∧ w'.cell? ⟨xb, 6, none⟩ = some (.int .i64 0) ∧ w'.cell? ⟨xb, 7, none⟩ = some (.slice A2 n2 k2) ∧ w'.cell? ⟨xb, 8, none⟩ = some (.slice A3 n3 k3) ∧ w'.cell? ⟨xb, 9, none⟩ = some (.slice (some ⟨hb, 0, none⟩) n1 hc5)) from by
        obtain ⟨c0, c1, c2, c3, c4, c5, c6, c7, c8, c9, c10, c11⟩ := HBW.out _ (HK9.out.trans (hf27.trans hf))
        obtain ⟨⟨x0, x1, x2, x3, x4, x5, x6, x7, x8, x9⟩, _⟩ := ten_cells (hf.heap hbx7 (fun x => x))
        exact ⟨c0, c1, c2, c3, c4, c5, c6, c7, c8, c9, c10, c11, x0, x1, x2, x3, x4, x5, x6, x7, x8, x9⟩)
      have HSRC := Lib.hid (show EvsAt W27 (fun k => k < W27.heap.size) (.slice (some ⟨g, 0, none⟩) (L - 1) c') (evL c p heap j ++ [evB j]) from by
        have h1 := ((HEV9.out.at_).take (k := L - 1) (by omega)).frame hf27 (fun _ _ x => x.elim)
        rw [HJ.out, show L - 1 = j * 2 + 1 from by have := HL2.out; omega, evL_take] at h1
        rw [show L - 1 = j * 2 + 1 from by have := HL2.out; omega]
        exact h1.mono (fun k hk _ => hk))
      have HLX := Lib.hid (fun w' (hf : Fr (fun _ => False) W27 w') => show Lies w' (fun k => k < W27.heap.size) (({ evC c p heap j with gs := (evC c p heap j).gs.set 0 (wrap64 (y + 1)) } : Ev)) A2 n2 k2 A3 n3 k3 (some ⟨hb, 0, none⟩) n1 hc5 from
        Lies.frame ⟨(HLI.out _ hf27).r.mono (fun k hk _ => hk), (HLI.out _ hf27).w_.mono (fun k hk _ => hk), hgs.mono (fun k hk _ => hk)⟩ hf (fun _ _ x => x.elim))
      clear hf27 hgs hbx7
      have HAHF := Lib.hid (fun w' (hf : Fr (fun _ => False) W9 w') => show Calls Try.prog 13 #[.slice (some ⟨g, 10, none⟩) (L - 1) (c' - 1)] w' fun e w'' => e = .returned (.bool false) ∧ Fr (fun _ => False) w' w'' from by
        have h := ahead_calls (.slice (some ⟨g, 10, none⟩) (L - 1) (c' - 1)) ((evL c p heap m).drop 1) _ w' ((HEV9.out.at_.drop1 (by omega)).frame hf (fun _ _ x => x.elim)) (by rw [List.length_drop, evL_len]; omega)
        rw [evL_tail c p heap m (by have := HJ.out; omega)] at h
        exact h)
      have gW := Fr.refl (fun _ => False) W27
      have hcapM : L - 1 ≤ c' := by omega
      have hLb : L ≤ 200 := by have := HLL.out; omega
      have hL1 : 0 < L - 1 := by have := HL2.out; omega
      have hlc : (evL c p heap j ++ [evB j]).length = L - 1 := by rw [List.length_append, evL_len]; have := HL2.out; simp; omega
      have HLC := Lib.hid hlc
      have HLC2 := Lib.hid (show ([] ++ (evL c p heap j ++ [evB j])).length + 1 = L from by rw [List.nil_append, hlc]; omega)
      clear hlc
      have hgb := (HBAD.out j (fun t ht => HOK.out t (by have := HJ.out; omega)) ((evC c p heap j).gs.set 0 (wrap64 (y + 1))) HGS.out)
      have HS9 := Lib.hid (fun (X : World) (g2 c2 B : Nat) (hf : Fr (fun _ => False) W27 X) (ho : EvsO B X (.slice (some ⟨g2, 0, none⟩) L c2) ([] ++ (evL c p heap j ++ [evB j]) ++ [({ evC c p heap j with gs := (evC c p heap j).gs.set 0 (wrap64 (y + 1)) } : Ev)])) =>
        (serial_calls c (some had) hn hcap heap (some ⟨tb, 0, none⟩) 1 1 [[p]] (.slice (some ⟨g2, 0, none⟩) L c2) _ _ _ _ X (HIW.out.flat.frame (HK.out.trans (HK9.out.trans (HW27.out.trans hf))) (fun _ _ x => x.elim)) HIW.out.i64 hHN.out.1 HW3.out (HTHR.out.frame (HW27.out.trans hf) (fun _ _ x => x.elim)) HSHT.out ho.at_ (evX_smalls HSML.out j (by have := HJ.out; omega) 0 (wrap64 (y + 1)))).mono
          (R' := fun e w' => ∃ A' n' c', e = .returned (.tuple #[.slice A' n' c', .int .i64 2]) ∧ Fr (fun _ => False) X w') fun e w' ⟨A', n', c', h1, _, h3⟩ => ⟨A', n', c', by rw [h1]; exact congrArg (fun z => Ending.returned (Value.tuple #[.slice A' n' c', .int .i64 z])) hgb, h3⟩)
      unfold Conf.val at HS9
      clear hgb
      go_region_held3 (fun w' => w'.cell? ⟨w.heap.size, 0, none⟩ = some (.int .i64 c.r) ∧ w'.cell? ⟨w.heap.size, 1, none⟩ = some (.int .i64 c.o) ∧ w'.cell? ⟨w.heap.size, 2, none⟩ = some (.int .i64 c.s) ∧ w'.cell? ⟨w.heap.size, 3, none⟩ = some (.int .i64 c.wd) ∧ w'.cell? ⟨w.heap.size, 4, none⟩ = some (.int .i64 c.th) ∧ w'.cell? ⟨w.heap.size, 5, none⟩ = some (.int .i64 c.sl) ∧ w'.cell? ⟨w.heap.size, 6, none⟩ = some (.int .i64 c.rg) ∧ w'.cell? ⟨w.heap.size, 7, none⟩ = some (.int .i64 c.lk) ∧ w'.cell? ⟨w.heap.size, 8, none⟩ = some (.int .i64 c.un) ∧ w'.cell? ⟨w.heap.size, 9, none⟩ = some (.int .i64 c.es) ∧ w'.cell? ⟨w.heap.size, 10, none⟩ = some (.int .i64 c.tk) ∧ w'.cell? ⟨w.heap.size, 11, none⟩ = some (.int .i64 c.po) ∧ w'.cell? ⟨xb, 0, none⟩ = some (.int .i64 2) ∧ w'.cell? ⟨xb, 1, none⟩ = some (.int .i64 0) ∧ w'.cell? ⟨xb, 2, none⟩ = some (.int .i64 0) ∧ w'.cell? ⟨xb, 3, none⟩ = some (.int .i64 j) ∧ w'.cell? ⟨xb, 4, none⟩ = some (.int .i64 0) ∧ w'.cell? ⟨xb, 5, none⟩ = some (.int .i64 0) ∧ w'.cell? ⟨xb, 6, none⟩ = some (.int .i64 0) ∧ w'.cell? ⟨xb, 7, none⟩ = some (.slice A2 n2 k2) ∧ w'.cell? ⟨xb, 8, none⟩ = some (.slice A3 n3 k3) ∧ w'.cell? ⟨xb, 9, none⟩ = some (.slice (some ⟨hb, 0, none⟩) n1 hc5))
        ((refine HALL.out _ ?_; (focus ((repeat (first | with_reducible exact gW | with_reducible refine Fr.alloc ?_ _ | with_reducible refine Fr.drew ?_ | with_reducible exact Fr.refl _ _)); done))))
        (first
        | (refine step_evO _ (by rfl) (.tmp 143) (.tmp 148) (by rfl) W27.heap.size _ [] (by rfl) (empO (by first | exact Nat.le_refl _ | exact Nat.le_succ _) (by first | exact heap_alloc_new _ _ | exact heap_alloc2_new _ _ _ | exact heap_alloc2_old _ _ _)) _ _ _ (evL c p heap j ++ [evB j]) (by rfl) (EvsAt.up HSRC.out (show Fr (fun _ => False) W27 _ from by (focus ((repeat (first | with_reducible exact gW | with_reducible refine Fr.alloc ?_ _ | with_reducible refine Fr.drew ?_ | with_reducible exact Fr.refl _ _)); done))) (fun k e => by have h := own_eq e; first | exact Nat.le_of_eq h | (subst h; exact Nat.le_succ _))) HLC.out hL1 (show 0 + (L - 1) ≤ 100000 from by omega) (Fr.size (S := fun _ => False) (by (focus ((repeat (first | with_reducible exact gW | with_reducible refine Fr.alloc ?_ _ | with_reducible refine Fr.drew ?_ | with_reducible exact Fr.refl _ _)); done)))) ?_
           rintro g1 c1 u1 ho1 hf1 hb1 hlt1
           simp only [List.length_nil, Nat.zero_add] at ho1 ⊢
           have HO1 := Lib.hid ho1
           have HF1 := Lib.hid hf1
           have HB1 := Lib.hid (And.intro (own_or hb1) hlt1)
           have hsz1 := hf1.size
           have HG1 := Lib.hid (show W27.heap.size ≤ g1 from (World.ownsRow.lt ho1.choose_spec.1 g1 rfl).1)
           replace gW : Fr (fun _ => False) W27 u1 := Fr.trans' (show Fr (fun _ => False) W27 _ from by (focus ((repeat (first | with_reducible exact gW | with_reducible refine Fr.alloc ?_ _ | with_reducible refine Fr.drew ?_ | with_reducible exact Fr.refl _ _)); done))) hf1 (fun k x y => by have h := own_eq x; first | omega | (simp at h; omega))
           have gU := Fr.refl (fun _ => False) u1
           clear ho1 hf1 hb1)
        | (refine step_evO _ (by rfl) (.tmp 149) (.tmp 151) (by rfl) W27.heap.size _ ([] ++ (evL c p heap j ++ [evB j])) (by rfl) (HO1.out.frame (show Fr (fun _ => False) u1 _ from by (focus ((repeat (first | with_reducible exact gU | with_reducible refine Fr.alloc ?_ _ | with_reducible refine Fr.drew ?_ | with_reducible exact Fr.refl _ _)); done)))) _ 1 1 [({ evC c p heap j with gs := (evC c p heap j).gs.set 0 (wrap64 (y + 1)) } : Ev)] (by rfl) (one_at (e := ({ evC c p heap j with gs := (evC c p heap j).gs.set 0 (wrap64 (y + 1)) } : Ev)) (by first | exact heap_alloc_new _ _ | exact HF1.out.heap (heap_alloc2_new _ _ _) (own_ne (by omega)) | exact HF1.out.heap (heap_alloc2_old _ _ _) (own_ne (by omega))) (HLX.out _ (by (focus ((repeat (first | with_reducible exact gW | with_reducible refine Fr.alloc ?_ _ | with_reducible refine Fr.drew ?_ | with_reducible exact Fr.refl _ _)); done)))) (own_ne (by have h := HB1.out; simp at h; omega)) (fun k hk => own_ne (by have h := HG1.out; omega))) rfl (by decide) (show ([] ++ (evL c p heap j ++ [evB j])).length + 1 ≤ 100000 from by rw [List.nil_append, HLC.out]; omega) (Fr.size (S := fun _ => False) (by (focus ((repeat (first | with_reducible exact gW | with_reducible refine Fr.alloc ?_ _ | with_reducible refine Fr.drew ?_ | with_reducible exact Fr.refl _ _)); done)))) ?_
           rintro g2 c2 u2 ho2 hf2 _ _
           rw [HLC2.out] at ho2 ⊢
           have HO2 := Lib.hid ho2
           replace gW : Fr (fun _ => False) W27 u2 := Fr.trans' (show Fr (fun _ => False) W27 _ from by (focus ((repeat (first | with_reducible exact gW | with_reducible refine Fr.alloc ?_ _ | with_reducible refine Fr.drew ?_ | with_reducible exact Fr.refl _ _)); done))) hf2 (fun k x y => by have h := own_eq x; have := HG1.out; omega)
           clear ho2 hf2)
        | (go_at_call 10
           (with_reducible refine (HS9.out u2 _ _ _ gW HO2.out).mono ?_)
           rintro ex u3 ⟨A9, n9, c9, rfl, hf⟩
           replace gW : Fr (fun _ => False) W27 u3 := gW.trans hf
           clear hf))
      all_goals
        go_wp2_with (first
          | (go_at_call 7
             (with_reducible refine (first20_calls _).mono ?_)
             rintro ex u4 ⟨rfl, hf⟩
             replace gW : Fr (fun _ => False) W27 u4 := Fr.trans (by (focus ((repeat (first | with_reducible exact gW | with_reducible refine Fr.alloc ?_ _ | with_reducible refine Fr.drew ?_ | with_reducible exact Fr.refl _ _)); done))) hf
             clear hf)
          | (go_at_call 13
             (with_reducible refine (HAHF.out _ (HW27.out.trans (show Fr (fun _ => False) W27 _ from by (focus ((repeat (first | with_reducible exact gW | with_reducible refine Fr.alloc ?_ _ | with_reducible refine Fr.drew ?_ | with_reducible exact Fr.refl _ _)); done))))).mono ?_)
             rintro ex u5 ⟨rfl, hf⟩
             replace gW : Fr (fun _ => False) W27 u5 := Fr.trans (by (focus ((repeat (first | with_reducible exact gW | with_reducible refine Fr.alloc ?_ _ | with_reducible refine Fr.drew ?_ | with_reducible exact Fr.refl _ _)); done))) hf
             clear hf))
        go_ret
        exact ⟨by simp, HK.out.trans (HK9.out.trans (HW27.out.trans gW))⟩

theorem one_walk (cs : Array Value) (c : Conf) (H : Option Addr) (hn hcap : Nat) (heap : List Int) (A : Option Addr) (n cap : Nat) (p : List Ins) (od : Int) (w : World) (hc : ConfIn cs c) (hI : IntsZ w H hn hcap heap) (h : ProgAt w (fun _ => True) A n cap p) (_hw : (Lit.int .i64 od).wf = true) :
    Calls Try.prog 4 #[.agg cs, .slice H hn hcap, .slice A n cap, .int .i64 od] w fun e w' => e = .returned (.bool true) ∧ Fr (fun _ => False) w w' := by
  rw [hc]
  by_cases h1 : 60 < n
  · exact one_many c H hn hcap A n cap p od w h (.inl h1)
  · by_cases h2 : od < 0
    · exact one_many c H hn hcap A n cap p od w h (.inr (.inl ⟨by omega, h2⟩))
    · by_cases h3 : 50 < od
      · exact one_many c H hn hcap A n cap p od w h (.inr (.inr (.inl ⟨by omega, by omega, h3⟩)))
      · cases h4 : progOk c p with
        | false => exact one_many c H hn hcap A n cap p od w h (.inr (.inr (.inr (.inl ⟨by omega, by omega, by omega, h4⟩))))
        | true =>
          by_cases h5 : (hn : Int) = c.words
          · obtain ⟨q, rfl⟩ := Int.eq_ofNat_of_zero_le (show 0 ≤ od by omega)
            have h6 : 0 < hn := by have := words_pos (progOk_iff.1 h4).1; omega
            obtain ⟨had, rfl, _, _⟩ := hI.flat.at_ h6
            exact one_go c had hn hcap heap A n cap p q w hI h (by omega) (by omega) h4 h5 h6
          · exact one_many c H hn hcap A n cap p od w h (.inr (.inr (.inr (.inr ⟨by omega, by omega, by omega, h4, h5⟩))))
end Go.Proofs.Ytkaokhpaabfhmaa
