/- A story's events as All tells them: lists of their own, which may be written. -/
import Derived.Test.YthlanmibfnaoiaaEvC
import Derived.Test.YthlanmibfnaoiaaAp
namespace Go.Proofs.Ythlanmibfnaoiaa
open Go.RowKit

theorem NewL.ofOwn {w : World} {B : Nat} {T : TypeId} {size n : Nat} {v : Value} {xs : List Int} (h : w.ownsRow B T size v n (xs.map (Value.int .i64))) : ∃ A cap, v = .slice A n cap ∧ NewL w B T A (n * size) xs := by
  have hl : xs.length = n * size := by simpa using h.1
  rcases h.2 with ⟨rfl, h0⟩ | ⟨g, cap, cur, rfl, hb, hg, hn, hm, hs, ht⟩
  · subst h0
    exact ⟨none, 0, rfl, hl, fun x => absurd x (by omega)⟩
  · refine ⟨_, cap, rfl, hl, fun _ => ⟨g, cur, rfl, hb, hg, fun i hi => ?_⟩⟩
    have h1 : (cur.toList.take (n * size))[i]? = some (.int .i64 (xs.getD i 0)) := by
      rw [ht, List.getElem?_map, List.getElem?_eq_getElem (by omega), List.getD_eq_getElem?_getD, List.getElem?_eq_getElem (by omega)]; rfl
    rw [List.getElem?_take, if_pos hi] at h1
    simpa using h1
/-- An event's lists, its own, from block B on. -/
structure LiesN (w : World) (B : Nat) (e : Ev) (A1 : Option Addr) (n1 c1 : Nat) (A2 : Option Addr) (n2 c2 : Nat) (A3 : Option Addr) (n3 c3 : Nat) : Prop where
  r : NewL w B 40 A1 (n1 * 2) e.rs
  w_ : NewL w B 40 A2 (n2 * 2) e.ws
  g : NewL w B 3 A3 n3 e.gs
def EvRowN (w : World) (B : Nat) (cs : List Value) (i : Nat) (e : Ev) : Prop :=
  ∃ A1 n1 c1 A2 n2 c2 A3 n3 c3, RowAt cs i e (.slice A1 n1 c1) (.slice A2 n2 c2) (.slice A3 n3 c3) ∧ LiesN w B e A1 n1 c1 A2 n2 c2 A3 n3 c3
theorem EvRowN.frame {w w' : World} {S : Nat → Prop} {B : Nat} {cs : List Value} {i : Nat} {e : Ev} (h : EvRowN w B cs i e) (hf : Fr S w w') (hs : ∀ k, B ≤ k → k < w.heap.size → ¬ S k) : EvRowN w' B cs i e :=
  let ⟨A1, n1, c1, A2, n2, c2, A3, n3, c3, h1, h2⟩ := h; ⟨A1, n1, c1, A2, n2, c2, A3, n3, c3, h1, ⟨h2.r.frame hf hs, h2.w_.frame hf hs, h2.g.frame hf hs⟩⟩
theorem EvRowN.base {w : World} {B C : Nat} {cs : List Value} {i : Nat} {e : Ev} (h : EvRowN w B cs i e) (hc : C ≤ B) : EvRowN w C cs i e :=
  let ⟨A1, n1, c1, A2, n2, c2, A3, n3, c3, h1, h2⟩ := h; ⟨A1, n1, c1, A2, n2, c2, A3, n3, c3, h1, ⟨h2.r.base hc, h2.w_.base hc, h2.g.base hc⟩⟩
theorem EvRowN.of_eq {w : World} {B : Nat} {xs ys : List Value} {i : Nat} {e : Ev} (h : EvRowN w B xs i e) (hk : ∀ m, m / 10 = i → ys[m]? = xs[m]?) : EvRowN w B ys i e :=
  let ⟨A1, n1, c1, A2, n2, c2, A3, n3, c3, h1, h2⟩ := h; ⟨A1, n1, c1, A2, n2, c2, A3, n3, c3, h1.of_eq hk, h2⟩
/-- Events of the call's own: their slice from block B on, their lists behind that slice's block. -/
def EvsN (B : Nat) (w : World) (v : Value) (es : List Ev) : Prop :=
  ∃ B1, B ≤ B1 ∧ (∀ k, v.ownBlock = some k → k < B1) ∧ ∃ cs, w.ownsRow B 33 10 v es.length cs ∧ ∀ i, i < es.length → EvRowN w B1 cs i (es.getD i default)

set_option maxRecDepth 100000 in
theorem cloneIntsN_calls (A : Option Addr) (n c : Nat) (xs : List Int) (F : Nat → Prop) (w : World) (hx : Flat w F A n xs) (hn : n ≤ 20000) :
    Calls Try.prog 36 #[.slice A n c] w fun e w' => ∃ A' c', e = .returned (.slice A' n c') ∧ NewL w' w.heap.size 3 A' n xs ∧ Fr (fun _ => False) w w' := by
  cases A with
  | none =>
    have h0 : n = 0 := by
      by_cases h : n = 0
      · exact h
      · obtain ⟨_, h1, _⟩ := hx.at_ (by omega); cases h1
    subst h0
    obtain rfl : xs = [] := List.length_eq_zero_iff.1 hx.len
    have q22 := fun (w : World) (a : Option Addr) (n c n' c' : Nat) => Lib.run_eql_slice_nil w 31 _ a n c n' c' Try.underlying31
    go_enter Try.func36, Try.ntmps36
    go_wp2
    go_ret
    exact ⟨none, 0, rfl, ⟨rfl, fun h => absurd h (Nat.lt_irrefl _)⟩, Fr.refl _ _⟩
  | some ad =>
    have hc := Lib.hid (show ∀ j u, (xs.map (Value.int .i64))[j]? = some u → w.cell? (ad.add j) = some u by
      by_cases h0 : n = 0
      · subst h0
        obtain rfl : xs = [] := List.length_eq_zero_iff.1 hx.len
        intro j u hj; cases hj
      · obtain ⟨ad', h1, _, h2⟩ := hx.at_ (by omega)
        cases h1
        exact cells_ints hx.len h2)
    obtain ⟨i0, hi, hz0, hz1, hz2⟩ := info_parts infoInt
    have hl := Lib.hid hx.len
    clear hx
    have q22 := fun (w : World) (a : Option Addr) (n c n' c' : Nat) => Lib.run_eql_slice_nil w 31 _ a n c n' c' Try.underlying31
    go_enter Try.func36, Try.ntmps36
    go_wp2_with (at_builtin; refine wpList_append_own _ rfl _ _ 31 rfl w.heap.size 3 i0 (.int .i64 0) 1 8 Try.underlying31 hi hz0 hz1 hz2 rfl (by decide) _ _ _ rfl (World.ownsRow_made w #[] 0 (Nat.le_refl _) (Nat.zero_le _) (by simp)) ad n c (xs.map (Value.int .i64)) rfl ?qc1 ?qc2 ?qc3 ?qc4 ?qc5 ?qc6 ?_)
    case qc1 => rw [List.length_map, hl.out, Nat.mul_one]
    case qc2 => exact fun j u hj => ((Fr.refl (fun _ => False) w).alloc _).cell (hc.out j u hj) (fun x => x)
    case qc3 => exact one_ints xs
    case qc4 => unfold maxLen; omega
    case qc5 => omega
    case qc6 => simp
    intro v' w1 hown hgrow hnil
    go_wp2
    go_ret
    obtain ⟨A', c', rfl, hF⟩ := NewL.ofOwn (by simpa using hown)
    rw [Nat.mul_one] at hF
    exact ⟨A', c', rfl, hF, ((Fr.refl _ w).alloc _).grown hgrow (fun k hk => .inr (by simp [Value.ownBlock] at hk; omega))⟩
set_option maxRecDepth 100000 in
theorem cloneAccN_calls (A : Option Addr) (n c : Nat) (xs : List Int) (F : Nat → Prop) (w : World) (hx : Flat w F A (n * 2) xs) (hn : n ≤ 20000) :
    Calls Try.prog 35 #[.slice A n c] w fun e w' => ∃ A' c', e = .returned (.slice A' n c') ∧ NewL w' w.heap.size 40 A' (n * 2) xs ∧ Fr (fun _ => False) w w' := by
  cases A with
  | none =>
    have h0 : n = 0 := by
      by_cases h : n = 0
      · exact h
      · obtain ⟨_, h1, _⟩ := hx.at_ (by omega); cases h1
    subst h0
    obtain rfl : xs = [] := List.length_eq_zero_iff.1 (by rw [hx.len])
    have q22 := fun (w : World) (a : Option Addr) (n c n' c' : Nat) => Lib.run_eql_slice_nil w 30 _ a n c n' c' Try.underlying30
    go_enter Try.func35, Try.ntmps35
    go_wp2
    go_ret
    exact ⟨none, 0, rfl, ⟨rfl, fun h => absurd h (Nat.lt_irrefl _)⟩, Fr.refl _ _⟩
  | some ad =>
    have hc := Lib.hid (show ∀ j u, (xs.map (Value.int .i64))[j]? = some u → w.cell? (ad.add j) = some u by
      by_cases h0 : n = 0
      · subst h0
        obtain rfl : xs = [] := List.length_eq_zero_iff.1 (by rw [hx.len])
        intro j u hj; cases hj
      · obtain ⟨ad', h1, _, h2⟩ := hx.at_ (by omega)
        cases h1
        exact cells_ints hx.len h2)
    obtain ⟨i0, hi, hz0, hz1, hz2⟩ := info_parts infoAcc
    have hl := Lib.hid hx.len
    clear hx
    have q22 := fun (w : World) (a : Option Addr) (n c n' c' : Nat) => Lib.run_eql_slice_nil w 30 _ a n c n' c' Try.underlying30
    go_enter Try.func35, Try.ntmps35
    go_wp2_with (at_builtin; refine wpList_append_own _ rfl _ _ 30 rfl w.heap.size 40 i0 (.agg #[.int .i64 0, .int .i64 0]) 2 16 Try.underlying30 hi hz0 hz1 hz2 rfl (by decide) _ _ _ rfl (World.ownsRow_made w #[] 0 (Nat.le_refl _) (Nat.zero_le _) (by simp)) ad n c (xs.map (Value.int .i64)) rfl ?qc1 ?qc2 ?qc3 ?qc4 ?qc5 ?qc6 ?_)
    case qc1 => rw [List.length_map, hl.out]
    case qc2 => exact fun j u hj => ((Fr.refl (fun _ => False) w).alloc _).cell (hc.out j u hj) (fun x => x)
    case qc3 => exact one_ints xs
    case qc4 => unfold maxLen; omega
    case qc5 => omega
    case qc6 => simp
    intro v' w1 hown hgrow hnil
    go_wp2
    go_ret
    obtain ⟨A', c', rfl, hF⟩ := NewL.ofOwn (by simpa using hown)
    exact ⟨A', c', rfl, hF, ((Fr.refl _ w).alloc _).grown hgrow (fun k hk => .inr (by simp [Value.ownBlock] at hk; omega))⟩

set_option maxRecDepth 100000 in
theorem ownN_calls (B g n cap i : Nat) (xs : List Value) (e : Ev) (F : Nat → Prop) (w : World) (ho : w.ownsRow B 33 10 (.slice (some ⟨g, 0, none⟩) n cap) n xs) (hi : i < n) (he : EvRow w F xs i e) (hF : ¬ F g) (hs : e.small) :
    Calls Try.prog 32 #[.pointer (some ⟨g, i * 10, none⟩)] w fun ex w' => ex = .returned (.tuple #[]) ∧ ∃ a b c, w'.ownsRow B 33 10 (.slice (some ⟨g, 0, none⟩) n cap) n (set3 xs i a b c) ∧
      EvRowN w' w.heap.size (set3 xs i a b c) i e ∧ Fr (fun k => k = g) w w' := by
  obtain ⟨A1, n1, c1, A2, n2, c2, A3, n3, c3, hrow, hL⟩ := he
  have hlen : xs.length = n * 10 := ho.1
  have hg : g < w.heap.size := (ho.lt g rfl).2
  have q7 : w.cell? ⟨g, i * 10 + 7, none⟩ = some (.slice A1 n1 c1) := by rw [ho.cellAt _ (by omega)]; exact hrow 7 (by omega)
  have l1 := hL.r.len
  have l2 := hL.w_.len
  have l3 := hL.g.len
  obtain ⟨s1, s2, s3⟩ := hs
  have z7 := ho.frozenAt (i * 10 + 7)
  have hr := hL.r
  have HD := Lib.hid (And.intro ho (And.intro hrow hL))
  clear ho hrow hL
  go_enter Try.func32, Try.ntmps32
  go_wp2_with (first
    | (go_at_call 35
       (with_reducible refine (cloneAccN_calls _ _ _ _ _ _ hr (by omega)).mono ?_)
       rintro ex w1 ⟨a1, d1, rfl, fl1, hf1⟩
       clear hr
       have HA := Lib.hid fl1
       have HF1 := Lib.hid hf1
       have o1 := ownsRow_frame HD.out.1 hf1 (fun _ _ x => x)
       have y7 := o1.cellAt (i * 10 + 7) (by omega)
       rw [show xs[i * 10 + 7]? = _ from HD.out.2.1 7 (by omega)] at y7
       simp only [Ev.cells, List.getElem?_cons_zero, List.getElem?_cons_succ] at y7
       have z7 := o1.frozenAt (i * 10 + 7)
       obtain ⟨o2, g2⟩ := o1.stored (i * 10 + 7) (.slice a1 n1 d1)
       have k2 := hf1.setCell' (S := fun k => k = g) (p := ⟨g, i * 10 + 7, none⟩) rfl (.slice a1 n1 d1)
       have q8 := o2.cellAt (i * 10 + 8) (by omega)
       rw [List.getElem?_set_ne (by omega), show xs[i * 10 + 8]? = _ from HD.out.2.1 8 (by omega)] at q8
       simp only [Ev.cells, List.getElem?_cons_zero, List.getElem?_cons_succ] at q8
       have hw2 := HD.out.2.2.w_.frame k2 (fun k x y => absurd (y ▸ x) hF)
       have HO2 := Lib.hid o2
       have HK2 := Lib.hid k2
       clear o1 o2 g2 k2 fl1 hf1)
    | (go_at_call 35
       (with_reducible refine (cloneAccN_calls _ _ _ _ _ _ hw2 (by omega)).mono ?_)
       rintro ex w3 ⟨a2, d2, rfl, fl2, hf3⟩
       clear hw2
       have HB := Lib.hid fl2
       have HF3 := Lib.hid hf3
       have o3 := ownsRow_frame HO2.out hf3 (fun _ _ x => x)
       have y8 := o3.cellAt (i * 10 + 8) (by omega)
       rw [List.getElem?_set_ne (by omega), show xs[i * 10 + 8]? = _ from HD.out.2.1 8 (by omega)] at y8
       simp only [Ev.cells, List.getElem?_cons_zero, List.getElem?_cons_succ] at y8
       have z8 := o3.frozenAt (i * 10 + 8)
       obtain ⟨o4, g4⟩ := o3.stored (i * 10 + 8) (.slice a2 n2 d2)
       have k4 := (HK2.out.trans' (hf3.mono (T := fun k => k = g) (fun _ x => x.elim)) (fun _ x _ => x)).setCell' (S := fun k => k = g) (p := ⟨g, i * 10 + 8, none⟩) rfl (.slice a2 n2 d2)
       have q9 := o4.cellAt (i * 10 + 9) (by omega)
       rw [List.getElem?_set_ne (by omega), List.getElem?_set_ne (by omega), show xs[i * 10 + 9]? = _ from HD.out.2.1 9 (by omega)] at q9
       simp only [Ev.cells, List.getElem?_cons_zero, List.getElem?_cons_succ] at q9
       have hg4 := HD.out.2.2.g.frame k4 (fun k x y => absurd (y ▸ x) hF)
       have HO4 := Lib.hid o4
       have HK4 := Lib.hid k4
       clear o3 o4 g4 k4 fl2 hf3)
    | (go_at_call 36
       (with_reducible refine (cloneIntsN_calls _ _ _ _ _ _ hg4 (by omega)).mono ?_)
       rintro ex w5 ⟨a3, d3, rfl, fl3, hf5⟩
       clear hg4
       have HC := Lib.hid fl3
       have HF5 := Lib.hid hf5
       have o5 := ownsRow_frame HO4.out hf5 (fun _ _ x => x)
       have y9 := o5.cellAt (i * 10 + 9) (by omega)
       rw [List.getElem?_set_ne (by omega), List.getElem?_set_ne (by omega), show xs[i * 10 + 9]? = _ from HD.out.2.1 9 (by omega)] at y9
       simp only [Ev.cells, List.getElem?_cons_zero, List.getElem?_cons_succ] at y9
       have z9 := o5.frozenAt (i * 10 + 9)
       obtain ⟨o6, g6⟩ := o5.stored (i * 10 + 9) (.slice a3 n3 d3)
       have k6 := (HK4.out.trans' (hf5.mono (T := fun k => k = g) (fun _ x => x.elim)) (fun _ x _ => x)).setCell' (S := fun k => k = g) (p := ⟨g, i * 10 + 9, none⟩) rfl (.slice a3 n3 d3)
       have HO6 := Lib.hid o6
       have HK6 := Lib.hid k6
       clear o5 o6 g6 k6 fl3 hf5))
  refine bodyPost_end (v := .tuple #[]) (by simp [results, Try.results32, go_sem]) rfl ?_
  refine ⟨rfl, _, _, _, HO6.out, ⟨a1, n1, d1, a2, n2, d2, a3, n3, d3, set3_row HD.out.2.1 (by omega), ?_, ?_, ?_⟩, HK6.out⟩
  · have t1 := HA.out.frame ((Fr.refl (fun k => k = g) w1).setCell (p := ⟨g, i * 10 + 7, none⟩) (.inl rfl) (.slice a1 n1 d1)) (fun k x _ y => by subst y; omega)
    have t2 := (t1.frameF HF3.out).frame ((Fr.refl (fun k => k = g) w3).setCell (p := ⟨g, i * 10 + 8, none⟩) (.inl rfl) (.slice a2 n2 d2)) (fun k x _ y => by subst y; omega)
    exact (t2.frameF HF5.out).frame ((Fr.refl (fun k => k = g) w5).setCell (p := ⟨g, i * 10 + 9, none⟩) (.inl rfl) (.slice a3 n3 d3)) (fun k x _ y => by subst y; omega)
  · have hsz : w.heap.size ≤ (w1.setCell ⟨g, i * 10 + 7, none⟩ (.slice a1 n1 d1)).heap.size := HK2.out.size
    have t2 := (HB.out.base hsz).frame ((Fr.refl (fun k => k = g) w3).setCell (p := ⟨g, i * 10 + 8, none⟩) (.inl rfl) (.slice a2 n2 d2)) (fun k x _ y => by subst y; omega)
    exact (t2.frameF HF5.out).frame ((Fr.refl (fun k => k = g) w5).setCell (p := ⟨g, i * 10 + 9, none⟩) (.inl rfl) (.slice a3 n3 d3)) (fun k x _ y => by subst y; omega)
  · have hsz : w.heap.size ≤ (w3.setCell ⟨g, i * 10 + 8, none⟩ (.slice a2 n2 d2)).heap.size := HK4.out.size
    exact (HC.out.base hsz).frame ((Fr.refl (fun k => k = g) w5).setCell (p := ⟨g, i * 10 + 9, none⟩) (.inl rfl) (.slice a3 n3 d3)) (fun k x _ y => by subst y; omega)

set_option maxRecDepth 100000 in
theorem toldN_calls (v : Value) (es : List Ev) (F : Nat → Prop) (w : World) (hx : EvsAt w F v es) (hs : Smalls es) :
    Calls Try.prog 21 #[v] w fun e w' => ∃ v', e = .returned v' ∧ EvsN w.heap.size w' v' es ∧ Fr (fun _ => False) w w' := by
  replace hx := hx.mono (G := fun k => k < w.heap.size) (fun k h _ => h)
  obtain ⟨A0, c0, cs0, rfl, _⟩ := id hx.ex
  have hlen := hs.1
  go_enter Try.func21, Try.ntmps21
  go_wp2_with (go_at_call 25
               (with_reducible refine (cloneEv_calls _ es _ _ hx hlen).mono ?_)
               rintro ex w1 ⟨v1, rfl, ⟨xs, ho, hrows⟩, hf1⟩
               have HR := Lib.hid (And.intro ho (And.intro hrows hf1))
               have HS := Lib.hid hs
               obtain ⟨A, cap, rfl, hcap, hnone, hg⟩ := ownsRow_shape ho
               clear hrows hx hs ho)
  have hfs := HR.out.2.2.size
  generalize hln : es.length = n at *
  have HN := Lib.hid hln
  clear hln
  go_loopw [4, 9] (fun _ v9 wr => ∃ i : Nat, i ≤ n ∧ v9 = .int .i64 i ∧ (∃ ys, wr.ownsRow w.heap.size 33 10 (.slice A n cap) n ys ∧ (∀ t, t < i → EvRowN wr w1.heap.size ys t (es.getD t default)) ∧ (∀ t, i ≤ t → t < n → EvRow wr (fun k => k < w.heap.size) ys t (es.getD t default))) ∧ Fr (fun k => ∃ a, A = some a ∧ a.block = k) w1 wr) (fun _ v9 _ => n - (intOf v9).toNat)
  case atStart => exact ⟨0, Nat.zero_le _, rfl, ⟨xs, HR.out.1, fun t ht => absurd ht (Nat.not_lt_zero _), fun t _ ht => HR.out.2.1 t ht⟩, Fr.refl _ _⟩
  case round =>
    obtain ⟨i, hi, rfl, ⟨ys, ho, hd, ht⟩, hf⟩ := hrel
    by_cases hlt : i < n
    · cases A with
      | none => exact absurd (hnone rfl) (by omega)
      | some ad =>
        obtain ⟨g, rfl, hb, hgw⟩ := hg _ rfl
        have HD := Lib.hid hd
        have HT := Lib.hid ht
        have hsm := HS.out.at_ i (by rw [HN.out]; exact hlt)
        have hev := ht i (Nat.le_refl _) hlt
        have hwr := hf.size
        clear hd ht hg hnone
        go_wp2_with (go_at_call 32
                     (with_reducible refine (ownN_calls _ g n cap i ys _ _ _ ho hlt hev (by omega) hsm).mono ?_)
                     rintro ex w2 ⟨rfl, a, b, c, ho2, hr2, hf2⟩)
        go_roundw
        case rel =>
          refine ⟨i + 1, by omega, by go_num, ⟨_, ho2, fun t ht' => ?_, fun t h1 h2 => ?_⟩, hf.trans' hf2 (fun k x _ => ⟨_, rfl, x.symm⟩)⟩
          · by_cases hti : t < i
            · exact ((HD.out t hti).frame hf2 (fun k x _ y => by omega)).of_eq (fun m hm => set3_other (by omega))
            · obtain rfl : t = i := by omega
              exact hr2.base hwr
          · exact ((HT.out t (by omega) h2).frame hf2 (fun k x y => by omega)).of_eq (fun m hm => set3_other (by omega))
        case measure => simp [intOf]; omega
    · obtain rfl : i = n := by omega
      have HO := Lib.hid (And.intro ho (And.intro hd hf))
      clear ho hd ht hf
      go_wp2
      go_ret
      have hf' := HO.out.2.2
      exact ⟨_, rfl, ⟨w1.heap.size, hfs, fun k hk => by
        cases hA : A with
        | none => rw [hA] at hk; cases hk
        | some a =>
          obtain ⟨g, rfl, _, hgw⟩ := hg a hA
          rw [hA] at hk
          cases hk; exact hgw, ys, by rw [HN.out]; exact HO.out.1, fun t ht => HO.out.2.1 t (by rw [HN.out] at ht; exact ht)⟩, HR.out.2.2.trans' hf' (fun k x y => by
        obtain ⟨a, ha, rfl⟩ := x
        obtain ⟨g, rfl, hb, _⟩ := hg a ha
        exact absurd (show g < w.heap.size from y) (by omega))⟩
set_option maxRecDepth 100000 in
theorem storyAllN_calls (s : Nat) (v : Value) (es : List Ev) (F : Nat → Prop) (w : World) (h : StoryAt w s F v es) (hs : Smalls es) :
    Calls Try.prog 15 #[.pointer (some ⟨s, 0, none⟩)] w fun e w' => ∃ v', e = .returned v' ∧ EvsN w.heap.size w' v' es ∧ Fr (fun _ => False) w w' := by
  have q0 : w.cell? ⟨s, 0, none⟩ = some v := by rw [blk_cell h.hb]; rfl
  have hev := h.hev
  clear h
  obtain ⟨A, c, cs, rfl, _⟩ := id hev.ex
  go_enter Try.func15, Try.ntmps15
  go_wp2_with (go_at_call 21
               (with_reducible refine (toldN_calls _ es F _ hev hs).mono ?_)
               rintro ex w1 ⟨v1, rfl, h1, hf1⟩)
  go_ret
  exact ⟨_, rfl, h1, hf1⟩

end Go.Proofs.Ythlanmibfnaoiaa
