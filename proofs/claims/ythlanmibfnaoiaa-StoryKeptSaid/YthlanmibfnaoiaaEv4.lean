/- An event gets slices of its own; events told are events copied. -/
import Derived.Test.YthlanmibfnaoiaaEv3
namespace Go.Proofs.Ythlanmibfnaoiaa
open Go.RowKit

/-- The three last cells of a row's event laid anew. -/
def set3 (xs : List Value) (i : Nat) (a b c : Value) : List Value := ((xs.set (i * 10 + 7) a).set (i * 10 + 8) b).set (i * 10 + 9) c
theorem set3_other {xs : List Value} {i m : Nat} {a b c : Value} (h : m / 10 ≠ i) : (set3 xs i a b c)[m]? = xs[m]? := by
  unfold set3
  rw [List.getElem?_set_ne (by omega), List.getElem?_set_ne (by omega), List.getElem?_set_ne (by omega)]
theorem set3_row {xs : List Value} {i : Nat} {e : Ev} {x y z a b c : Value} (h : RowAt xs i e x y z) (hl : i * 10 + 9 < xs.length) : RowAt (set3 xs i a b c) i e a b c := by
  intro j hj
  unfold set3
  have : j = 0 ∨ j = 1 ∨ j = 2 ∨ j = 3 ∨ j = 4 ∨ j = 5 ∨ j = 6 ∨ j = 7 ∨ j = 8 ∨ j = 9 := by omega
  rcases this with rfl | rfl | rfl | rfl | rfl | rfl | rfl | rfl | rfl | rfl
  · rw [List.getElem?_set_ne (by omega), List.getElem?_set_ne (by omega), List.getElem?_set_ne (by omega)]; exact h 0 (by omega)
  · rw [List.getElem?_set_ne (by omega), List.getElem?_set_ne (by omega), List.getElem?_set_ne (by omega)]; exact h 1 (by omega)
  · rw [List.getElem?_set_ne (by omega), List.getElem?_set_ne (by omega), List.getElem?_set_ne (by omega)]; exact h 2 (by omega)
  · rw [List.getElem?_set_ne (by omega), List.getElem?_set_ne (by omega), List.getElem?_set_ne (by omega)]; exact h 3 (by omega)
  · rw [List.getElem?_set_ne (by omega), List.getElem?_set_ne (by omega), List.getElem?_set_ne (by omega)]; exact h 4 (by omega)
  · rw [List.getElem?_set_ne (by omega), List.getElem?_set_ne (by omega), List.getElem?_set_ne (by omega)]; exact h 5 (by omega)
  · rw [List.getElem?_set_ne (by omega), List.getElem?_set_ne (by omega), List.getElem?_set_ne (by omega)]; exact h 6 (by omega)
  · rw [List.getElem?_set_ne (by omega), List.getElem?_set_ne (by omega), List.getElem?_set_self (by omega)]; rfl
  · rw [List.getElem?_set_ne (by omega), List.getElem?_set_self (by simp; omega)]; rfl
  · rw [List.getElem?_set_self (by simp; omega)]; rfl

set_option maxRecDepth 100000 in
theorem own_calls (B g n cap i : Nat) (xs : List Value) (e : Ev) (F : Nat → Prop) (w : World) (ho : w.ownsRow B 33 10 (.slice (some ⟨g, 0, none⟩) n cap) n xs) (hi : i < n) (he : EvRow w F xs i e) (hF : ¬ F g) (hs : e.small) :
    Calls Try.prog 32 #[.pointer (some ⟨g, i * 10, none⟩)] w fun ex w' => ex = .returned (.tuple #[]) ∧ ∃ a b c, w'.ownsRow B 33 10 (.slice (some ⟨g, 0, none⟩) n cap) n (set3 xs i a b c) ∧
      EvRow w' (fun k => w.heap.size ≤ k) (set3 xs i a b c) i e ∧ Fr (fun k => k = g) w w' := by
  obtain ⟨A1, n1, c1, A2, n2, c2, A3, n3, c3, hrow, hL⟩ := he
  have hlen : xs.length = n * 10 := ho.1
  have hg : g < w.heap.size := (ho.lt g rfl).2
  have q7 : w.cell? ⟨g, i * 10 + 7, none⟩ = some (.slice A1 n1 c1) := by rw [ho.cellAt _ (by omega)]; exact hrow 7 (by omega)
  have l1 := hL.r.len
  have l2 := hL.w_.len
  have l3 := hL.g.len
  obtain ⟨s1, s2, s3⟩ := hs
  have z7 := ho.frozenAt (i * 10 + 7)
  have hr := hL.r
  have HD := Lib.hid (And.intro ho (And.intro hrow hL))
  clear ho hrow hL
  go_enter Try.func32, Try.ntmps32
  go_wp2_with (first
    | (go_at_call 35
       (with_reducible refine (cloneAcc_calls _ _ _ _ _ _ hr (by omega)).mono ?_)
       rintro ex w1 ⟨a1, d1, rfl, fl1, hf1⟩
       clear hr
       have HA := Lib.hid fl1
       have HF1 := Lib.hid hf1
       have o1 := ownsRow_frame HD.out.1 hf1 (fun _ _ x => x)
       have y7 := o1.cellAt (i * 10 + 7) (by omega)
       rw [show xs[i * 10 + 7]? = _ from HD.out.2.1 7 (by omega)] at y7
       simp only [Ev.cells, List.getElem?_cons_zero, List.getElem?_cons_succ] at y7
       have z7 := o1.frozenAt (i * 10 + 7)
       obtain ⟨o2, g2⟩ := o1.stored (i * 10 + 7) (.slice a1 n1 d1)
       have k2 := hf1.setCell' (S := fun k => k = g) (p := ⟨g, i * 10 + 7, none⟩) rfl (.slice a1 n1 d1)
       have q8 := o2.cellAt (i * 10 + 8) (by omega)
       rw [List.getElem?_set_ne (by omega), show xs[i * 10 + 8]? = _ from HD.out.2.1 8 (by omega)] at q8
       simp only [Ev.cells, List.getElem?_cons_zero, List.getElem?_cons_succ] at q8
       have hw2 := HD.out.2.2.w_.frame k2 (fun k x y => absurd (y ▸ x) hF)
       have HO2 := Lib.hid o2
       have HK2 := Lib.hid k2
       clear o1 o2 g2 k2 fl1 hf1)
    | (go_at_call 35
       (with_reducible refine (cloneAcc_calls _ _ _ _ _ _ hw2 (by omega)).mono ?_)
       rintro ex w3 ⟨a2, d2, rfl, fl2, hf3⟩
       clear hw2
       have HB := Lib.hid fl2
       have HF3 := Lib.hid hf3
       have o3 := ownsRow_frame HO2.out hf3 (fun _ _ x => x)
       have y8 := o3.cellAt (i * 10 + 8) (by omega)
       rw [List.getElem?_set_ne (by omega), show xs[i * 10 + 8]? = _ from HD.out.2.1 8 (by omega)] at y8
       simp only [Ev.cells, List.getElem?_cons_zero, List.getElem?_cons_succ] at y8
       have z8 := o3.frozenAt (i * 10 + 8)
       obtain ⟨o4, g4⟩ := o3.stored (i * 10 + 8) (.slice a2 n2 d2)
       have k4 := (HK2.out.trans' (hf3.mono (T := fun k => k = g) (fun _ x => x.elim)) (fun _ x _ => x)).setCell' (S := fun k => k = g) (p := ⟨g, i * 10 + 8, none⟩) rfl (.slice a2 n2 d2)
       have q9 := o4.cellAt (i * 10 + 9) (by omega)
       rw [List.getElem?_set_ne (by omega), List.getElem?_set_ne (by omega), show xs[i * 10 + 9]? = _ from HD.out.2.1 9 (by omega)] at q9
       simp only [Ev.cells, List.getElem?_cons_zero, List.getElem?_cons_succ] at q9
       have hg4 := HD.out.2.2.g.frame k4 (fun k x y => absurd (y ▸ x) hF)
       have HO4 := Lib.hid o4
       have HK4 := Lib.hid k4
       clear o3 o4 g4 k4 fl2 hf3)
    | (go_at_call 36
       (with_reducible refine (cloneInts_calls _ _ _ _ _ _ hg4 (by omega)).mono ?_)
       rintro ex w5 ⟨a3, d3, rfl, fl3, hf5⟩
       clear hg4
       have HC := Lib.hid fl3
       have HF5 := Lib.hid hf5
       have o5 := ownsRow_frame HO4.out hf5 (fun _ _ x => x)
       have y9 := o5.cellAt (i * 10 + 9) (by omega)
       rw [List.getElem?_set_ne (by omega), List.getElem?_set_ne (by omega), show xs[i * 10 + 9]? = _ from HD.out.2.1 9 (by omega)] at y9
       simp only [Ev.cells, List.getElem?_cons_zero, List.getElem?_cons_succ] at y9
       have z9 := o5.frozenAt (i * 10 + 9)
       obtain ⟨o6, g6⟩ := o5.stored (i * 10 + 9) (.slice a3 n3 d3)
       have k6 := (HK4.out.trans' (hf5.mono (T := fun k => k = g) (fun _ x => x.elim)) (fun _ x _ => x)).setCell' (S := fun k => k = g) (p := ⟨g, i * 10 + 9, none⟩) rfl (.slice a3 n3 d3)
       have HO6 := Lib.hid o6
       have HK6 := Lib.hid k6
       clear o5 o6 g6 k6 fl3 hf5))
  refine bodyPost_end (v := .tuple #[]) (by simp [results, Try.results32, go_sem]) rfl ?_
  refine ⟨rfl, _, _, _, HO6.out, ⟨a1, n1, d1, a2, n2, d2, a3, n3, d3, set3_row HD.out.2.1 (by omega), ?_, ?_, ?_⟩, HK6.out⟩
  · have t1 := (HA.out.frame (Fr.refl (fun k => k = g) w1 |>.setCell (.inl rfl) _) (fun k x y => by subst y; omega) : Flat (w1.setCell ⟨g, i * 10 + 7, none⟩ (.slice a1 n1 d1)) _ _ _ _)
    have t2 := (t1.frame HF3.out (fun k _ y => y.elim)).frame ((Fr.refl (fun k => k = g) w3).setCell (p := ⟨g, i * 10 + 8, none⟩) (.inl rfl) (.slice a2 n2 d2)) (fun k x y => by subst y; omega)
    exact (t2.frame HF5.out (fun k _ y => y.elim)).frame ((Fr.refl (fun k => k = g) w5).setCell (p := ⟨g, i * 10 + 9, none⟩) (.inl rfl) (.slice a3 n3 d3)) (fun k x y => by subst y; omega)
  · have hsz : w.heap.size ≤ (w1.setCell ⟨g, i * 10 + 7, none⟩ (.slice a1 n1 d1)).heap.size := HK2.out.size
    have t2 := (HB.out.mono (G := fun k => w.heap.size ≤ k) (fun k _ x => Nat.le_trans hsz x)).frame ((Fr.refl (fun k => k = g) w3).setCell (p := ⟨g, i * 10 + 8, none⟩) (.inl rfl) (.slice a2 n2 d2)) (fun k x y => by subst y; omega)
    exact (t2.frame HF5.out (fun k _ y => y.elim)).frame ((Fr.refl (fun k => k = g) w5).setCell (p := ⟨g, i * 10 + 9, none⟩) (.inl rfl) (.slice a3 n3 d3)) (fun k x y => by subst y; omega)
  · have hsz : w.heap.size ≤ (w3.setCell ⟨g, i * 10 + 8, none⟩ (.slice a2 n2 d2)).heap.size := HK4.out.size
    exact (HC.out.mono (G := fun k => w.heap.size ≤ k) (fun k _ x => Nat.le_trans hsz x)).frame ((Fr.refl (fun k => k = g) w5).setCell (p := ⟨g, i * 10 + 9, none⟩) (.inl rfl) (.slice a3 n3 d3)) (fun k x y => by subst y; omega)

/-- Events few and small. -/
def Smalls (es : List Ev) : Prop := es.length ≤ 20000 ∧ ∀ e ∈ es, e.small
theorem Smalls.at_ {es : List Ev} (h : Smalls es) (i : Nat) (hi : i < es.length) : (es.getD i default).small := by
  rw [List.getD_eq_getElem?_getD, List.getElem?_eq_getElem hi]; exact h.2 _ (List.getElem_mem hi)
theorem RowAt.of_eq {xs ys : List Value} {i : Nat} {e : Ev} {a b c : Value} (h : RowAt xs i e a b c) (hk : ∀ m, m / 10 = i → ys[m]? = xs[m]?) : RowAt ys i e a b c := fun j hj => by rw [hk _ (by omega)]; exact h j hj
theorem EvRow.of_eq {w : World} {F : Nat → Prop} {xs ys : List Value} {i : Nat} {e : Ev} (h : EvRow w F xs i e) (hk : ∀ m, m / 10 = i → ys[m]? = xs[m]?) : EvRow w F ys i e :=
  let ⟨A1, n1, c1, A2, n2, c2, A3, n3, c3, h1, h2⟩ := h; ⟨A1, n1, c1, A2, n2, c2, A3, n3, c3, h1.of_eq hk, h2⟩

theorem ownsRow_shape {w : World} {B : Nat} {T : TypeId} {k n : Nat} {v : Value} {xs : List Value} (h : w.ownsRow B T k v n xs) :
    ∃ A cap, v = .slice A n cap ∧ n ≤ cap ∧ (A = none → cap = 0) ∧ (∀ a, A = some a → ∃ g, a = ⟨g, 0, none⟩ ∧ B ≤ g ∧ g < w.heap.size) := by
  rcases h.2 with ⟨rfl, h0⟩ | ⟨g, cap, cur, rfl, hb, hg, hn, rest⟩
  · exact ⟨none, 0, by rw [h0], by omega, fun _ => rfl, fun a h => by cases h⟩
  · exact ⟨_, cap, rfl, hn, (fun h => by cases h), fun a h => by cases h; exact ⟨g, rfl, hb, blk_lt hg⟩⟩

set_option maxRecDepth 100000 in
theorem told_calls (v : Value) (es : List Ev) (F : Nat → Prop) (w : World) (hx : EvsAt w F v es) (hs : Smalls es) :
    Calls Try.prog 21 #[v] w fun e w' => ∃ v', e = .returned v' ∧ EvsOwn 33 w.heap.size w' (fun k => w.heap.size ≤ k) v' es ∧ Fr (fun _ => False) w w' := by
  replace hx := hx.mono (G := fun k => k < w.heap.size) (fun k h _ => h)
  obtain ⟨A0, c0, cs0, rfl, _⟩ := id hx.ex
  have hlen := hs.1
  go_enter Try.func21, Try.ntmps21
  go_wp2_with (go_at_call 25
               (with_reducible refine (cloneEv_calls _ es _ _ hx hlen).mono ?_)
               rintro ex w1 ⟨v1, rfl, ⟨xs, ho, hrows⟩, hf1⟩
               have HR := Lib.hid (And.intro ho (And.intro hrows hf1))
               have HS := Lib.hid hs
               obtain ⟨A, cap, rfl, hcap, hnone, hg⟩ := ownsRow_shape ho
               clear hrows hx hs ho)
  have hfs := HR.out.2.2.size
  generalize hln : es.length = n at *
  have HN := Lib.hid hln
  clear hln
  go_loopw [4, 9] (fun _ v9 wr => ∃ i : Nat, i ≤ n ∧ v9 = .int .i64 i ∧ (∃ ys, wr.ownsRow w.heap.size 33 10 (.slice A n cap) n ys ∧ (∀ t, t < i → EvRow wr (fun k => w.heap.size ≤ k ∧ ∀ a, A = some a → a.block ≠ k) ys t (es.getD t default)) ∧ (∀ t, i ≤ t → t < n → EvRow wr (fun k => k < w.heap.size) ys t (es.getD t default))) ∧ Fr (fun k => ∃ a, A = some a ∧ a.block = k) w1 wr) (fun _ v9 _ => n - (intOf v9).toNat)
  case atStart => exact ⟨0, Nat.zero_le _, rfl, ⟨xs, HR.out.1, fun t ht => absurd ht (Nat.not_lt_zero _), fun t _ ht => HR.out.2.1 t ht⟩, Fr.refl _ _⟩
  case round =>
    obtain ⟨i, hi, rfl, ⟨ys, ho, hd, ht⟩, hf⟩ := hrel
    by_cases hlt : i < n
    · cases A with
      | none => exact absurd (hnone rfl) (by omega)
      | some ad =>
        obtain ⟨g, rfl, hb, hgw⟩ := hg _ rfl
        have HD := Lib.hid hd
        have HT := Lib.hid ht
        have hsm := HS.out.at_ i (by rw [HN.out]; exact hlt)
        have hev := ht i (Nat.le_refl _) hlt
        have hwr := hf.size
        clear hd ht hg hnone
        go_wp2_with (go_at_call 32
                     (with_reducible refine (own_calls _ g n cap i ys _ _ _ ho hlt hev (by omega) hsm).mono ?_)
                     rintro ex w2 ⟨rfl, a, b, c, ho2, hr2, hf2⟩)
        go_roundw
        case rel =>
          refine ⟨i + 1, by omega, by go_num, ⟨_, ho2, fun t ht' => ?_, fun t h1 h2 => ?_⟩, hf.trans' hf2 (fun k x _ => ⟨_, rfl, x.symm⟩)⟩
          · by_cases hti : t < i
            · exact ((HD.out t hti).frame hf2 (fun k x y => absurd y.symm (x.2 _ rfl))).of_eq (fun m hm => set3_other (by omega))
            · obtain rfl : t = i := by omega
              exact hr2.mono (fun k _ x => ⟨by omega, fun a ha => by cases ha; show g ≠ k; omega⟩)
          · exact ((HT.out t (by omega) h2).frame hf2 (fun k x y => by omega)).of_eq (fun m hm => set3_other (by omega))
        case measure => simp [intOf]; omega
    · obtain rfl : i = n := by omega
      have HO := Lib.hid (And.intro ho (And.intro hd hf))
      clear ho hd ht hf
      go_wp2
      go_ret
      have hf' := HO.out.2.2
      exact ⟨_, rfl, ⟨ys, by rw [HN.out]; exact HO.out.1, fun t ht => (HO.out.2.1 t (by rw [HN.out] at ht; exact ht)).mono (fun k _ x => x.1)⟩, HR.out.2.2.trans' hf' (fun k x y => by
        obtain ⟨a, ha, rfl⟩ := x
        obtain ⟨g, rfl, hb, _⟩ := hg a ha
        exact absurd (show g < w.heap.size from y) (by omega))⟩
end Go.Proofs.Ythlanmibfnaoiaa
