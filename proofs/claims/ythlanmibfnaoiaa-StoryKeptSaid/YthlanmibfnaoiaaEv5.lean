/- Which events are kept: the closure of Of, and where the first other one stands. -/
import Derived.Test.YthlanmibfnaoiaaEv4
namespace Go.Proofs.Ythlanmibfnaoiaa
open Go.RowKit

/-- Of this kind, and of these threads (of all, if there is none). -/
def Ev.keeps (kind : Int) (ls : List Int) (e : Ev) : Bool := e.k == kind && (ls.isEmpty || decide (e.th ∈ ls))

/-- What the closure has caught: a kind and some threads. -/
structure Caught (w : World) (F : Nat → Prop) (kb lb : Nat) (kind : Int) (A : Option Addr) (n c : Nat) (ls : List Int) : Prop where
  hk : w.heap[kb]? = some (.cells #[.int .i64 kind] 3 (0, 0))
  hl : w.heap[lb]? = some (.cells #[.slice A n c] 31 (0, 0))
  hf : Flat w F A n ls
  hn : n ≤ 20000
theorem Caught.frame {w w' : World} {F S : Nat → Prop} {kb lb : Nat} {kind : Int} {A : Option Addr} {n c : Nat} {ls : List Int} (h : Caught w F kb lb kind A n c ls) (hf : Fr S w w') (h1 : ¬ S kb) (h2 : ¬ S lb) (hs : ∀ k, F k → S k → w.heap.size ≤ k) :
    Caught w' F kb lb kind A n c ls := ⟨hf.heap h.hk h1, hf.heap h.hl h2, h.hf.frame hf hs, h.hn⟩

set_option maxRecDepth 100000 in
theorem other_calls (e : Ev) (a b d : Value) (kb lb : Nat) (kind : Int) (A : Option Addr) (n c : Nat) (ls : List Int) (F : Nat → Prop) (w : World) (hc : Caught w F kb lb kind A n c ls) :
    Calls Try.prog 22 #[e.val a b d, .pointer (some ⟨kb, 0, none⟩), .pointer (some ⟨lb, 0, none⟩)] w fun ex w' => ex = .returned (.bool (!e.keeps kind ls)) ∧ Fr (fun _ => False) w w' := by
  obtain ⟨r, hr⟩ : ∃ r, r = !e.keeps kind ls := ⟨_, rfl⟩
  rw [← hr]
  unfold Ev.keeps at hr
  obtain ⟨k, th, pr, tr, ti, st, ca, rs, ws, gs⟩ := e
  unfold Ev.val
  dsimp only at hr ⊢
  have hb1 := blk_lt hc.hk
  have hb2 := blk_lt hc.hl
  have c1 : (w.alloc (.cells #[.int .i64 k, .int .i64 th, .int .i64 pr, .int .i64 tr, .int .i64 ti, .int .i64 st, .int .i64 ca, a, b, d] 33)).cell? ⟨kb, 0, none⟩ = some (.int .i64 kind) := by rw [blk_cell (blk_alloc hc.hk _)]; rfl
  have c2 : (w.alloc (.cells #[.int .i64 k, .int .i64 th, .int .i64 pr, .int .i64 tr, .int .i64 ti, .int .i64 st, .int .i64 ca, a, b, d] 33)).cell? ⟨lb, 0, none⟩ = some (.slice A n c) := by rw [blk_cell (blk_alloc hc.hl _)]; rfl
  have hfl := hc.hf.frame ((Fr.refl (fun _ => False) w).alloc (.cells #[.int .i64 k, .int .i64 th, .int .i64 pr, .int .i64 tr, .int .i64 ti, .int .i64 st, .int .i64 ca, a, b, d] 33)) (fun _ _ x => x.elim)
  have hn := hc.hn
  have hl := hc.hf.len
  have hf0 := (Fr.refl (fun _ => False) w).alloc (.cells #[.int .i64 k, .int .i64 th, .int .i64 pr, .int .i64 tr, .int .i64 ti, .int .i64 st, .int .i64 ca, a, b, d] 33)
  clear hc
  by_cases hk : k = kind
  · subst hk
    by_cases h0 : n = 0
    · have HR := Lib.hid (show r = false by
        rw [hr, show ls = [] from List.length_eq_zero_iff.1 (by omega)]; simp)
      subst h0
      clear hr
      go_enter Try.func22, Try.ntmps22
      go_wp2
      go_ret
      exact ⟨by rw [HR.out]; rfl, by assumption⟩
    · have HR := Lib.hid (show r = !decide (th ∈ ls) by
        have hne : ls.isEmpty = false := by
          cases ls with
          | nil => simp at hl; omega
          | cons x l => rfl
        rw [hr, hne]; simp)
      have hpos : (0 : Int) < n := by omega
      clear hr
      go_enter Try.func22, Try.ntmps22
      go_wp2_with (go_at_call 23
                   (with_reducible refine (contains_calls _ _ _ ls th _ _ hfl hn).mono ?_)
                   rintro ex w1 ⟨rfl, hf1⟩)
      all_goals go_ret
      all_goals exact ⟨by rw [HR.out]; simp_all, hf0.trans hf1⟩
  · have HR := Lib.hid (show r = true by rw [hr, show (k == kind) = false by simpa using hk]; rfl)
    have hne : (k != kind) = true := by simpa using hk
    clear hr hk
    go_enter Try.func22, Try.ntmps22
    go_wp2
    go_ret
    exact ⟨by rw [HR.out]; rfl, by assumption⟩

/-- The ten cells of an event in a slice. -/
theorem row_cells {w : World} {ad : Addr} {cs : List Value} {i : Nat} {e : Ev} {a b c : Value} (h : ∀ j u, cs[j]? = some u → w.cell? (ad.add j) = some u) (hr : RowAt cs i e a b c) :
    w.cell? (ad.add (i * 10)) = some (.int .i64 e.k) ∧ w.cell? ⟨(ad.add (i * 10)).block, (ad.add (i * 10)).off + 1, none⟩ = some (.int .i64 e.th) ∧ w.cell? ⟨(ad.add (i * 10)).block, (ad.add (i * 10)).off + 2, none⟩ = some (.int .i64 e.pr) ∧
    w.cell? ⟨(ad.add (i * 10)).block, (ad.add (i * 10)).off + 3, none⟩ = some (.int .i64 e.tr) ∧ w.cell? ⟨(ad.add (i * 10)).block, (ad.add (i * 10)).off + 4, none⟩ = some (.int .i64 e.ti) ∧ w.cell? ⟨(ad.add (i * 10)).block, (ad.add (i * 10)).off + 5, none⟩ = some (.int .i64 e.st) ∧
    w.cell? ⟨(ad.add (i * 10)).block, (ad.add (i * 10)).off + 6, none⟩ = some (.int .i64 e.ca) ∧ w.cell? ⟨(ad.add (i * 10)).block, (ad.add (i * 10)).off + 7, none⟩ = some a ∧ w.cell? ⟨(ad.add (i * 10)).block, (ad.add (i * 10)).off + 8, none⟩ = some b ∧
    w.cell? ⟨(ad.add (i * 10)).block, (ad.add (i * 10)).off + 9, none⟩ = some c := by
  refine ⟨?_, ?_, ?_, ?_, ?_, ?_, ?_, ?_, ?_, ?_⟩
  · exact h _ _ (by rw [show i * 10 = i * 10 + 0 from rfl]; exact hr 0 (by omega))
  all_goals rw [← add_past _ _ _ (by omega)]
  · exact h _ _ (hr 1 (by omega))
  · exact h _ _ (hr 2 (by omega))
  · exact h _ _ (hr 3 (by omega))
  · exact h _ _ (hr 4 (by omega))
  · exact h _ _ (hr 5 (by omega))
  · exact h _ _ (hr 6 (by omega))
  · exact h _ _ (hr 7 (by omega))
  · exact h _ _ (hr 8 (by omega))
  · exact h _ _ (hr 9 (by omega))

set_option maxRecDepth 100000 in
theorem firstOther_calls (v : Value) (es : List Ev) (G : Nat → Prop) (kb lb : Nat) (kind : Int) (A : Option Addr) (n c : Nat) (ls : List Int) (F : Nat → Prop) (w : World) (hx : EvsAt w G v es) (hs : es.length ≤ 20000) (hc : Caught w F kb lb kind A n c ls) :
    Calls Try.prog 34 #[v, .func (.func 22) #[] #[.pointer (some ⟨kb, 0, none⟩), .pointer (some ⟨lb, 0, none⟩)]] w fun ex w' =>
      ∃ p : Int, ex = .returned (.int .i64 p) ∧ ((p = -1 ∧ ∀ j, j < es.length → (es.getD j default).keeps kind ls = true) ∨ ∃ j : Nat, p = j ∧ j < es.length ∧ (es.getD j default).keeps kind ls = false ∧ ∀ i, i < j → (es.getD i default).keeps kind ls = true) ∧ Fr (fun _ => False) w w' := by
  obtain ⟨A0, c0, cs, rfl, h2, h3, h4, h5, h6⟩ := hx.ex
  have HC := Lib.hid hc
  have H6 := Lib.hid h6
  have H5 := Lib.hid h5
  clear hx h5 h6 hc
  generalize hln : es.length = m at *
  clear hln
  go_enter Try.func34, Try.ntmps34
  go_wp2
  go_loopw [5, 8] (fun _ v8 wr => ∃ j : Nat, j ≤ m ∧ v8 = .int .i64 j ∧ (∀ i, i < j → (es.getD i default).keeps kind ls = true) ∧ Fr (fun _ => False) w wr) (fun _ v8 _ => m - (intOf v8).toNat)
  case atStart => exact ⟨0, Nat.zero_le _, rfl, fun i hi => absurd hi (Nat.not_lt_zero _), Fr.refl _ _⟩
  case round =>
    obtain ⟨j, hj, rfl, hb, hf⟩ := hrel
    have HB := Lib.hid hb
    clear hb
    by_cases hlt : j < m
    · obtain ⟨ad, rfl, _, hcs⟩ := H5.out (by omega)
      obtain ⟨A1, n1, c1, A2, n2, c2, A3, n3, c3, hrow, hL⟩ := H6.out j hlt
      obtain ⟨q0, q1, q2, q3, q4, q5, q6, q7, q8, q9⟩ := row_cells (fun t u ht => hf.cell (hcs t u ht) (fun x => x)) hrow
      have HW := Lib.hid (HC.out.frame hf (fun x => x) (fun x => x) (fun _ _ x => x.elim))
      clear hcs hrow hL
      generalize hev : es.getD j default = e at *
      have HE := Lib.hid hev
      clear hev
      cases hq : e.keeps kind ls with
      | true =>
        have HQ := Lib.hid hq
        have hcl := other_calls e (.slice A1 n1 c1) (.slice A2 n2 c2) (.slice A3 n3 c3) kb lb kind A n c ls F _ HW.out
        rw [hq] at hcl
        unfold Ev.val at hcl
        have HCL := Lib.hid hcl
        clear hq hcl
        go_wp2_with (go_at_call 22
                     (with_reducible refine HCL.out.mono ?_)
                     rintro ex w1 ⟨rfl, hf1⟩)
        go_roundw
        case rel => exact ⟨j + 1, by omega, by go_num, fun i hi => by
          by_cases hij : i < j
          · exact HB.out i hij
          · obtain rfl : i = j := by omega
            rw [HE.out]; exact HQ.out, hf.trans hf1⟩
        case measure => simp [intOf]; omega
      | false =>
        have HQ := Lib.hid hq
        have hcl := other_calls e (.slice A1 n1 c1) (.slice A2 n2 c2) (.slice A3 n3 c3) kb lb kind A n c ls F _ HW.out
        rw [hq] at hcl
        unfold Ev.val at hcl
        have HCL := Lib.hid hcl
        clear hq hcl
        go_wp2_with (go_at_call 22
                     (with_reducible refine HCL.out.mono ?_)
                     rintro ex w1 ⟨rfl, hf1⟩)
        go_ret
        exact ⟨j, rfl, .inr ⟨j, rfl, hlt, by rw [HE.out]; exact HQ.out, HB.out⟩, hf.trans hf1⟩
    · obtain rfl : j = m := by omega
      go_wp2
      go_ret
      exact ⟨-1, rfl, .inl ⟨rfl, HB.out⟩, hf⟩
end Go.Proofs.Ythlanmibfnaoiaa
