/- slices.Concat of two slices of events; a story: New, Add, All, Len. -/
import Derived.Test.YthlanmibfnaoiaaEv7
namespace Go.Proofs.Ythlanmibfnaoiaa
open Go.RowKit

theorem getD_append_right {xs ys : List Ev} {t : Nat} (h : xs.length ≤ t) : (xs ++ ys).getD t default = ys.getD (t - xs.length) default := by
  rw [List.getD_eq_getElem?_getD, List.getElem?_append_right h, List.getD_eq_getElem?_getD]
theorem EvRow.shift {w : World} {F : Nat → Prop} {xs ys : List Value} {i t n : Nat} {e : Ev} (h : EvRow w F ys i e) (hl : xs.length = n * 10) (ht : t = n + i) : EvRow w F (xs ++ ys) t e := by
  subst ht
  obtain ⟨A1, n1, c1, A2, n2, c2, A3, n3, c3, h1, h2⟩ := h
  refine ⟨A1, n1, c1, A2, n2, c2, A3, n3, c3, fun j hj => ?_, h2⟩
  rw [List.getElem?_append_right (by omega), show (n + i) * 10 + j - xs.length = i * 10 + j by omega]
  exact h1 j hj
theorem EvRow.ahead {w : World} {F : Nat → Prop} {xs ys : List Value} {i n : Nat} {e : Ev} (h : EvRow w F xs i e) (hl : xs.length = n * 10) (hi : i < n) : EvRow w F (xs ++ ys) i e := by
  obtain ⟨A1, n1, c1, A2, n2, c2, A3, n3, c3, h1, h2⟩ := h
  refine ⟨A1, n1, c1, A2, n2, c2, A3, n3, c3, fun j hj => ?_, h2⟩
  rw [List.getElem?_append_left (by omega)]
  exact h1 j hj

theorem Fr.fresh' {w w' : World} (h : Fr (fun k => w.heap.size ≤ k) w w') : Fr (fun _ => False) w w' :=
  ⟨h.os, h.tape, h.output, h.size, fun k hk _ => h.block k hk (by omega)⟩

set_option maxRecDepth 100000 in
theorem concat_calls (sb : Nat) (v1 v2 : Value) (es1 es2 : List Ev) (F : Nat → Prop) (w : World) (hsb : w.heap[sb]? = some (.cells #[v1, v2] 22 (0, 0))) (h1 : EvsAt w F v1 es1) (h2 : EvsAt w F v2 es2) (hs1 : es1.length ≤ 20000) (hs2 : es2.length ≤ 20000) :
    Calls Try.prog 20 #[.slice (some ⟨sb, 0, none⟩) 2 2] w fun ex w' => ∃ v, ex = .returned v ∧ EvsOwn 33 w.heap.size w' F v (es1 ++ es2) ∧ Fr (fun _ => False) w w' := by
  obtain ⟨A1, c1, cs1, rfl, ha2, ha3, ha4, ha5, ha6⟩ := h1.ex
  obtain ⟨A2, c2, cs2, rfl, hb2, hb3, hb4, hb5, hb6⟩ := h2.ex
  have H1 := Lib.hid (And.intro (one_of_rows ha4 ha6) (one_of_rows hb4 hb6))
  have H6 := Lib.hid (And.intro ha6 hb6)
  have H5 := Lib.hid (And.intro ha5 hb5)
  have H3 := Lib.hid (And.intro ha3 hb3)
  have H4 := Lib.hid (And.intro ha4 hb4)
  have HSB := Lib.hid hsb
  have hsbl := blk_lt hsb
  clear h1 h2 ha5 ha6 hb5 hb6 ha3 hb3 ha4 hb4 hsb
  generalize hl1 : es1.length = n1 at *
  generalize hl2 : es2.length = n2 at *
  have HN := Lib.hid (And.intro hl1 hl2)
  clear hl1 hl2
  obtain ⟨s, hs⟩ : ∃ s, s = n1 + n2 := ⟨_, rfl⟩
  have HS := Lib.hid hs
  have hsle : s ≤ 40000 := by omega
  clear hs
  go_enter Try.func20, Try.ntmps20
  go_wp2
  go_loopw [3, 5, 11] (fun v3 _ v11 wr => Fr (fun _ => False) w wr ∧ ((v11 = .int .i64 0 ∧ v3 = .int .i64 0) ∨ (v11 = .int .i64 1 ∧ v3 = .int .i64 n1) ∨ (v11 = .int .i64 2 ∧ v3 = .int .i64 s))) (fun _ _ v11 _ => 2 - (intOf v11).toNat)
  case atStart => exact ⟨Fr.refl _ _, .inl ⟨rfl, rfl⟩⟩
  case round =>
    obtain ⟨hf, hcase⟩ := hrel
    have k0 : wr.cell? ⟨sb, 0, none⟩ = some (.slice A1 n1 c1) := by rw [blk_cell (hf.heap HSB.out (fun x => x))]; rfl
    have k1 : wr.cell? ⟨sb, 1, none⟩ = some (.slice A2 n2 c2) := by rw [blk_cell (hf.heap HSB.out (fun x => x))]; rfl
    have hwr := hf.size
    rcases hcase with ⟨rfl, rfl⟩ | ⟨rfl, rfl⟩ | ⟨rfl, rfl⟩
    · go_wp2
      go_roundw
      case rel => exact ⟨hf, .inr (.inl ⟨rfl, by go_num⟩)⟩
      case measure => simp [intOf]
    · go_wp2
      go_roundw
      case rel => exact ⟨hf, .inr (.inr ⟨rfl, by rw [HS.out]; go_num⟩)⟩
      case measure => simp [intOf]
    · have HF := Lib.hid hf
      clear hf
      go_wp2_with (go_at_call 31
                   go_loud (with_reducible refine (grow_calls s _ (by omega)).mono ?_)
                   rintro ex w2 ⟨v2, rfl, ho2, hf2⟩)
      have HO2 := Lib.hid (And.intro ho2 (HF.out.trans hf2))
      have hw2 := hf2.size
      clear ho2 hf2
      go_loopw [6, 8, 27] (fun v6 _ v27 wq => ∃ k : Nat, v27 = .int .i64 k ∧ Fr (fun k => w.heap.size ≤ k) w wq ∧ ((k = 0 ∧ wq.ownsRow w.heap.size 33 10 v6 0 []) ∨ (k = 1 ∧ wq.ownsRow w.heap.size 33 10 v6 n1 cs1) ∨ (k = 2 ∧ wq.ownsRow w.heap.size 33 10 v6 (n1 + n2) (cs1 ++ cs2)))) (fun _ _ v27 _ => 2 - (intOf v27).toNat)
      case atStart => exact ⟨0, rfl, HO2.out.2.mono (fun _ x => x.elim), .inl ⟨rfl, ownsRow_base HO2.out.1 hwr⟩⟩
      case round =>
        obtain ⟨k, rfl, hf, hcase⟩ := hrel
        have hwq := hf.size
        have j0 : wr.cell? ⟨sb, 0, none⟩ = some (.slice A1 n1 c1) := by rw [blk_cell (hf.heap HSB.out (by omega))]; rfl
        have j1 : wr.cell? ⟨sb, 1, none⟩ = some (.slice A2 n2 c2) := by rw [blk_cell (hf.heap HSB.out (by omega))]; rfl
        rcases hcase with ⟨rfl, ho⟩ | ⟨rfl, ho⟩ | ⟨rfl, ho⟩
        · have HX := Lib.hid (And.intro ho hf)
          clear hf
          go_wp2_with (at_builtin; refine append_evs _ rfl _ _ rfl w.heap.size _ 0 [] rfl ho A1 n1 c1 cs1 rfl H4.out.1 H3.out.1 (by omega) (fun h => let ⟨ad, e, _, hc⟩ := H5.out.1 h; ⟨ad, e, fun j u hj => HX.out.2.cell (hc j u hj) (fun x => by have := World.block_lt_of_cell? w _ (hc j u hj); omega)⟩) H1.out.1 (by omega) (by omega) ?_)
          intro v' w3 ho3 hf3
          have hb := HX.out.1.lt
          clear ho
          go_wp2
          go_roundw
          case rel => exact ⟨1, rfl, HX.out.2.trans' hf3 (fun i x _ => (hb i x).1), .inr (.inl ⟨rfl, by simpa using ho3⟩)⟩
          case measure => simp [intOf]
        · have HX := Lib.hid (And.intro ho hf)
          clear hf
          go_wp2_with (at_builtin; refine append_evs _ rfl _ _ rfl w.heap.size _ n1 cs1 rfl ho A2 n2 c2 cs2 rfl H4.out.2 H3.out.2 (by omega) (fun h => let ⟨ad, e, _, hc⟩ := H5.out.2 h; ⟨ad, e, fun j u hj => HX.out.2.cell (hc j u hj) (fun x => by have := World.block_lt_of_cell? w _ (hc j u hj); omega)⟩) H1.out.2 (by omega) (by omega) ?_)
          intro v' w3 ho3 hf3
          have hb := HX.out.1.lt
          clear ho
          go_wp2
          go_roundw
          case rel => exact ⟨2, rfl, HX.out.2.trans' hf3 (fun i x _ => (hb i x).1), .inr (.inr ⟨rfl, ho3⟩)⟩
          case measure => simp [intOf]
        · have HX := Lib.hid (And.intro ho hf)
          clear ho hf
          go_wp2
          go_ret
          have hff := HX.out.2.fresh'
          refine ⟨_, rfl, ⟨cs1 ++ cs2, by rw [List.length_append, HN.out.1, HN.out.2]; exact HX.out.1, fun i hi => ?_⟩, hff⟩
          rw [List.length_append, HN.out.1, HN.out.2] at hi
          by_cases h : i < n1
          · rw [getD_append_left (by rw [HN.out.1]; exact h)]
            exact ((H6.out.1 i h).frame hff (fun _ _ x => x.elim)).ahead (by rw [H4.out.1]) h
          · rw [getD_append_right (by rw [HN.out.1]; omega), HN.out.1]
            exact ((H6.out.2 (i - n1) (by omega)).frame hff (fun _ _ x => x.elim)).shift (by rw [H4.out.1]) (by omega)
end Go.Proofs.Ythlanmibfnaoiaa
