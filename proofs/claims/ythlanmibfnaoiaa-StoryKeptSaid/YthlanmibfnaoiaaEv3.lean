/- slices.Clone at numbers, at accesses and at events. -/
import Derived.Test.YthlanmibfnaoiaaEv2
import Derived.Lib.SliceRun
import Derived.Lib.Walk
namespace Go.Proofs.Ythlanmibfnaoiaa
open Go.RowKit

theorem infoInt : (Try.prog.info? 3).map (fun i => (i.zero, i.size, i.bytes)) = some (some (.int .i64 0), 1, 8) := by kernel_rfl
theorem infoAcc : (Try.prog.info? 40).map (fun i => (i.zero, i.size, i.bytes)) = some (some (.agg #[.int .i64 0, .int .i64 0]), 2, 16) := by kernel_rfl
theorem infoEv : (Try.prog.info? 33).map (fun i => (i.zero, i.size, i.bytes)) = some (some (.agg #[.int .i64 0, .int .i64 0, .int .i64 0, .int .i64 0, .int .i64 0, .int .i64 0, .int .i64 0, .slice none 0 0, .slice none 0 0, .slice none 0 0]), 10, 128) := by kernel_rfl

theorem one_ints (xs : List Int) : ∀ u ∈ xs.map (Value.int .i64), u.oneCell' = true := by
  intro u hu
  obtain ⟨y, _, rfl⟩ := List.mem_map.1 hu
  rfl
theorem cells_ints {w : World} {ad : Addr} {m : Nat} {xs : List Int} (hl : xs.length = m) (h : ∀ i, i < m → w.cell? (ad.add i) = some (.int .i64 (xs.getD i 0))) : ∀ j u, (xs.map (Value.int .i64))[j]? = some u → w.cell? (ad.add j) = some u := by
  intro j u hj
  rw [List.getElem?_map] at hj
  cases hz : xs[j]? with
  | none => rw [hz] at hj; cases hj
  | some y =>
    rw [hz] at hj; cases hj
    rw [h j (by rw [← hl]; exact (List.getElem?_eq_some_iff.1 hz).1), List.getD_eq_getElem?_getD, hz]; rfl

set_option maxRecDepth 100000 in
theorem cloneInts_calls (A : Option Addr) (n c : Nat) (xs : List Int) (F : Nat → Prop) (w : World) (hx : Flat w F A n xs) (hn : n ≤ 20000) :
    Calls Try.prog 36 #[.slice A n c] w fun e w' => ∃ A' c', e = .returned (.slice A' n c') ∧ Flat w' (fun k => w.heap.size ≤ k) A' n xs ∧ Fr (fun _ => False) w w' := by
  cases A with
  | none =>
    have h0 : n = 0 := by
      by_cases h : n = 0
      · exact h
      · obtain ⟨_, h1, _⟩ := hx.at_ (by omega); cases h1
    subst h0
    obtain rfl : xs = [] := List.length_eq_zero_iff.1 hx.len
    have q22 := fun (w : World) (a : Option Addr) (n c n' c' : Nat) => Lib.run_eql_slice_nil w 31 _ a n c n' c' Try.underlying31
    go_enter Try.func36, Try.ntmps36
    go_wp2
    go_ret
    exact ⟨none, 0, rfl, Flat.nil _ _ _, Fr.refl _ _⟩
  | some ad =>
    have hc := Lib.hid (show ∀ j u, (xs.map (Value.int .i64))[j]? = some u → w.cell? (ad.add j) = some u by
      by_cases h0 : n = 0
      · subst h0
        obtain rfl : xs = [] := List.length_eq_zero_iff.1 hx.len
        intro j u hj; cases hj
      · obtain ⟨ad', h1, _, h2⟩ := hx.at_ (by omega)
        cases h1
        exact cells_ints hx.len h2)
    obtain ⟨i0, hi, hz0, hz1, hz2⟩ := info_parts infoInt
    have hl := Lib.hid hx.len
    clear hx
    have q22 := fun (w : World) (a : Option Addr) (n c n' c' : Nat) => Lib.run_eql_slice_nil w 31 _ a n c n' c' Try.underlying31
    go_enter Try.func36, Try.ntmps36
    go_wp2_with (at_builtin; refine wpList_append_own _ rfl _ _ 31 rfl w.heap.size 3 i0 (.int .i64 0) 1 8 Try.underlying31 hi hz0 hz1 hz2 rfl (by decide) _ _ _ rfl (World.ownsRow_made w #[] 0 (Nat.le_refl _) (Nat.zero_le _) (by simp)) ad n c (xs.map (Value.int .i64)) rfl ?qc1 ?qc2 ?qc3 ?qc4 ?qc5 ?qc6 ?_)
    case qc1 => rw [List.length_map, hl.out, Nat.mul_one]
    case qc2 => exact fun j u hj => ((Fr.refl (fun _ => False) w).alloc _).cell (hc.out j u hj) (fun x => x)
    case qc3 => exact one_ints xs
    case qc4 => unfold maxLen; omega
    case qc5 => omega
    case qc6 => simp
    intro v' w1 hown hgrow hnil
    go_wp2
    go_ret
    obtain ⟨A', c', rfl, hF⟩ := Flat.ofOwn (by simpa using hown)
    rw [Nat.mul_one] at hF
    exact ⟨A', c', rfl, hF, ((Fr.refl _ w).alloc _).grown hgrow (fun k hk => .inr (by simp [Value.ownBlock] at hk; omega))⟩
set_option maxRecDepth 100000 in
theorem cloneAcc_calls (A : Option Addr) (n c : Nat) (xs : List Int) (F : Nat → Prop) (w : World) (hx : Flat w F A (n * 2) xs) (hn : n ≤ 20000) :
    Calls Try.prog 35 #[.slice A n c] w fun e w' => ∃ A' c', e = .returned (.slice A' n c') ∧ Flat w' (fun k => w.heap.size ≤ k) A' (n * 2) xs ∧ Fr (fun _ => False) w w' := by
  cases A with
  | none =>
    have h0 : n = 0 := by
      by_cases h : n = 0
      · exact h
      · obtain ⟨_, h1, _⟩ := hx.at_ (by omega); cases h1
    subst h0
    obtain rfl : xs = [] := List.length_eq_zero_iff.1 (by rw [hx.len])
    have q22 := fun (w : World) (a : Option Addr) (n c n' c' : Nat) => Lib.run_eql_slice_nil w 30 _ a n c n' c' Try.underlying30
    go_enter Try.func35, Try.ntmps35
    go_wp2
    go_ret
    exact ⟨none, 0, rfl, Flat.nil _ _ _, Fr.refl _ _⟩
  | some ad =>
    have hc := Lib.hid (show ∀ j u, (xs.map (Value.int .i64))[j]? = some u → w.cell? (ad.add j) = some u by
      by_cases h0 : n = 0
      · subst h0
        obtain rfl : xs = [] := List.length_eq_zero_iff.1 (by rw [hx.len])
        intro j u hj; cases hj
      · obtain ⟨ad', h1, _, h2⟩ := hx.at_ (by omega)
        cases h1
        exact cells_ints hx.len h2)
    obtain ⟨i0, hi, hz0, hz1, hz2⟩ := info_parts infoAcc
    have hl := Lib.hid hx.len
    clear hx
    have q22 := fun (w : World) (a : Option Addr) (n c n' c' : Nat) => Lib.run_eql_slice_nil w 30 _ a n c n' c' Try.underlying30
    go_enter Try.func35, Try.ntmps35
    go_wp2_with (at_builtin; refine wpList_append_own _ rfl _ _ 30 rfl w.heap.size 40 i0 (.agg #[.int .i64 0, .int .i64 0]) 2 16 Try.underlying30 hi hz0 hz1 hz2 rfl (by decide) _ _ _ rfl (World.ownsRow_made w #[] 0 (Nat.le_refl _) (Nat.zero_le _) (by simp)) ad n c (xs.map (Value.int .i64)) rfl ?qc1 ?qc2 ?qc3 ?qc4 ?qc5 ?qc6 ?_)
    case qc1 => rw [List.length_map, hl.out]
    case qc2 => exact fun j u hj => ((Fr.refl (fun _ => False) w).alloc _).cell (hc.out j u hj) (fun x => x)
    case qc3 => exact one_ints xs
    case qc4 => unfold maxLen; omega
    case qc5 => omega
    case qc6 => simp
    intro v' w1 hown hgrow hnil
    go_wp2
    go_ret
    obtain ⟨A', c', rfl, hF⟩ := Flat.ofOwn (by simpa using hown)
    exact ⟨A', c', rfl, hF, ((Fr.refl _ w).alloc _).grown hgrow (fun k hk => .inr (by simp [Value.ownBlock] at hk; omega))⟩

set_option maxRecDepth 100000 in
theorem cloneEv_calls (v : Value) (es : List Ev) (F : Nat → Prop) (w : World) (hx : EvsAt w F v es) (hn : es.length ≤ 20000) :
    Calls Try.prog 25 #[v] w fun e w' => ∃ v', e = .returned v' ∧ EvsOwn 33 w.heap.size w' F v' es ∧ Fr (fun _ => False) w w' := by
  obtain ⟨A, c, cs, rfl, h2, h3, h4, h5, h6⟩ := hx.ex
  have q22 := fun (w : World) (a : Option Addr) (n c n' c' : Nat) => Lib.run_eql_slice_nil w 22 _ a n c n' c' Try.underlying22
  have H6 := Lib.hid h6
  have H1 := Lib.hid (one_of_rows h4 h6)
  clear h6 hx
  generalize hln : es.length = n at *
  have HN := Lib.hid hln
  clear hln
  cases A with
  | none =>
    have h0 : n = 0 := by
      by_cases h : n = 0
      · exact h
      · obtain ⟨_, h1, _⟩ := h5 (by omega); cases h1
    subst h0
    clear h5
    obtain rfl : es = [] := List.length_eq_zero_iff.1 HN.out
    go_enter Try.func25, Try.ntmps25
    go_wp2
    go_ret
    exact ⟨.slice none 0 0, rfl, EvsOwn.nil _ _ _ _, Fr.refl _ _⟩
  | some ad =>
    have hc := Lib.hid (show ∀ j u, cs[j]? = some u → w.cell? (ad.add j) = some u by
      by_cases h0 : n = 0
      · subst h0
        obtain rfl : cs = [] := List.length_eq_zero_iff.1 h4
        intro j u hj; cases hj
      · obtain ⟨ad', h1, _, h2⟩ := h5 (by omega)
        cases h1
        exact h2)
    obtain ⟨i0, hi, hz0, hz1, hz2⟩ := info_parts infoEv
    clear h5
    go_enter Try.func25, Try.ntmps25
    go_wp2_with (at_builtin; refine wpList_append_own _ rfl _ _ 22 rfl w.heap.size 33 i0 _ 10 128 Try.underlying22 hi hz0 hz1 hz2 rfl (by decide) _ _ _ rfl (World.ownsRow_made w #[] 0 (Nat.le_refl _) (Nat.zero_le _) (by simp)) ad n c cs rfl ?qc1 ?qc2 ?qc3 ?qc4 ?qc5 ?qc6 ?_)
    case qc1 => exact h4
    case qc2 => exact fun j u hj => ((Fr.refl (fun _ => False) w).alloc _).cell (hc.out j u hj) (fun x => x)
    case qc3 => exact H1.out
    case qc4 => unfold maxLen; omega
    case qc5 => omega
    case qc6 => simp
    intro v' w1 hown hgrow hnil
    go_wp2
    go_ret
    have hf : Fr (fun _ => False) w w1 := ((Fr.refl _ w).alloc _).grown hgrow (fun k hk => .inr (by simp [Value.ownBlock] at hk; omega))
    exact ⟨v', rfl, ⟨cs, by rw [HN.out]; simpa using hown, fun i hi => (H6.out i (by rw [HN.out] at hi; exact hi)).frame hf (fun _ _ x => x.elim)⟩, hf⟩
end Go.Proofs.Ythlanmibfnaoiaa
