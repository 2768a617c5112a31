/- Naps of the call's own: the contracts once more; the chapter's own example. -/
import Derived.Test.YtlanchijcefncaaNE
namespace Go.Proofs.Ytlanchijcefncaa
open Go.RowKit Go.Shelf Go.Maps

abbrev NapM := Int × List Acc
def strip (p : NapE) : NapM := (p.1, p.2.2)
/-- Naps that were made behind w0, and nothing of w0 has turned. -/
def NapIn (w0 w : World) (nb k : Nat) (M : List NapM) : Prop := ∃ mb D S, NapAt w w0.heap.size nb mb k D S ∧ S.map strip = M ∧ Fr (fun _ => False) w0 w
theorem NapAt.low {w : World} {B C nb mb nn : Nat} {D : DataW Unit} {S : List NapE} (h : NapAt w B nb mb nn D S) (hc : C ≤ B) : NapAt w C nb mb nn D S :=
  ⟨h.blk, h.own, h.has, h.at_, h.inn, h.wf, h.rise, ⟨Nat.le_trans hc h.base.1, Nat.le_trans hc h.base.2.1, fun p hp => ⟨Nat.le_trans hc (h.base.2.2 p hp).1, (h.base.2.2 p hp).2⟩⟩, h.few⟩
theorem NapIn.frame {w0 w w' : World} {nb k : Nat} {M : List NapM} (h : NapIn w0 w nb k M) (hf : Fr (fun _ => False) w w') : NapIn w0 w' nb k M :=
  let ⟨mb, D, S, h1, h2, h3⟩ := h; ⟨mb, D, S, h1.frameF hf, h2, h3.trans hf⟩
theorem NapIn.fr {w0 w : World} {nb k : Nat} {M : List NapM} (h : NapIn w0 w nb k M) : Fr (fun _ => False) w0 w := let ⟨_, _, _, _, _, h3⟩ := h; h3
theorem NapIn.rise {w0 w : World} {nb k : Nat} {M : List NapM} (h : NapIn w0 w nb k M) : M.Pairwise (fun p q => p.1 < q.1) := by
  obtain ⟨mb, D, S, h1, rfl, _⟩ := h
  exact List.pairwise_map.2 h1.rise
def wokeM (a v : Int) (p : NapM) : Bool := (valOf p.2 a).elim false (fun u => u != v)
def insM (M : List NapM) (a : Int) (xs : List Acc) : List NapM := M.filter (fun q => decide (q.1 < a)) ++ [(a, xs)] ++ M.filter (fun q => decide (a < q.1))
theorem any_strip (S : List NapE) (a : Int) : S.any (fun p => p.1 == a) = (S.map strip).any (fun p => p.1 == a) := by
  rw [List.any_map]; rfl
theorem newN_in (w0 w : World) (hw : Fr (fun _ => False) w0 w) : Calls Try.prog 8 #[] w fun e w' => ∃ nb, e = .returned (.pointer (some ⟨nb, 0, none⟩)) ∧ NapIn w0 w' nb 0 [] := by
  refine (napNew_calls w).mono ?_
  rintro e w1 ⟨nb, mb, rfl, h, hf⟩
  exact ⟨nb, rfl, mb, _, [], h.low hw.size, rfl, hw.trans hf⟩
theorem asleep_in {w0 w : World} {nb k : Nat} {M : List NapM} (h : NapIn w0 w nb k M) {a : Int} (ha : (Lit.int .i64 a).wf = true) : Calls Try.prog 16 #[.pointer (some ⟨nb, 0, none⟩), .int .i64 a] w fun e w' => e = .returned (.bool (M.any (fun p => p.1 == a))) ∧ w' = w := by
  obtain ⟨mb, D, S, h1, rfl, _⟩ := h
  rw [← any_strip]
  exact asleep_calls nb mb k _ D S a w h1 ha
theorem sleepNo_in {w0 w : World} {nb k : Nat} {M : List NapM} (h : NapIn w0 w nb k M) {a : Int} (ha : (Lit.int .i64 a).wf = true) (hn : M.any (fun p => p.1 == a) = true) (v : Value) : Calls Try.prog 9 #[.pointer (some ⟨nb, 0, none⟩), .int .i64 a, v] w fun e w' => e = .returned (.bool false) ∧ w' = w := by
  obtain ⟨mb, D, S, h1, rfl, _⟩ := h
  exact sleepNo_calls nb mb k _ D S a v w h1 ha (by rw [any_strip]; exact hn)
theorem sleep_in {w0 w : World} {nb k : Nat} {M : List NapM} (h : NapIn w0 w nb k M) (hk : k < 100000) {a : Int} (ha : (Lit.int .i64 a).wf = true) (hn : M.any (fun p => p.1 == a) = false) {A : Option Addr} {n cap : Nat} {xs : List Acc} {F : Nat → Prop} (hxl : xs.length = n) (hx : Flat w F A (n * 2) (accInts xs)) (hlen : n ≤ 20000) :
    Calls Try.prog 9 #[.pointer (some ⟨nb, 0, none⟩), .int .i64 a, .slice A n cap] w fun e w' => e = .returned (.bool true) ∧ NapIn w0 w' nb (k + 1) (insM M a xs) := by
  obtain ⟨mb, D, S, h1, rfl, h3⟩ := h
  subst hxl
  refine (sleep_calls nb mb k _ D S a A xs cap w h1 ha (by rw [any_strip]; exact hn) (hx.mono fun k hk _ => hk) hlen hk).mono ?_
  rintro e w1 ⟨rfl, D', h4, hf⟩
  refine ⟨rfl, mb, D', _, h4, ?_, h3.trans' hf (fun k hk hl => by have := h1.base.2.1; omega)⟩
  unfold insS insM
  rw [List.map_append, List.map_append, List.filter_map, List.filter_map]; rfl
/-- No cell has turned. -/
def KC (w w' : World) : Prop := ∀ p u, w.cell? p = some u → w'.cell? p = some u
theorem KC.ofMap {w w' : World} {mb : Nat} {es : Array MapEntry} {clock : Nat} (hm : w.heap[mb]? = some (.map es clock)) (hf : Fr (fun k => k = mb) w w') : KC w w' := fun p u hc =>
  hf.cell hc (fun e => by
    unfold World.cell? at hc
    rw [e, hm] at hc
    cases hc)
theorem changed_in {w0 w : World} {nb k : Nat} {M : List NapM} (h : NapIn w0 w nb k M) {a : Int} (v : Int) (ha : (Lit.int .i64 a).wf = true) (hl : M.length ≤ 20000) :
    Calls Try.prog 11 #[.pointer (some ⟨nb, 0, none⟩), .int .i64 a, .int .i64 v] w fun e w' =>
      ∃ A c, e = .returned (.slice A ((M.filter (wokeM a v)).map (·.1)).length c) ∧ Flat w' (fun k => w.heap.size ≤ k) A ((M.filter (wokeM a v)).map (·.1)).length ((M.filter (wokeM a v)).map (·.1)) ∧ NapIn w0 w' nb k (M.filter (fun p => !wokeM a v p)) ∧ KC w w' := by
  obtain ⟨mb, D, S, h1, rfl, h3⟩ := h
  rw [List.length_map] at hl
  refine (changed_calls nb mb k _ D S a v w h1 ha hl).mono ?_
  rintro e w1 ⟨A, c, D', rfl, hfl, h4, hf⟩
  have e1 : WJ a v S S.length = ((S.map strip).filter (wokeM a v)).map (·.1) := by
    unfold WJ
    rw [List.take_length, List.filter_map, List.map_map]; rfl
  have e2 : (SJ a v S S.length).map strip = (S.map strip).filter (fun p => !wokeM a v p) := by
    unfold SJ
    rw [List.take_length, List.drop_length, List.append_nil, List.filter_map]; rfl
  rw [e1] at hfl ⊢
  refine ⟨A, c, rfl, hfl, ⟨mb, D', _, h4, e2, h3.trans' hf (fun k hk hl => by have := h1.base.2.1; omega)⟩, ?_⟩
  obtain ⟨es, clock, hb, _⟩ := h1.own
  exact KC.ofMap hb hf
theorem all_in {w0 w : World} {nb k : Nat} {M : List NapM} (h : NapIn w0 w nb k M) : Calls Try.prog 10 #[.pointer (some ⟨nb, 0, none⟩)] w fun e w' =>
    ∃ A c, e = .returned (.slice A M.length c) ∧ Flat w' (fun k => w.heap.size ≤ k) A M.length (M.map (·.1)) ∧ NapIn w0 w' nb k M ∧ Fr (fun _ => False) w w' := by
  obtain ⟨mb, D, S, h1, rfl, h3⟩ := h
  refine (all_calls nb mb k _ D S w h1).mono ?_
  rintro e w1 ⟨A, c, rfl, hfl, hb⟩
  have hf := Fr.ofBelow hb (fun _ => False)
  rw [List.length_map, List.map_map]
  exact ⟨A, c, rfl, hfl, ⟨mb, D, S, h1.frameF hf, rfl, h3.trans hf⟩, hf⟩
theorem watch_in {w0 w : World} {nb k : Nat} {M : List NapM} (h : NapIn w0 w nb k M) {a : Int} {xs : List Acc} (hp : (a, xs) ∈ M) (hlen : xs.length ≤ 20000) : Calls Try.prog 19 #[.pointer (some ⟨nb, 0, none⟩), .int .i64 a] w fun e w' =>
    ∃ A out c, e = .returned (.slice A (List.length out) c) ∧ IsFirsts xs out ∧ Flat w' (fun k => w.heap.size ≤ k) A (out.length * 2) (accInts out) ∧ NapIn w0 w' nb k M ∧ Fr (fun _ => False) w w' := by
  obtain ⟨mb, D, S, h1, rfl, h3⟩ := h
  obtain ⟨p, hp1, e⟩ := List.mem_map.1 hp
  have ea : p.1 = a := congrArg Prod.fst e
  have ex : p.2.2 = xs := congrArg Prod.snd e
  have hc := watch_calls nb mb k _ D S p w h1 hp1 (by rw [ex]; exact hlen)
  rw [ea, ex] at hc
  refine hc.mono ?_
  rintro e w1 ⟨v, out, rfl, ho, hr, hb⟩
  have hf := Fr.ofBelow hb (fun _ => False)
  obtain ⟨A', c', rfl, _⟩ := hr.shape
  exact ⟨A', out, c', rfl, ho, hr.flat.2, ⟨mb, D, S, h1.frameF hf, rfl, h3.trans hf⟩, hf⟩
theorem watchNone_in {w0 w : World} {nb k : Nat} {M : List NapM} (h : NapIn w0 w nb k M) {a : Int} (ha : (Lit.int .i64 a).wf = true) (hn : M.any (fun p => p.1 == a) = false) : Calls Try.prog 19 #[.pointer (some ⟨nb, 0, none⟩), .int .i64 a] w fun e w' =>
    e = .returned (.slice none 0 0) ∧ NapIn w0 w' nb k M ∧ Fr (fun _ => False) w w' := by
  obtain ⟨mb, D, S, h1, rfl, h3⟩ := h
  refine (watchNone_calls nb mb k _ D S a w h1 ha (by rw [any_strip]; exact hn)).mono ?_
  rintro e w1 ⟨rfl, hb⟩
  have hf := Fr.ofBelow hb (fun _ => False)
  exact ⟨rfl, ⟨mb, D, S, h1.frameF hf, rfl, h3.trans hf⟩, hf⟩

theorem wfB {x : Int} (h1 : -9223372036854775808 ≤ x) (h2 : x ≤ 9223372036854775807) : (Lit.int .i64 x).wf = true := by
  have e1 : decide (IntKind.i64.min ≤ x) = true := decide_eq_true h1
  have e2 : decide (x ≤ IntKind.i64.max) = true := decide_eq_true h2
  show (decide (IntKind.i64.min ≤ x) && decide (x ≤ IntKind.i64.max)) = true
  rw [e1, e2]; rfl
def mkA (a v : Int) (ha : (Lit.int .i64 a).wf = true) (hv : (Lit.int .i64 v).wf = true) : Acc := ⟨(a, v), ha, hv⟩
theorem flat_accs (w : World) (L : List Acc) {arr : Array Value} {n m b : Nat} (h : arr = ((accInts L).map (Value.int .i64)).toArray) (hn : L.length = n) (hb : w.heap.size = b) (hm : n * 2 = m) : Flat (w.alloc (.cells arr 27)) (fun k => k = b) (some ⟨b, 0, none⟩) m (accInts L) := by
  subst hb hm hn
  refine ⟨accInts_len L, fun _ => ⟨_, rfl, rfl, fun i hi => ?_⟩⟩
  have h1 : (Addr.mk w.heap.size 0 none).add i = ⟨w.heap.size, i, none⟩ := by unfold Addr.add; split <;> simp_all
  have hl : i < (accInts L).length := by rw [accInts_len]; exact hi
  rw [h1, blk_cell (heap_alloc_new w _), h, List.getElem?_toArray, List.getElem?_map, List.getD_eq_getElem?_getD, List.getElem?_eq_getElem hl]; rfl

theorem changed_to {w0 w : World} {nb k : Nat} {M : List NapM} (h : NapIn w0 w nb k M) {a : Int} (v : Int) (ha : (Lit.int .i64 a).wf = true) (hl : M.length ≤ 20000) {W : List Int} {R : List NapM} {n : Nat} (hW : (M.filter (wokeM a v)).map (·.1) = W) (hn : W.length = n) (hR : M.filter (fun p => !wokeM a v p) = R) :
    Calls Try.prog 11 #[.pointer (some ⟨nb, 0, none⟩), .int .i64 a, .int .i64 v] w fun e w' =>
      ∃ A c, e = .returned (.slice A n c) ∧ Flat w' (fun k => w.heap.size ≤ k) A n W ∧ NapIn w0 w' nb k R ∧ KC w w' := by
  have h2 := changed_in h v ha hl
  rw [hW, hR, hn] at h2
  exact h2
theorem sleep_to {w0 w : World} {nb k : Nat} {M : List NapM} (h : NapIn w0 w nb k M) (hk : k < 100000) {a : Int} (ha : (Lit.int .i64 a).wf = true) (hn : M.any (fun p => p.1 == a) = false) {A : Option Addr} {n cap : Nat} {xs : List Acc} {F : Nat → Prop} (hxl : xs.length = n) (hx : Flat w F A (n * 2) (accInts xs)) (hlen : n ≤ 20000) {R : List NapM} (hR : insM M a xs = R) :
    Calls Try.prog 9 #[.pointer (some ⟨nb, 0, none⟩), .int .i64 a, .slice A n cap] w fun e w' => e = .returned (.bool true) ∧ NapIn w0 w' nb (k + 1) R := by
  rw [← hR]; exact sleep_in h hk ha hn hxl hx hlen
theorem asleep_to {w0 w : World} {nb k : Nat} {M : List NapM} (h : NapIn w0 w nb k M) {a : Int} (ha : (Lit.int .i64 a).wf = true) {r : Bool} (hr : M.any (fun p => p.1 == a) = r) : Calls Try.prog 16 #[.pointer (some ⟨nb, 0, none⟩), .int .i64 a] w fun e w' => e = .returned (.bool r) ∧ w' = w := by
  rw [← hr]; exact asleep_in h ha
theorem flat_ints1 (w : World) (L : List Int) {arr : Array Value} {n b : Nat} (h : arr = (L.map (Value.int .i64)).toArray) (hn : L.length = n) (hb : w.heap.size = b) : Flat (w.alloc (.cells arr 3)) (fun k => k = b) (some ⟨b, 0, none⟩) n L := by
  subst hb hn
  refine ⟨rfl, fun _ => ⟨_, rfl, rfl, fun i hi => ?_⟩⟩
  have h1 : (Addr.mk w.heap.size 0 none).add i = ⟨w.heap.size, i, none⟩ := by unfold Addr.add; split <;> simp_all
  rw [h1, blk_cell (heap_alloc_new w _), h, List.getElem?_toArray, List.getElem?_map, List.getD_eq_getElem?_getD, List.getElem?_eq_getElem hi]; rfl

set_option maxRecDepth 100000 in
theorem first15_calls (w : World) : Calls Try.prog 7 #[] w fun e w' => e = .returned (.bool true) ∧ Fr (fun _ => False) w w' := by
  have T1 : True := trivial
  go_enter Try.func7, Try.ntmps7
  go_wp2_with (first
    | (go_at_call 8; refine (newN_in w w (Fr.refl _ _)).mono ?_; rintro e w1 ⟨nb, rfl, h1⟩)
    | (go_at_call 9; have hfl := flat_accs w1 [mkA 1 5 rfl rfl] (arr := #[.int .i64 1, .int .i64 5]) (m := 1 * 2) rfl rfl rfl rfl; have hS := sleep_to (cap := 1) (h1.frame ((Fr.refl _ _).alloc (.cells #[.int .i64 1, .int .i64 5] 27))) (by omega) (a := 3) rfl rfl (n := 1) (xs := [mkA 1 5 rfl rfl]) rfl hfl (by omega) (R := [(3, [mkA 1 5 rfl rfl])]) rfl; (with_reducible refine hS.mono ?_); rintro e w2 ⟨rfl, h2⟩; have hC1 := changed_to h2 5 (a := 1) rfl (by decide) (W := []) (n := 0) (R := [(3, [mkA 1 5 rfl rfl])]) (by decide) rfl (by rfl))
    | (go_at_call 11; have _t := T1; (with_reducible refine hC1.mono ?_); rintro e w3 ⟨A3, c3, rfl, hl3, h3, _⟩; clear T1; have hC2 := changed_to h3 6 (a := 1) rfl (by decide) (W := [3]) (n := 1) (R := []) (by rfl) rfl (by rfl))
    | (go_at_call 11; (with_reducible refine hC2.mono ?_); rintro e w4 ⟨A4, c4, rfl, hl4, h4, _⟩)
    | (go_at_call 14; have hfa := (Fr.refl (fun _ => False) w4).alloc (.cells #[.int .i64 3] 3); have hI := ints_calls A4 1 c4 (some ⟨w4.heap.size, 0, none⟩) 1 1 [3] [3] _ _ _ (hl4.frame hfa (fun _ _ x => x.elim)) (by omega) (flat_ints1 w4 [3] (arr := #[.int .i64 3]) rfl rfl rfl); rw [decide_eq_true rfl] at hI; (with_reducible refine hI.mono ?_); rintro e w5 ⟨rfl, hf5⟩; have h5 := (h4.frame hfa).frame hf5; have hA := asleep_to h5 (a := 3) rfl (r := false) rfl)
    | (go_at_call 16; (with_reducible refine hA.mono ?_); rintro e w6 ⟨rfl, rfl⟩))
  go_ret
  exact ⟨rfl, h5.fr⟩
end Go.Proofs.Ytlanchijcefncaa
