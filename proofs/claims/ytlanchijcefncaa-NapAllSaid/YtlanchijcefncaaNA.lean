/- Who sleeps on what, in a world: a map of maps. nap.New, Asleep, All. -/
import Derived.Test.YtlanchijcefncaaUK
import Derived.Test.YtlanchijcefncaaSh15
import Derived.Maps.OwnIn
import Derived.Maps.AppendAt
import Derived.Lib.Hide
namespace Go.Proofs.Ytlanchijcefncaa
open Go.RowKit Go.Shelf Go.Maps
attribute [local go_sem] Oper.semAt_some

/-- How a map within a map reads: as its block's number. -/
def refElem : Value → Option (DataW Unit × List MemPlace)
  | .map (some b) => some (.lit (.int .i64 (b : Int)), [])
  | .map none => some (.lit (.int .i64 (-1)), [])
  | _ => none
theorem refElem_some {v : Value} {b : Nat} {ps : List MemPlace} (h : refElem v = some (.lit (.int .i64 (b : Int)), ps)) : v = .map (some b) := by
  unfold refElem at h
  split at h
  · injection h with h; injection h with h1 h2; injection h1 with h1; injection h1 with _ h1
    rw [Int.ofNat.inj h1]
  · injection h with h; injection h with h1 h2; injection h1 with h1; injection h1 with _ h1
    omega
  · cases h
theorem refElem_none {v : Value} {ps : List MemPlace} (h : refElem v = some (.lit (.int .i64 (-1)), ps)) : v = .map none := by
  unfold refElem at h
  split at h
  · injection h with h; injection h with h1 h2; injection h1 with h1; injection h1 with _ h1
    omega
  · rfl
  · cases h

/-- One who sleeps: who, the block of its words, what it watches. -/
abbrev NapE := Int × Nat × List Acc
abbrev OwnI (w : World) (b : Nat) (xs : List Acc) : Prop := w.ownsMap Try.prog 3 (plainElem (H := Unit) Try.prog 3) b xs.length (putD xs)
structure NapAt (w : World) (B nb mb nn : Nat) (D : DataW Unit) (S : List NapE) : Prop where
  blk : w.heap[nb]? = some (.cells #[.map (some mb)] 48 (0, 0))
  own : w.ownsMap Try.prog 3 refElem mb nn D
  has : ∀ a, has D (.int .i64 a) = S.any (fun p => p.1 == a)
  at_ : ∀ p ∈ S, ∀ z, D.atKey (.int .i64 p.1) z = .lit (.int .i64 (p.2.1 : Int))
  inn : ∀ p ∈ S, OwnI w p.2.1 p.2.2
  wf : ∀ p ∈ S, (Lit.int .i64 p.1).wf = true
  rise : S.Pairwise (fun p q => p.1 < q.1)
  base : B ≤ nb ∧ B ≤ mb ∧ ∀ p ∈ S, B ≤ p.2.1 ∧ p.2.1 ≠ mb
  few : nn ≤ 100000

theorem ownsMap_fr {w w' : World} {S : Nat → Prop} {k : TypeId} {R : Value → Option (DataW Unit × List MemPlace)} {b n : Nat} {D : DataW Unit} (h : w.ownsMap Try.prog k R b n D) (hf : Fr S w w') (hs : ¬ S b) : w'.ownsMap Try.prog k R b n D := by
  have hl := h.lt
  obtain ⟨es, clock, hb, r⟩ := h
  exact ⟨es, clock, (hf.block b hl hs).trans hb, r⟩
theorem NapAt.ne {w : World} {B nb mb nn : Nat} {D : DataW Unit} {S : List NapE} (h : NapAt w B nb mb nn D S) : nb ≠ mb := by
  rintro rfl
  obtain ⟨es, clock, hb, _⟩ := h.own
  rw [h.blk] at hb; cases hb
theorem NapAt.neI {w : World} {B nb mb nn : Nat} {D : DataW Unit} {S : List NapE} (h : NapAt w B nb mb nn D S) : ∀ p ∈ S, p.2.1 ≠ nb := by
  intro p hp e
  obtain ⟨es, clock, hb, _⟩ := h.inn p hp
  rw [e, h.blk] at hb; cases hb
theorem NapAt.frame {w w' : World} {T : Nat → Prop} {B nb mb nn : Nat} {D : DataW Unit} {S : List NapE} (h : NapAt w B nb mb nn D S) (hf : Fr T w w') (h1 : ¬ T nb) (h2 : ¬ T mb) (h3 : ∀ p ∈ S, ¬ T p.2.1) : NapAt w' B nb mb nn D S :=
  ⟨hf.heap h.blk h1, ownsMap_fr h.own hf h2, h.has, h.at_, fun p hp => ownsMap_fr (h.inn p hp) hf (h3 p hp), h.wf, h.rise, h.base, h.few⟩
theorem NapAt.frameF {w w' : World} {B nb mb nn : Nat} {D : DataW Unit} {S : List NapE} (h : NapAt w B nb mb nn D S) (hf : Fr (fun _ => False) w w') : NapAt w' B nb mb nn D S := h.frame hf (fun x => x) (fun x => x) (fun _ _ x => x)

theorem keyI {a : Int} (ha : (Lit.int .i64 a).wf = true) : keyOf Try.prog 3 (.int .i64 a) = some (.int .i64 a) := Maps.keyOf_int_mk Try.underlying3 ha
theorem keyedI : Maps.Keyed Try.prog 3 := Maps.int_keyed Try.underlying3
theorem zeroM (w : World) : (zeroValue 49).run Try.prog w = .ok (.map none) w := Try.zeroValue49 w
section
variable {w : World} {B nb mb nn : Nat} {D : DataW Unit} {S : List NapE}
/-- n.m[who], of one who sleeps. -/
theorem NapAt.look (h : NapAt w B nb mb nn D S) {p : NapE} (hp : p ∈ S) : (Instr.lookup 46 (.map (some mb)) (.int .i64 p.1) false).run Try.prog w = .ok (.map (some p.2.1)) w := by
  obtain ⟨v, ps, hr, hv⟩ := h.own.lookup keyedI Try.underlying46 (zeroM w) (zd := .lit (.int .i64 (-1))) (zp := []) rfl (keyI (h.wf p hp))
  rw [h.at_ p hp] at hv
  rw [hr, refElem_some hv]
theorem NapAt.lookNone (h : NapAt w B nb mb nn D S) {a : Int} (ha : (Lit.int .i64 a).wf = true) (hn : S.any (fun p => p.1 == a) = false) : (Instr.lookup 46 (.map (some mb)) (.int .i64 a) false).run Try.prog w = .ok (.map none) w := by
  obtain ⟨v, ps, hr, hv⟩ := h.own.lookup keyedI Try.underlying46 (zeroM w) (zd := .lit (.int .i64 (-1))) (zp := []) rfl (keyI ha)
  rw [atKey_of_not_has (by rw [h.has]; exact hn)] at hv
  rw [hr, refElem_none hv]
theorem NapAt.lookOk (h : NapAt w B nb mb nn D S) {a : Int} (ha : (Lit.int .i64 a).wf = true) : ∃ v, (Instr.lookup 46 (.map (some mb)) (.int .i64 a) true).run Try.prog w = .ok (.tuple #[v, .bool (S.any (fun p => p.1 == a))]) w := by
  obtain ⟨v, ps, hr, hv⟩ := h.own.look_ok keyedI Try.underlying46 (zeroM w) (zd := .lit (.int .i64 (-1))) (zp := []) rfl (keyI ha)
  rw [h.has] at hr
  exact ⟨v, hr⟩
/-- Who sleeps, sorted. -/
theorem NapAt.keys (h : NapAt w B nb mb nn D S) {ss : List Int} (hS : ss.Perm (intKeys D)) : ss.mergeSort leI = S.map (·.1) := by
  have hp : (S.map (·.1)).Perm (intKeys D) := by
    obtain ⟨es, hD, hpw, _⟩ := h.own.entries keyedI
    obtain ⟨es', hD', hko⟩ := h.own.keysOf
    obtain rfl : es = es' := by rw [hD] at hD'; simpa using hD'
    have hh := h.has
    subst hD
    refine perm_intKeys hpw (fun p hp => by obtain ⟨v, hv⟩ := hko p hp; obtain ⟨x, _, hx, _⟩ := Maps.keyOf_i64 Try.underlying3 hv; exact ⟨x, hx⟩) (List.pairwise_map.2 (h.rise.imp fun {a b} hab e => by rw [e] at hab; exact absurd hab (Int.lt_irrefl _))) (fun x => ?_)
    rw [hh, List.any_eq_true, List.mem_map]
    exact ⟨fun ⟨p, hp, e⟩ => ⟨p, hp, by simpa using e⟩, fun ⟨p, hp, e⟩ => ⟨p, hp, by simpa using e⟩⟩
  rw [mergeSort_of_perm_i (hS.trans hp.symm)]
  refine List.mergeSort_of_pairwise (List.pairwise_map.2 (h.rise.imp fun {a b} hab => ?_))
  simp only [leI, decide_eq_true_eq]; omega
theorem NapAt.len (h : NapAt w B nb mb nn D S) : S.length = Maps.size D := by
  obtain ⟨es, hD⟩ := h.own.isMap
  have h1 : (intKeys D).length = Maps.size D := by rw [hD]; simp [intKeys, Maps.size]
  have h2 := congrArg List.length (h.keys (List.Perm.refl (intKeys D)))
  rw [List.length_mergeSort, List.length_map] at h2
  omega
end
theorem wpl_look {ops : Array Oper} {rest : List Oper} {o : Oper} {a : Act} {Q : Exit → Act → World → Prop} (w : World) (hg : o.guard = none) (m x : Operand) (t : TypeId) (c : Bool) (hop : o.op = Op.lookup t m x c) (mv xv v : Value) (hm : a.eval m = mv) (hx : a.eval x = xv)
    (hr : (Instr.lookup t mv xv c).run Try.prog w = .ok v w) (hK : wpList Try.prog ops Q rest (a.put o.dst v) w) : wpList Try.prog ops Q (o :: rest) a w := by
  refine wpList_plain hg fun K' hK' => ?_
  unfold Oper.wp
  simp [execOp, hop, hm, hx, hr, Result.andThen]
  exact hK' _ _ hK
theorem wpli_look {F : Fence} {nF : Nat} {ops : Array Oper} {rest : List Oper} {o : Oper} {a : Act} {Q : Exit → Act → World → Prop} (w : World) (hg : o.guard = none) (m x : Operand) (t : TypeId) (c : Bool) (hop : o.op = Op.lookup t m x c) (mv xv v : Value) (hm : a.eval m = mv) (hx : a.eval x = xv)
    (hr : (Instr.lookup t mv xv c).run Try.prog w = .ok v w) (hK : wpListIn F nF Try.prog ops Q rest (a.put o.dst v) w) : wpListIn F nF Try.prog ops Q (o :: rest) a w := by
  refine wpListIn_plain hg fun K' hK' => ?_
  unfold Oper.wpIn
  refine ⟨by simp [Oper.about, hop], ?_⟩
  rw [Oper.semAt_plain F _ _ (by rw [hop]; intro c hc'; cases hc')]
  simp [execOp, hop, hm, hx, hr, Result.andThen]
  exact hK' _ _ hK
theorem acc_news {w : World} {b : Nat} {a v : Int} {T : TypeId} (h : w.heap[b]? = some (.cells #[.int .i64 a, .int .i64 v] T (0, 0))) : ∀ j u, ([.int .i64 a, .int .i64 v] : List Value)[j]? = some u → w.cell? ((⟨b, 0, none⟩ : Addr).add j) = some u := by
  intro j u hj
  have h1 : (Addr.mk b 0 none).add j = ⟨b, j, none⟩ := by unfold Addr.add; split <;> simp_all
  rw [h1, blk_cell h]
  have : j < 2 := by have := (List.getElem?_eq_some_iff.1 hj).1; exact this
  have : j = 0 ∨ j = 1 := by omega
  rcases this with rfl | rfl <;> exact hj
theorem sorts (m : Nat) : AnyZI.SortsIn Try.prog laySORTED_ren Fence.wide m :=
  ⟨fun blk off cap ss W hH hblk hsz => callsIn_wide.2 (AnyM.slices_Sort_int laySORT blk off cap ss W hH hblk hsz),
   fun p cap W => callsIn_wide.2 (AnyM.slices_Sort_int_none laySORT p cap W)⟩

set_option maxRecDepth 100000 in
theorem napNew_calls (w : World) : Calls Try.prog 8 #[] w fun e w' => ∃ nb mb, e = .returned (.pointer (some ⟨nb, 0, none⟩)) ∧ NapAt w' w.heap.size nb mb 0 (.map []) [] ∧ Fr (fun _ => False) w w' := by
  have hmm := @run_makeMap Try.prog
  go_enter Try.func8, Try.ntmps8
  go_wp2
  go_ret
  refine ⟨_, _, rfl, ⟨?_, ?_, fun a => rfl, fun p hp => (by cases hp), fun p hp => (by cases hp), fun p hp => (by cases hp), List.Pairwise.nil, ⟨?_, Nat.le_refl _, fun p hp => (by cases hp)⟩, by omega⟩, ((Fr.refl _ _).alloc _).alloc _⟩
  · have := heap_alloc_new (w.alloc (.map #[] 0)) (.cells #[.map (some w.heap.size)] 48)
    simpa using this
  · exact (World.ownsMap_made w Try.prog 3 _).alloc _
  · exact Nat.le_succ _
set_option maxRecDepth 100000 in
theorem asleep_calls (nb mb nn B : Nat) (D : DataW Unit) (S : List NapE) (a : Int) (w : World) (h : NapAt w B nb mb nn D S) (ha : (Lit.int .i64 a).wf = true) : Calls Try.prog 16 #[.pointer (some ⟨nb, 0, none⟩), .int .i64 a] w fun e w' => e = .returned (.bool (S.any (fun p => p.1 == a))) ∧ w' = w := by
  have c0 := blk_cell h.blk 0
  simp only [List.getElem?_toArray, List.getElem?_cons_zero] at c0
  obtain ⟨v, hv⟩ := h.lookOk ha
  generalize (S.any fun p => p.1 == a) = bb at hv ⊢
  go_enter Try.func16, Try.ntmps16
  go_wp2_with (at_lookup; refine wpl_look _ rfl _ _ _ _ rfl (.map (some mb)) (.int .i64 a) _ rfl rfl hv ?_)
  go_ret
  exact ⟨rfl, rfl⟩
theorem all_row {S : List NapE} {ss : List Int} {W : World} {B : Nat} {T : TypeId} {v : Value} (hS : ss.mergeSort leI = S.map (·.1)) (hrow : W.ownsRow B T 1 v ss.length ((ss.mergeSort fun x y => decide (x ≤ y)).map encZ)) :
    ∃ A c, v = .slice A S.length c ∧ Flat W (fun k => B ≤ k) A S.length (S.map (·.1)) := by
  have hl : ss.length = S.length := by have := congrArg List.length hS; rwa [List.length_mergeSort, List.length_map] at this
  rw [hl] at hrow
  change W.ownsRow B T 1 v S.length ((ss.mergeSort leI).map encZ) at hrow
  rw [hS] at hrow
  obtain ⟨A, c, rfl, hf⟩ := Flat.ofOwn hrow
  rw [Nat.mul_one] at hf
  exact ⟨A, c, rfl, hf⟩
set_option maxRecDepth 100000 in
set_option maxHeartbeats 2000000 in
theorem all_calls (nb mb nn B : Nat) (D : DataW Unit) (S : List NapE) (w : World) (h : NapAt w B nb mb nn D S) : Calls Try.prog 10 #[.pointer (some ⟨nb, 0, none⟩)] w fun e w' =>
    ∃ A c, e = .returned (.slice A S.length c) ∧ Flat w' (fun k => w.heap.size ≤ k) A S.length (S.map (·.1)) ∧ Below w.heap.size w w' := by
  refine (callsIn_wide (n := 8)).1 ?_
  have c0 := blk_cell h.blk 0
  simp only [List.getElem?_toArray, List.getElem?_cons_zero] at c0
  have hsz := h.own.size_le
  have hfew := h.few
  have hmax : Maps.size D ≤ maxLen := by unfold maxLen; omega
  have hbytes : Maps.size D * 8 ≤ 140737488355328 := by omega
  have hseq : SeqGives Fence.wide 4 Try.prog 30 #[.pointer (some ⟨w.heap.size, 0, none⟩)] encZ (fun ss => ss.Perm (intKeys D)) (Maps.size D) (w.alloc (.cells #[.map (some mb)] 46)) :=
    AnyZI.keys_gives (ρ := layKEYSW_ren) { layKEYSW with } Fence.wide _ trivial rfl (by omega) w.heap.size mb nn D _ (by simp) (by simp) (h.own.alloc _)
  have cK : ∀ mb V, CallsIn Fence.wide 7 Try.prog 24 #[.map mb] V fun e w' => e = .returned (.func (.func 30) #[] #[.pointer (some ⟨V.heap.size, 0, none⟩)]) ∧ w' = V.alloc (.cells #[.map mb] 46) := fun mb V => AnyZI.keys_in layKEYSW Fence.wide 7 trivial rfl mb V
  have cS := AnyZI.sorted_in laySORTED Fence.wide 7 trivial trivial trivial trivial rfl (by omega) (sorts _) (enters_of Try.func29 (by kernel_rfl) rfl) 30 #[.pointer (some ⟨w.heap.size, 0, none⟩)] trivial (enters_of Try.func30 (by kernel_rfl) rfl) _ _ hmax hbytes _ hseq
  change CallsIn _ _ Try.prog 23 _ _ _ at cS
  have hfK : Fence.wide.fn 24 := trivial
  have hfS : Fence.wide.fn 23 := trivial
  have HK := Lib.hid (fun (ss : List Int) (hS : ss.Perm (intKeys D)) => h.keys hS)
  clear h hseq hmax hbytes hsz hfew
  refine callsIn_of_wp Try.func10 rfl trivial ?_ rfl
  simp only [Try.ntmps10, List.size_toArray, List.length_cons, List.length_nil, Nat.reduceAdd, Nat.reduceSub, Array.replicate_succ, Array.replicate_zero, List.push_toArray, List.append_toArray, List.nil_append, List.cons_append]
  gi_wp2_with (first
    | (gi_at_call 24; refine (cK _ _).mono ?_; rintro e w' ⟨rfl, rfl⟩)
    | (gi_at_call 23; refine cS.mono ?_; rintro e W2 ⟨v, ss, rfl, hS, hrow, hnil, hb⟩; obtain ⟨A, c, rfl, hfl⟩ := all_row (HK.out _ hS) hrow; clear hnil hrow hS))
  go_ret
  rw [World.size_alloc] at hb
  refine ⟨A, c, rfl, hfl.mono (fun k _ hk => by simp at hk; omega), ?_⟩
  exact (((Below.refl _ w).alloc (Nat.le_refl _) _)).trans (hb.mono (by omega))
end Go.Proofs.Ytlanchijcefncaa
