/- nap.Watch of one who does not sleep; nap.Changed. -/
import Derived.Test.YtlanchijcefncaaNB
import Derived.Laws.AppendOwn
namespace Go.Proofs.Ytlanchijcefncaa
open Go.RowKit Go.Shelf Go.Maps
attribute [local go_sem] Oper.semAt_some

set_option maxRecDepth 100000 in
set_option maxHeartbeats 2000000 in
theorem watchNone_calls (nb mb nn B : Nat) (D : DataW Unit) (S : List NapE) (a : Int) (w : World) (h : NapAt w B nb mb nn D S) (ha : (Lit.int .i64 a).wf = true) (hn : S.any (fun p => p.1 == a) = false) :
    Calls Try.prog 19 #[.pointer (some ⟨nb, 0, none⟩), .int .i64 a] w fun e w' => e = .returned (.slice none 0 0) ∧ Below w.heap.size w w' := by
  refine (callsIn_wide (n := 8)).1 ?_
  have c0 := blk_cell h.blk 0
  simp only [List.getElem?_toArray, List.getElem?_cons_zero] at c0
  have hl1 := h.lookNone ha hn
  have hmax : 0 ≤ maxLen := Nat.zero_le _
  have hbytes : 0 * 8 ≤ 140737488355328 := by omega
  have hseq : SeqGives Fence.wide 4 Try.prog 31 #[.pointer (some ⟨w.heap.size, 0, none⟩)] encZ (fun ss : List Int => ss = []) 0 (w.alloc (.cells #[.map none] 49)) :=
    AnyZI.keys_gives_nil (ρ := layKEYS_ren) { layKEYS with } Fence.wide _ trivial rfl w.heap.size _ (by simp) (by simp)
  have cK : ∀ mb V, CallsIn Fence.wide 7 Try.prog 26 #[.map mb] V fun e w' => e = .returned (.func (.func 31) #[] #[.pointer (some ⟨V.heap.size, 0, none⟩)]) ∧ w' = V.alloc (.cells #[.map mb] 49) := fun mb V => AnyZI.keys_in layKEYS Fence.wide 7 trivial rfl mb V
  have cS := AnyZI.sorted_in laySORTED Fence.wide 7 trivial trivial trivial trivial rfl (by omega) (sorts _) (enters_of Try.func29 (by kernel_rfl) rfl) 31 #[.pointer (some ⟨w.heap.size, 0, none⟩)] trivial (enters_of Try.func31 (by kernel_rfl) rfl) _ _ hmax hbytes _ hseq
  change CallsIn _ _ Try.prog 23 _ _ _ at cS
  have hfK : Fence.wide.fn 26 := trivial
  have hfS : Fence.wide.fn 23 := trivial
  clear h hseq
  refine callsIn_of_wp Try.func19 rfl trivial ?_ rfl
  simp only [Try.ntmps19, List.size_toArray, List.length_cons, List.length_nil, Nat.reduceAdd, Nat.reduceSub, Array.replicate_succ, Array.replicate_zero, List.push_toArray, List.append_toArray, List.nil_append, List.cons_append]
  gi_wp2_with (first
    | (gi_at_lookup; refine wpli_look _ rfl _ _ _ _ rfl (.map (some mb)) (.int .i64 a) _ rfl rfl hl1 ?_)
    | (gi_at_call 26; refine (cK _ _).mono ?_; rintro e w' ⟨rfl, rfl⟩)
    | (gi_at_call 23; refine cS.mono ?_; rintro e W2 ⟨v, ss, rfl, hS, hrow, hnil, hb⟩; obtain rfl := hnil.2 hS; clear hrow hS hnil))
  rw [World.size_alloc] at hb
  have hBW : Below w.heap.size w W2 := ((Below.refl _ w).alloc (Nat.le_refl _) _).trans (hb.mono (by omega))
  clear cK cS hfK hfS hb
  gi_loopw [5, 17] (fun v5 v17 wr => v17 = .int .i64 0 ∧ v5 = .slice none 0 0 ∧ wr = W2) (fun v5 v17 _ => 0)
  case atStart => exact ⟨rfl, rfl, rfl⟩
  case round =>
    obtain ⟨rfl, rfl, rfl⟩ := hrel
    gi_wp2
    go_ret
    exact ⟨rfl, hBW⟩

/-- Is one woken? -/
def woke (a v : Int) (p : NapE) : Bool := (valOf p.2.2 a).elim false (fun u => u != v)
def SJ (a v : Int) (S : List NapE) (j : Nat) : List NapE := (S.take j).filter (fun q => !woke a v q) ++ S.drop j
def WJ (a v : Int) (S : List NapE) (j : Nat) : List Int := ((S.take j).filter (woke a v)).map (·.1)
theorem drop_cons {S : List NapE} {j : Nat} {p : NapE} (hp : S[j]? = some p) : S.drop j = p :: S.drop (j + 1) := by
  obtain ⟨h, e⟩ := List.getElem?_eq_some_iff.1 hp
  rw [← e]; exact List.drop_eq_getElem_cons h
theorem take_snocN {S : List NapE} {j : Nat} {p : NapE} (hp : S[j]? = some p) : S.take (j + 1) = S.take j ++ [p] := by rw [List.take_add_one, hp]; rfl
theorem SJ_keep {a v : Int} {S : List NapE} {j : Nat} {p : NapE} (hp : S[j]? = some p) (h : woke a v p = false) : SJ a v S (j + 1) = SJ a v S j := by
  unfold SJ
  rw [take_snocN hp, drop_cons hp, List.filter_append]
  simp [h]
theorem SJ_del {a v : Int} {S : List NapE} {j : Nat} {p : NapE} (hr : S.Pairwise (fun p q => p.1 < q.1)) (hp : S[j]? = some p) (h : woke a v p = true) : SJ a v S (j + 1) = (SJ a v S j).filter (fun q => !(q.1 == p.1)) := by
  unfold SJ
  have h1 := hr
  rw [← List.take_append_drop j S, drop_cons hp] at h1
  obtain ⟨p1, p2, p3⟩ := List.pairwise_append.1 h1
  obtain ⟨p4, p5⟩ := List.pairwise_cons.1 p2
  rw [take_snocN hp, drop_cons hp, List.filter_append, List.filter_append, List.filter_filter]
  have e1 : (S.take j).filter (fun q => (!(q.1 == p.1)) && !woke a v q) = (S.take j).filter (fun q => !woke a v q) := by
    refine List.filter_congr fun q hq => ?_
    have := p3 q hq p (List.mem_cons_self ..)
    have : (q.1 == p.1) = false := by simp; omega
    rw [this]; rfl
  have e2 : (S.drop (j + 1)).filter (fun q => !(q.1 == p.1)) = S.drop (j + 1) := by
    refine List.filter_eq_self.2 fun q hq => ?_
    have := p4 q hq
    have : (q.1 == p.1) = false := by simp; omega
    rw [this]; rfl
  have e3 : (p :: S.drop (j + 1)).filter (fun q => !(q.1 == p.1)) = S.drop (j + 1) := by rw [List.filter_cons, e2]; simp
  rw [e1, e3]
  simp [h]
theorem WJ_keep {a v : Int} {S : List NapE} {j : Nat} {p : NapE} (hp : S[j]? = some p) (h : woke a v p = false) : WJ a v S (j + 1) = WJ a v S j := by
  unfold WJ
  rw [take_snocN hp, List.filter_append]; simp [h]
theorem WJ_add {a v : Int} {S : List NapE} {j : Nat} {p : NapE} (hp : S[j]? = some p) (h : woke a v p = true) : WJ a v S (j + 1) = WJ a v S j ++ [p.1] := by
  unfold WJ
  rw [take_snocN hp, List.filter_append]; simp [h]
theorem SJ_zero (a v : Int) (S : List NapE) : SJ a v S 0 = S := by simp [SJ]
theorem mem_SJ {a v : Int} {S : List NapE} {j : Nat} {p : NapE} (hp : S[j]? = some p) : p ∈ SJ a v S j := by
  unfold SJ; rw [drop_cons hp]; simp
theorem Fr.turned {w w' : World} {b : Nat} (h : w.mapTurned w' b) : Fr (fun k => k = b) w w' := by
  have hg := h.grown
  exact ⟨hg.os, hg.tape, hg.output, hg.size, fun k hk hs => hg.block k hk (fun e => hs (Option.some.inj e))⟩
theorem NapAt.del {w w' : World} {B nb mb nn : Nat} {D : DataW Unit} {S : List NapE} (h : NapAt w B nb mb nn D S) (a : Int) (ho : w'.ownsMap Try.prog 3 refElem mb nn (D.del (.int .i64 a))) (ht : w.mapTurned w' mb) : NapAt w' B nb mb nn (D.del (.int .i64 a)) (S.filter (fun q => !(q.1 == a))) := by
  have hf := Fr.turned ht
  have hsub : ∀ p, p ∈ S.filter (fun q => !(q.1 == a)) → p ∈ S ∧ p.1 ≠ a := fun p hp => by
    obtain ⟨h1, h2⟩ := List.mem_filter.1 hp
    exact ⟨h1, by simpa using h2⟩
  refine ⟨hf.heap h.blk h.ne, ho, fun u => ?_, fun p hp z => ?_, fun p hp => ownsMap_fr (h.inn p (hsub p hp).1) hf ((h.base.2.2 p (hsub p hp).1).2), fun p hp => h.wf p (hsub p hp).1, h.rise.filter _, ⟨h.base.1, h.base.2.1, fun p hp => h.base.2.2 p (hsub p hp).1⟩, h.few⟩
  · by_cases e : u = a
    · subst e
      rw [has_del_same]
      symm
      rw [List.any_eq_false]
      intro p hp e2
      exact (hsub p hp).2 (by simpa using e2)
    · rw [has_del_other (key_ne e), h.has, Bool.eq_iff_iff, List.any_eq_true, List.any_eq_true]
      constructor
      · rintro ⟨p, hp, e2⟩
        exact ⟨p, List.mem_filter.2 ⟨hp, by have : p.1 = u := by simpa using e2
                                            simp [this, e]⟩, e2⟩
      · rintro ⟨p, hp, e2⟩
        exact ⟨p, (hsub p hp).1, e2⟩
  · obtain ⟨h1, h2⟩ := hsub p hp
    rw [atKey_del_other (key_ne h2)]
    exact h.at_ p h1 z
theorem OwnI.lookOk {w : World} {b : Nat} {xs : List Acc} (h : OwnI w b xs) {a : Int} (ha : (Lit.int .i64 a).wf = true) : (Instr.lookup 49 (.map (some b)) (.int .i64 a) true).run Try.prog w = .ok (.tuple #[.int .i64 ((valOf xs a).getD 0), .bool (valOf xs a).isSome]) w := by
  obtain ⟨v, ps, hr, hv⟩ := h.look_ok keyedI Try.underlying49 (Try.zeroValue3 w) (zd := .lit (.int .i64 0)) (zp := []) (plainElem_int Try.underlying3 rfl) (keyI ha)
  obtain ⟨c, rfl, hc, _⟩ := plainElem_int_inv Try.underlying3 hv
  rw [hr, putD_has]
  have h1 := putD_at xs a (.lit (.int .i64 0))
  have h2 : (putD xs).atKey (.int .i64 a) (.lit (.int .i64 0)) = .lit (.int .i64 c) := congrArg Prod.fst hc
  rw [h1] at h2
  cases hx : valOf xs a with
  | none => rw [hx] at h2; simp only [Option.elim] at h2; injection h2 with h2; injection h2 with _ h2; rw [← h2]; rfl
  | some u => rw [hx] at h2; simp only [Option.elim] at h2; injection h2 with h2; injection h2 with _ h2; rw [← h2]; rfl
end Go.Proofs.Ytlanchijcefncaa
