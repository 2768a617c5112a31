/- What a map holds that was written from a list of accesses, from the last to the first; the eldest of each address. No program. -/
import Derived.Test.YtlanchijcefncaaUA
import Derived.Maps.Views
import Derived.Maps.Own
import Derived.Maps.OwnSet
import Derived.Lib.SlKeysI
namespace Go.Proofs.Ytlanchijcefncaa
open Go.RowKit Go.Maps

/-- What the eldest access of an address says. -/
def valOf (xs : List Acc) (a : Int) : Option Int := (xs.find? fun x => x.1.1 == a).map (·.1.2)
theorem valOf_nil (a : Int) : valOf [] a = none := rfl
theorem valOf_cons (x : Acc) (xs : List Acc) (a : Int) : valOf (x :: xs) a = if x.1.1 = a then some x.1.2 else valOf xs a := by
  unfold valOf
  rw [List.find?_cons]
  by_cases h : x.1.1 = a
  · have : (x.1.1 == a) = true := by simpa using h
    rw [this, if_pos h]; rfl
  · have : (x.1.1 == a) = false := by simpa using h
    rw [this, if_neg h]
theorem valOf_some {xs : List Acc} {a v : Int} (h : valOf xs a = some v) : ∃ x ∈ xs, x.1 = (a, v) := by
  induction xs with
  | nil => cases h
  | cons x xs ih =>
    rw [valOf_cons] at h
    split at h
    · rename_i e
      cases h
      exact ⟨x, List.mem_cons_self .., by rw [← e]⟩
    · obtain ⟨y, hy, h2⟩ := ih h
      exact ⟨y, List.mem_cons_of_mem _ hy, h2⟩
theorem valOf_isSome {xs : List Acc} {a : Int} : (valOf xs a).isSome = true ↔ ∃ x ∈ xs, x.1.1 = a := by
  induction xs with
  | nil => simp [valOf_nil]
  | cons x xs ih =>
    rw [valOf_cons]
    by_cases h : x.1.1 = a
    · rw [if_pos h]; simp [h]
    · rw [if_neg h, ih]; simp [h]

/-- One more access written into a map. -/
def putA (D : DataW Unit) (x : Acc) : DataW Unit := D.put (.int .i64 x.1.1) (.lit (.int .i64 x.1.2))
def putD (xs : List Acc) : DataW Unit := xs.foldr (fun x D => putA D x) (.map [])
theorem putD_reverse (xs : List Acc) : xs.reverse.foldl putA (.map []) = putD xs := by
  rw [List.foldl_reverse]; rfl
/-- What was written in the rounds so far. -/
def bkD (pre : List (Nat × Acc)) : DataW Unit := (pre.map (·.2)).foldl putA (.map [])
theorem bkD_snoc (pre : List (Nat × Acc)) (x : Nat × Acc) : bkD (pre ++ [x]) = putA (bkD pre) x.2 := by simp [bkD]
theorem bkD_all (xs : List Acc) : bkD (back xs xs.length) = putD xs := by rw [bkD, back_all, putD_reverse]
theorem keyL (a : Int) : WideAt.IsKeyLit (.int .i64 a) := trivial
theorem putD_tidy (xs : List Acc) : Tidy (putD xs) := by
  induction xs with
  | nil => exact tidy_empty
  | cons x xs ih => exact ih.put (keyL _) _
theorem putD_isMap (xs : List Acc) : IsMap (putD xs) := (putD_tidy xs).isMap
theorem key_ne {a b : Int} (h : a ≠ b) : (Lit.int .i64 a) ≠ .int .i64 b := fun e => h (by injection e)
theorem putD_has (xs : List Acc) (a : Int) : has (putD xs) (.int .i64 a) = (valOf xs a).isSome := by
  induction xs with
  | nil => rfl
  | cons x xs ih =>
    rw [valOf_cons]
    show has ((putD xs).put _ _) _ = _
    by_cases h : x.1.1 = a
    · rw [if_pos h, h]
      exact has_put_same (putD_isMap xs) (keyL _) _
    · rw [if_neg h, has_put_other (key_ne (fun e => h e.symm)), ih]
theorem putD_at (xs : List Acc) (a : Int) (z : DataW Unit) : (putD xs).atKey (.int .i64 a) z = (valOf xs a).elim z fun v => .lit (.int .i64 v) := by
  induction xs with
  | nil => exact atKey_of_not_has (by rw [putD_has]; rfl) z
  | cons x xs ih =>
    rw [valOf_cons]
    show ((putD xs).put _ _).atKey _ _ = _
    by_cases h : x.1.1 = a
    · rw [if_pos h, h]
      exact atKey_put_same (putD_isMap xs) (keyL _) _ _
    · rw [if_neg h, atKey_put_other (key_ne (fun e => h e.symm)), ih]
theorem putD_keys (xs : List Acc) : ∀ es, putD xs = .map es → ∀ p ∈ es, ∃ x, p.1 = .int .i64 x := by
  induction xs with
  | nil => intro es h p hp; cases h; cases hp
  | cons x xs ih =>
    obtain ⟨fs, hf⟩ := putD_isMap xs
    have ih' := ih fs hf
    intro es h p hp
    have h2 : putD (x :: xs) = .map (DataW.insert (.int .i64 x.1.1, .lit (.int .i64 x.1.2)) (fs.filter fun p => !p.1.sameKey (.int .i64 x.1.1))) := by
      show putA (putD xs) x = _
      rw [hf]; rfl
    rw [h2] at h
    cases h
    have hins : ∀ (y : Lit × DataW Unit) (l : List (Lit × DataW Unit)) q, q ∈ DataW.insert y l → q = y ∨ q ∈ l := by
      intro y l
      induction l with
      | nil => intro q hq; simp [DataW.insert] at hq; exact .inl hq
      | cons z l ih2 =>
        intro q hq
        unfold DataW.insert at hq
        split at hq
        · rcases List.mem_cons.1 hq with h | h
          · exact .inl h
          · exact .inr h
        · rcases List.mem_cons.1 hq with h | h
          · exact .inr (h ▸ List.mem_cons_self ..)
          · exact (ih2 q h).imp id (List.mem_cons_of_mem _)
    rcases hins _ _ _ hp with rfl | hq
    · exact ⟨_, rfl⟩
    · exact ih' p ((List.mem_filter.1 hq).1)
/-- The keys, sorted: rising, each once; just the addresses. -/
theorem sorted_keys {xs : List Acc} {ss : List Int} (h : ss.Perm (intKeys (putD xs))) : (ss.mergeSort leI).Pairwise (· < ·) ∧ ∀ a, a ∈ ss.mergeSort leI ↔ (valOf xs a).isSome = true := by
  obtain ⟨es, he, ht⟩ := putD_tidy xs
  have hk := putD_keys xs es he
  have hnd : (intKeys (putD xs)).Nodup := by
    rw [he]
    show (es.map fun p => intOf p.1).Nodup
    refine List.pairwise_map.2 (ht.imp_of_mem fun {p q} hp hq hne e => hne ?_)
    obtain ⟨a, ha⟩ := hk p hp
    obtain ⟨b, hb⟩ := hk q hq
    rw [ha, hb] at e ⊢
    exact congrArg _ e
  have hmem : ∀ a, a ∈ intKeys (putD xs) ↔ (valOf xs a).isSome = true := by
    intro a
    rw [← putD_has, he, has_eq, List.any_eq_true]
    show a ∈ es.map (fun p => intOf p.1) ↔ _
    rw [List.mem_map]
    constructor
    · rintro ⟨p, hp, rfl⟩
      obtain ⟨b, hb⟩ := hk p hp
      exact ⟨p, hp, by rw [hb]; simp [Lit.sameKey, intOf]⟩
    · rintro ⟨p, hp, hs⟩
      obtain ⟨b, hb⟩ := hk p hp
      rw [hb] at hs
      exact ⟨p, hp, by rw [hb]; simpa [Lit.sameKey, intOf] using hs⟩
  have hp := (List.mergeSort_perm ss leI).trans h
  have tr : ∀ a b c : Int, leI a b = true → leI b c = true → leI a c = true := fun a b c h1 h2 => by simp only [leI, decide_eq_true_eq] at *; exact Int.le_trans h1 h2
  have to : ∀ a b : Int, (leI a b || leI b a) = true := fun a b => by simp only [leI, Bool.or_eq_true, decide_eq_true_eq]; exact Int.le_total a b
  refine ⟨?_, fun a => hp.mem_iff.trans (hmem a)⟩
  have h1 := List.pairwise_mergeSort tr to ss
  have h2 : (ss.mergeSort leI).Pairwise (· ≠ ·) := hp.nodup_iff.2 hnd
  refine (h1.and h2).imp fun {a b} hab => ?_
  have := hab.1
  simp only [leI, decide_eq_true_eq] at this
  have h3 : a ≠ b := hab.2
  omega

/-- The eldest of each address, by addresses. -/
def IsFirsts (xs out : List Acc) : Prop := out.Pairwise (fun p q => p.1.1 < q.1.1) ∧ ∀ a v, (∃ p ∈ out, p.1 = (a, v)) ↔ valOf xs a = some v
theorem firsts_unique {xs out out' : List Acc} (h : IsFirsts xs out) (h' : IsFirsts xs out') : out = out' := by
  have hnd : ∀ {l : List Acc}, l.Pairwise (fun p q => p.1.1 < q.1.1) → l.Nodup := fun hl => hl.imp fun {a b} hab e => by subst e; exact absurd hab (Int.lt_irrefl _)
  refine List.Perm.eq_of_pairwise (le := fun p q : Acc => p.1.1 < q.1.1) (fun a b _ _ h1 h2 => absurd (Int.lt_trans h1 h2) (Int.lt_irrefl _)) h.1 h'.1 ?_
  refine (List.perm_ext_iff_of_nodup (hnd h.1) (hnd h'.1)).2 fun p => ?_
  have hm : ∀ {l : List Acc}, IsFirsts xs l → (p ∈ l ↔ valOf xs p.1.1 = some p.1.2) := fun {l} hl =>
    Iff.trans ⟨fun hp => ⟨p, hp, rfl⟩, fun ⟨q, hq, e⟩ => by have : q = p := Subtype.ext e; exact this ▸ hq⟩ (hl.2 p.1.1 p.1.2)
  rw [hm h, hm h']
/-- The eldest access of an address. -/
def firstAt (xs : List Acc) (a : Int) : Acc := (xs.find? fun x => x.1.1 == a).getD acc0
theorem firstAt_of {xs : List Acc} {a v : Int} (h : valOf xs a = some v) : (firstAt xs a).1 = (a, v) := by
  unfold valOf at h
  unfold firstAt
  cases hf : xs.find? fun x => x.1.1 == a with
  | none => rw [hf] at h; cases h
  | some x =>
    rw [hf] at h
    have h1 := List.find?_some hf
    simp only [Option.map_some, Option.some.injEq] at h
    have h2 : x.1.1 = a := by simpa using h1
    show x.1 = (a, v)
    rw [← h2, ← h]
theorem firsts_of {xs : List Acc} {ks : List Int} (h1 : ks.Pairwise (· < ·)) (h2 : ∀ a, a ∈ ks ↔ (valOf xs a).isSome = true) : IsFirsts xs (ks.map (firstAt xs)) := by
  have hf : ∀ a ∈ ks, ∃ v, valOf xs a = some v := fun a ha => Option.isSome_iff_exists.1 ((h2 a).1 ha)
  refine ⟨List.pairwise_map.2 (h1.imp_of_mem fun {a b} ha hb hab => ?_), fun a v => ⟨?_, fun hv => ?_⟩⟩
  · obtain ⟨v, hv⟩ := hf a ha
    obtain ⟨u, hu⟩ := hf b hb
    rw [firstAt_of hv, firstAt_of hu]; exact hab
  · rintro ⟨p, hp, he⟩
    obtain ⟨b, hb, rfl⟩ := List.mem_map.1 hp
    obtain ⟨u, hu⟩ := hf b hb
    rw [firstAt_of hu] at he
    cases he
    exact hu
  · exact ⟨_, List.mem_map.2 ⟨a, (h2 a).2 (by rw [hv]; rfl), rfl⟩, firstAt_of hv⟩
end Go.Proofs.Ytlanchijcefncaa
