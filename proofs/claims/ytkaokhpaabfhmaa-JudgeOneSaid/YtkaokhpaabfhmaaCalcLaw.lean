/- Sums of any number of numbers: the plain law. No program. -/
import Derived.Test.YtkaokhpaabfhmaaBits
namespace Go.Proofs.Ytkaokhpaabfhmaa
open Go.RowKit

/-- A number behind others, of a kind. -/
def foldS (k a n : Int) : Int :=
  if k = 0 then wrap64 (a + n) else if k = 1 then wrap64 (a - n) else if k = 2 then wrap64 (a * n)
  else if k = 5 then bits .and .i64 a n else if k = 6 then bits .or .i64 a n else if k = 7 then (if n > a then n else a) else if n < a then n else a
def foldAll (k a : Int) : List Int → Int
  | [] => a
  | n :: l => foldAll k (foldS k a n) l
/-- Do two that stand beside one another pass? -/
def pass (k a b : Int) : Bool := !((k == 3 && decide (b ≤ a)) || (k == 4 && !(a == b)))
def chainB (k : Int) : List Int → Bool
  | [] => true
  | [_] => true
  | a :: b :: l => pass k a b && chainB k (b :: l)
def known (k : Int) : Bool := decide (0 ≤ k) && decide (k ≤ 8)
def b01 (b : Bool) : Int := if b then 1 else 0
def noneV (k : Int) : Int := if k = 2 ∨ k = 3 ∨ k = 4 then 1 else if k = 5 then -1 else 0
def evalV (k : Int) (xs : List Int) : Int :=
  if known k = true then
    match xs with
    | [] => noneV k
    | a :: l => if k = 3 ∨ k = 4 then b01 (chainB k (a :: l)) else foldAll k a l
  else 0
def evalE (k : Int) (xs : List Int) : Int := if known k = true then (if xs = [] ∧ (k = 7 ∨ k = 8) then 1 else 0) else 1
/-- A number modulo another one. -/
def wrapV (n m : Int) : Int := if m < 1 then 0 else n % m

theorem chainB_iff (k : Int) : ∀ xs : List Int, chainB k xs = true ↔ ∀ j, j + 1 < xs.length → pass k (xs.getD j 0) (xs.getD (j + 1) 0) = true
  | [] => by simp [chainB]
  | [_] => by simp [chainB]
  | a :: b :: l => by
    unfold chainB
    rw [Bool.and_eq_true, chainB_iff k (b :: l)]
    constructor
    · rintro ⟨h1, h2⟩ j hj
      match j with
      | 0 => exact h1
      | j + 1 => exact h2 j (by simpa using hj)
    · intro h
      exact ⟨h 0 (by simp), fun j hj => h (j + 1) (by simpa using hj)⟩
theorem chainB_false {k : Int} {xs : List Int} {j : Nat} (hj : j + 1 < xs.length) (h : pass k (xs.getD j 0) (xs.getD (j + 1) 0) = false) : chainB k xs = false := by
  cases hc : chainB k xs
  · rfl
  · rw [(chainB_iff k xs).1 hc j hj] at h; cases h

theorem foldAll_append (k a : Int) : ∀ (l m : List Int), foldAll k a (l ++ m) = foldAll k (foldAll k a l) m := by
  intro l
  induction l generalizing a with
  | nil => intro m; rfl
  | cons x l ih => intro m; exact ih _ m
theorem foldAll_take (k a : Int) (l : List Int) (i : Nat) (h : i < l.length) : foldAll k a (l.take (i + 1)) = foldS k (foldAll k a (l.take i)) (l.getD i 0) := by
  rw [List.take_succ_eq_append_getElem h, foldAll_append, List.getD_eq_getElem?_getD, List.getElem?_eq_getElem h]; rfl

/-- The kinds whose order changes nothing. -/
def Comm (k : Int) : Prop := k = 0 ∨ k = 2 ∨ k = 5 ∨ k = 6 ∨ k = 7 ∨ k = 8
def unit (k : Int) : Int := if k = 2 then 1 else if k = 5 then -1 else if k = 7 then -9223372036854775808 else if k = 8 then 9223372036854775807 else 0
theorem B_mul (x y : Int) : B (x * y) = B x * B y := BitVec.ofInt_mul _ _
theorem foldS_0 (a n : Int) : foldS 0 a n = wrap64 (a + n) := rfl
theorem foldS_1 (a n : Int) : foldS 1 a n = wrap64 (a - n) := rfl
theorem foldS_2 (a n : Int) : foldS 2 a n = wrap64 (a * n) := rfl
theorem foldS_5 (a n : Int) : foldS 5 a n = bits .and .i64 a n := rfl
theorem foldS_6 (a n : Int) : foldS 6 a n = bits .or .i64 a n := rfl
theorem foldS_7 (a n : Int) : foldS 7 a n = if n > a then n else a := rfl
theorem foldS_8 (a n : Int) : foldS 8 a n = if n < a then n else a := rfl
theorem foldS_comm {k : Int} (h : Comm k) (a b : Int) : foldS k a b = foldS k b a := by
  rcases h with rfl | rfl | rfl | rfl | rfl | rfl
  · rw [foldS_0, foldS_0, Int.add_comm]
  · rw [foldS_2, foldS_2, Int.mul_comm]
  · rw [foldS_5, foldS_5, bits_and, bits_and, BitVec.and_comm]
  · rw [foldS_6, foldS_6, bits_or, bits_or, BitVec.or_comm]
  · rw [foldS_7, foldS_7]; omega
  · rw [foldS_8, foldS_8]; omega
theorem foldS_assoc {k : Int} (h : Comm k) (a b c : Int) : foldS k (foldS k a b) c = foldS k a (foldS k b c) := by
  rcases h with rfl | rfl | rfl | rfl | rfl | rfl
  · simp only [foldS_0]; unfold wrap64; omega
  · simp only [foldS_2, wrap64_B, B_mul, B_toInt, BitVec.mul_assoc]
  · simp only [foldS_5, bits_and, B_toInt, BitVec.and_assoc]
  · simp only [foldS_6, bits_or, B_toInt, BitVec.or_assoc]
  · simp only [foldS_7]; omega
  · simp only [foldS_8]; omega
theorem foldS_unit {k : Int} (h : Comm k) {a : Int} (ha : I64 a) : foldS k (unit k) a = a := by
  have hw : wrap64 a = a := by rw [wrap64_B, toInt_B ha]
  obtain ⟨h1, h2⟩ := ha
  rcases h with rfl | rfl | rfl | rfl | rfl | rfl
  · rw [foldS_0, show unit 0 = 0 from rfl, Int.zero_add, hw]
  · rw [foldS_2, show unit 2 = 1 from rfl, Int.one_mul, hw]
  · rw [foldS_5, show unit 5 = -1 from rfl, bits_and, show B (-1) = BitVec.allOnes 64 by decide, BitVec.allOnes_and, toInt_B ⟨h1, h2⟩]
  · rw [foldS_6, show unit 6 = 0 from rfl, bits_or, show B 0 = 0#64 by decide, BitVec.zero_or, toInt_B ⟨h1, h2⟩]
  · rw [foldS_7, show unit 7 = -9223372036854775808 from rfl]; omega
  · rw [foldS_8, show unit 8 = 9223372036854775807 from rfl]; omega
theorem foldS_i64 {k : Int} {a n : Int} (ha : I64 a) (hn : I64 n) : I64 (foldS k a n) := by
  unfold foldS
  repeat (first | exact I64_wrap64 _ | exact I64_bits _ _ _ | exact ha | exact hn | split)
theorem foldAll_i64 {k : Int} : ∀ {l : List Int} {a : Int}, I64 a → (∀ x ∈ l, I64 x) → I64 (foldAll k a l)
  | [], _, ha, _ => ha
  | y :: l, a, ha, h => by
    show I64 (foldAll k (foldS k a y) l)
    exact foldAll_i64 (foldS_i64 ha (h y (by simp))) (fun x hx => h x (by simp [hx]))
theorem foldAll_pull {k : Int} (hk : Comm k) (a : Int) : ∀ (l : List Int) (b : Int), foldAll k (foldS k a b) l = foldS k a (foldAll k b l) := by
  intro l
  induction l with
  | nil => intro b; rfl
  | cons x l ih => intro b; show foldAll k (foldS k (foldS k a b) x) l = _; rw [foldS_assoc hk, ih]; rfl
/-- The whole, from nothing on. -/
def whole (k : Int) (l : List Int) : Int := foldAll k (unit k) l
theorem unit_i64 (k : Int) : I64 (unit k) := by unfold unit I64; repeat' split <;> omega
theorem whole_i64 {k : Int} {l : List Int} (h : ∀ x ∈ l, I64 x) : I64 (whole k l) := foldAll_i64 (unit_i64 k) h
theorem foldAll_whole {k : Int} (hk : Comm k) {a : Int} (ha : I64 a) (l : List Int) : foldAll k a l = whole k (a :: l) := by
  show _ = foldAll k (foldS k (unit k) a) l
  rw [foldS_unit hk ha]
theorem whole_cons {k : Int} (hk : Comm k) {a : Int} (ha : I64 a) (l : List Int) : whole k (a :: l) = foldS k a (whole k l) := by
  rw [← foldAll_whole hk ha]
  have : foldS k a (unit k) = a := by rw [foldS_comm hk, foldS_unit hk ha]
  conv => lhs; rw [← this]
  exact foldAll_pull hk a l _
theorem whole_append {k : Int} (hk : Comm k) {l m : List Int} (hl : ∀ x ∈ l, I64 x) : whole k (l ++ m) = foldS k (whole k l) (whole k m) := by
  unfold whole
  rw [foldAll_append]
  have hi := foldAll_i64 (k := k) (unit_i64 k) hl
  have : foldS k (foldAll k (unit k) l) (unit k) = foldAll k (unit k) l := by rw [foldS_comm hk, foldS_unit hk hi]
  conv => lhs; rw [← this]
  exact foldAll_pull hk _ m _
theorem whole_reverse {k : Int} (hk : Comm k) : ∀ {l : List Int}, (∀ x ∈ l, I64 x) → whole k l.reverse = whole k l
  | [], _ => rfl
  | a :: l, h => by
    have hl : ∀ x ∈ l, I64 x := fun x hx => h x (by simp [hx])
    have e : whole k [a] = a := foldS_unit hk (h a (by simp))
    rw [List.reverse_cons, whole_append hk (fun x hx => hl x (by simpa using hx)), whole_reverse hk hl, e, whole_cons hk (h a (by simp)), foldS_comm hk]
theorem whole_comm {k : Int} (hk : Comm k) {l m : List Int} (hl : ∀ x ∈ l, I64 x) (hm : ∀ x ∈ m, I64 x) : whole k (l ++ m) = whole k (m ++ l) := by
  rw [whole_append hk hl, whole_append hk hm, foldS_comm hk]

/-- The value of a commuting kind is the whole, if there is something. -/
theorem evalV_whole {k : Int} (hk : Comm k) {xs : List Int} (h : ∀ x ∈ xs, I64 x) (hx : xs ≠ []) : evalV k xs = whole k xs := by
  have hkn : known k = true := by unfold known; rcases hk with rfl | rfl | rfl | rfl | rfl | rfl <;> rfl
  have h34 : ¬ (k = 3 ∨ k = 4) := by unfold Comm at hk; omega
  match xs, hx with
  | a :: l, _ => unfold evalV; rw [if_pos hkn, ← foldAll_whole hk (h a (by simp))]; exact if_neg h34
theorem evalE_ok {k : Int} (hk : known k = true) {xs : List Int} (hx : xs ≠ []) : evalE k xs = 0 := by
  unfold evalE; rw [if_pos hk, if_neg (fun h => hx h.1)]
theorem chain4_iff (xs : List Int) : chainB 4 xs = true ↔ ∀ x ∈ xs, ∀ y ∈ xs, x = y := by
  rw [chainB_iff]
  have hp : ∀ a b : Int, pass 4 a b = true ↔ a = b := by intro a b; simp [pass]
  constructor
  · intro h
    have hz : ∀ j, j < xs.length → xs.getD j 0 = xs.getD 0 0 := by
      intro j
      induction j with
      | zero => intro _; rfl
      | succ j ih => intro hj; rw [← ih (by omega)]; exact ((hp _ _).1 (h j hj)).symm
    have hm : ∀ x ∈ xs, x = xs.getD 0 0 := by
      intro x hx
      obtain ⟨j, hj, rfl⟩ := List.getElem_of_mem hx
      rw [← hz j hj, List.getD_eq_getElem?_getD, List.getElem?_eq_getElem hj]; rfl
    intro x hx y hy
    rw [hm x hx, hm y hy]
  · intro h j hj
    rw [hp]
    have g : ∀ i, i < xs.length → xs.getD i 0 ∈ xs := by
      intro i hi; rw [List.getD_eq_getElem?_getD, List.getElem?_eq_getElem hi]; exact List.getElem_mem hi
    exact h _ (g _ (by omega)) _ (g _ hj)
theorem chain4_congr {xs ys : List Int} (h : ∀ x, x ∈ xs ↔ x ∈ ys) : chainB 4 xs = chainB 4 ys := by
  rw [Bool.eq_iff_iff, chain4_iff, chain4_iff]
  constructor
  · exact fun k x hx y hy => k x ((h x).2 hx) y ((h y).2 hy)
  · exact fun k x hx y hy => k x ((h x).1 hx) y ((h y).1 hy)

/-- The order changes nothing, but for Sub and Less. -/
theorem evalE_len {k : Int} {xs ys : List Int} (h : xs.length = ys.length) : evalE k xs = evalE k ys := by
  have : xs = [] ↔ ys = [] := by rw [← List.length_eq_zero_iff, ← List.length_eq_zero_iff, h]
  unfold evalE; simp [this]
theorem evalV_order {k : Int} (h1 : k ≠ 1) (h3 : k ≠ 3) {xs ys : List Int} (hl : xs.length = ys.length) (hm : ∀ x, x ∈ xs ↔ x ∈ ys) (hx : ∀ x ∈ xs, I64 x)
    (hw : Comm k → whole k xs = whole k ys) : evalV k xs = evalV k ys := by
  by_cases hk : known k = true
  · match xs, ys, hl with
    | [], [], _ => rfl
    | a :: l, b :: m, _ =>
      by_cases h4 : k = 4
      · subst h4
        unfold evalV
        rw [if_pos hk, if_pos hk]
        show b01 (chainB 4 (a :: l)) = b01 (chainB 4 (b :: m))
        rw [chain4_congr hm]
      · have hc : Comm k := by unfold known at hk; simp at hk; unfold Comm; omega
        rw [evalV_whole hc hx (by simp), evalV_whole hc (fun x h => hx x ((hm x).2 h)) (by simp), hw hc]
  · unfold evalV; rw [if_neg hk, if_neg hk]
theorem evalV_reverse {k : Int} (h1 : k ≠ 1) (h3 : k ≠ 3) {xs : List Int} (hx : ∀ x ∈ xs, I64 x) : evalV k xs.reverse = evalV k xs :=
  (evalV_order h1 h3 (by simp) (by simp) hx (fun hk => (whole_reverse hk hx).symm)).symm
theorem evalV_rotate {k : Int} (h1 : k ≠ 1) (h3 : k ≠ 3) {xs : List Int} (hx : ∀ x ∈ xs, I64 x) (n : Nat) : evalV k (xs.drop n ++ xs.take n) = evalV k xs := by
  have h := List.take_append_drop n xs
  refine (evalV_order h1 h3 (by simp; omega) (fun x => ?_) hx (fun hk => ?_)).symm
  · conv => lhs; rw [← h]
    simp only [List.mem_append]; exact or_comm
  · conv => lhs; rw [← h]
    exact whole_comm hk (fun x hx' => hx x (List.mem_of_mem_take hx')) (fun x hx' => hx x (List.mem_of_mem_drop hx'))
/-- Parts make the whole. -/
theorem evalV_parts {k : Int} (hk : Comm k) {xs : List Int} (hx : ∀ x ∈ xs, I64 x) {n : Nat} (h0 : 0 < n) (hn : n < xs.length) :
    evalV k [evalV k (xs.take n), evalV k (xs.drop n)] = evalV k xs := by
  have ht : ∀ x ∈ xs.take n, I64 x := fun x h => hx x (List.mem_of_mem_take h)
  have hd : ∀ x ∈ xs.drop n, I64 x := fun x h => hx x (List.mem_of_mem_drop h)
  have e1 : xs.take n ≠ [] := by rw [ne_eq, ← List.length_eq_zero_iff, List.length_take]; omega
  have e2 : xs.drop n ≠ [] := by rw [ne_eq, ← List.length_eq_zero_iff, List.length_drop]; omega
  have e3 : xs ≠ [] := by rw [ne_eq, ← List.length_eq_zero_iff]; omega
  rw [evalV_whole hk ht e1, evalV_whole hk hd e2, evalV_whole hk hx e3]
  have i1 := whole_i64 (k := k) ht
  have i2 := whole_i64 (k := k) hd
  rw [evalV_whole hk (by intro x h; simp at h; rcases h with rfl | rfl <;> assumption) (by simp)]
  conv => rhs; rw [← List.take_append_drop n xs, whole_append hk ht]
  rw [whole_cons hk i1, whole_cons hk i2]
  congr 1
  rw [foldS_comm hk]
  exact foldS_unit hk i2
/-- A kind that takes the same thing twice. -/
def Idem (k : Int) : Prop := k = 5 ∨ k = 6
theorem Idem.comm {k : Int} (h : Idem k) : Comm k := by unfold Idem at h; unfold Comm; omega
theorem foldS_idem {k : Int} (h : Idem k) {a : Int} (ha : I64 a) : foldS k a a = a := by
  rcases h with rfl | rfl
  · rw [foldS_5, bits_and, BitVec.and_self, toInt_B ha]
  · rw [foldS_6, bits_or, BitVec.or_self, toInt_B ha]
theorem whole_absorb {k : Int} (h : Idem k) : ∀ {l : List Int}, (∀ x ∈ l, I64 x) → ∀ x ∈ l, foldS k (whole k l) x = whole k l
  | a :: l, hl, x, hx => by
    have ha : I64 a := hl a (by simp)
    have hl' : ∀ x ∈ l, I64 x := fun x hx => hl x (by simp [hx])
    rw [whole_cons h.comm ha]
    rcases List.mem_cons.1 hx with rfl | hx
    · rw [foldS_comm h.comm, ← foldS_assoc h.comm, foldS_idem h ha]
    · rw [foldS_assoc h.comm, whole_absorb h hl' x hx]
theorem evalV_absorb {k : Int} (h : Idem k) {l : List Int} (hl : ∀ x ∈ l, I64 x) {x : Int} (hx : x ∈ l) : foldS k (evalV k l) x = evalV k l := by
  rw [evalV_whole h.comm hl (List.ne_nil_of_mem hx)]; exact whole_absorb h hl x hx
theorem evalV_twice {k : Int} (h : Idem k) {l : List Int} (hl : ∀ x ∈ l, I64 x) (hne : l ≠ []) : evalV k (l ++ l) = evalV k l := by
  rw [evalV_whole h.comm hl hne, evalV_whole h.comm (by intro x hx; simp at hx; exact hl x hx) (by simp [hne]), whole_append h.comm hl, foldS_idem h (whole_i64 hl)]

theorem getD_take (xs : List Int) {i j : Nat} (h : j < i) : (xs.take i).getD j 0 = xs.getD j 0 := by
  rw [List.getD_eq_getElem?_getD, List.getD_eq_getElem?_getD, List.getElem?_take, if_pos h]
theorem chainB_take (k : Int) (xs : List Int) (i : Nat) (hi : i < xs.length) :
    chainB k (xs.take (i + 1)) = (chainB k (xs.take i) && (i == 0 || pass k (xs.getD (i - 1) 0) (xs.getD i 0))) := by
  rw [Bool.eq_iff_iff, Bool.and_eq_true, Bool.or_eq_true, chainB_iff, chainB_iff, List.length_take, List.length_take, Nat.min_eq_left (by omega), Nat.min_eq_left (by omega)]
  constructor
  · intro h
    refine ⟨fun j hj => ?_, ?_⟩
    · have := h j (by omega)
      rw [getD_take _ (by omega), getD_take _ (by omega)] at this
      rw [getD_take _ (by omega), getD_take _ (by omega)]; exact this
    · by_cases h0 : i = 0
      · exact .inl (by simp [h0])
      · have := h (i - 1) (by omega)
        rw [getD_take _ (by omega), getD_take _ (by omega), show i - 1 + 1 = i by omega] at this
        exact .inr this
  · rintro ⟨h1, h2⟩ j hj
    rw [getD_take _ (by omega), getD_take _ (by omega)]
    by_cases hji : j + 1 < i
    · have := h1 j hji
      rw [getD_take _ (by omega), getD_take _ (by omega)] at this
      exact this
    · obtain rfl : i = j + 1 := by omega
      rcases h2 with h2 | h2
      · simp at h2
      · exact h2
theorem chain4_take (xs : List Int) (i : Nat) (hi : i < xs.length) : chainB 4 (xs.take (i + 1)) = (chainB 4 (xs.take i) && (xs.getD i 0 == xs.getD 0 0)) := by
  rw [chainB_take 4 xs i hi]
  cases hc : chainB 4 (xs.take i)
  · rfl
  · have hp : ∀ a b : Int, pass 4 a b = true ↔ a = b := by intro a b; simp [pass]
    rw [Bool.true_and, Bool.true_and]
    by_cases h0 : i = 0
    · subst h0; simp
    · have e : xs.getD (i - 1) 0 = xs.getD 0 0 := by
        have g : ∀ j, j < i → xs.getD j 0 ∈ xs.take i := by
          intro j hj
          rw [← getD_take xs hj, List.getD_eq_getElem?_getD, List.getElem?_eq_getElem (by rw [List.length_take]; omega)]
          exact List.getElem_mem _
        exact (chain4_iff _).1 hc _ (g _ (by omega)) _ (g _ (by omega))
      rw [Bool.eq_iff_iff, Bool.or_eq_true, hp, e]
      rw [beq_iff_eq, beq_iff_eq]
      exact ⟨fun h => h.elim (fun x => absurd x h0) Eq.symm, fun h => .inr h.symm⟩
theorem pass3 (a b : Int) : pass 3 a b = decide (a < b) := by
  rw [Bool.eq_iff_iff]; simp [pass]
/-- Sums and differences, as bits. -/
theorem B_wrap (x : Int) : B (wrap64 x) = B x := B_wrap64 x
theorem B_add (x y : Int) : B (x + y) = B x + B y := BitVec.ofInt_add _ _
theorem B_sub (x y : Int) : B (x - y) = B x - B y := by
  rw [Int.sub_eq_add_neg, B_add]; unfold B; rw [BitVec.ofInt_neg, BitVec.sub_eq_add_neg]
def sumB : List Int → BitVec 64
  | [] => 0
  | a :: l => B a + sumB l
theorem B_sum : ∀ (l : List Int) (a : Int), B (foldAll 0 a l) = B a + sumB l
  | [], a => by show B a = B a + 0; simp
  | x :: l, a => by
    show B (foldAll 0 (foldS 0 a x) l) = B a + (B x + sumB l)
    rw [B_sum l, foldS_0, B_wrap, B_add, BitVec.add_assoc]
theorem B_less : ∀ (l : List Int) (a : Int), B (foldAll 1 a l) = B a - sumB l
  | [], a => by show B a = B a - 0; simp
  | x :: l, a => by
    show B (foldAll 1 (foldS 1 a x) l) = B a - (B x + sumB l)
    rw [B_less l, foldS_1, B_wrap, B_sub]
    simp only [BitVec.sub_eq_add_neg, BitVec.neg_add, BitVec.add_assoc]
theorem sub_law {a : Int} {l : List Int} (ha : I64 a) (hl : ∀ x ∈ l, I64 x) : wrap64 (a - wrap64 (foldAll 0 0 (a :: l) - a)) = foldAll 1 a l := by
  refine B_inj (I64_wrap64 _) (foldAll_i64 ha hl) ?_
  rw [B_wrap, B_sub, B_wrap, B_sub, B_sum, B_less]
  show B a - (B 0 + (B a + sumB l) - B a) = _
  rw [show B 0 = 0#64 by decide]
  congr 1
  rw [BitVec.zero_add, BitVec.add_comm, BitVec.add_sub_cancel]
/-- The first one once more changes nothing. -/
theorem most_again (a : Int) (l : List Int) : foldAll 7 a (a :: l) = foldAll 7 a l := by
  show foldAll 7 (foldS 7 a a) l = _
  rw [foldS_7, ite_self]
theorem least_again (a : Int) (l : List Int) : foldAll 8 a (a :: l) = foldAll 8 a l := by
  show foldAll 8 (foldS 8 a a) l = _
  rw [foldS_8, ite_self]
end Go.Proofs.Ytkaokhpaabfhmaa
