/- prog.Addr. -/
import Derived.Test.YtkaokhpaabfhmaaP2
import Derived.Deep.DeepCutAuto
namespace Go.Proofs.Ytkaokhpaabfhmaa
open Go.RowKit

/-- A configuration and an instruction in boxes. -/
def Two (w' : World) (b1 b2 : Nat) (c : Conf) (x : Ins) (v : Value) : Prop :=
  (w'.cell? ⟨b1, 0, none⟩ = some (.int .i64 c.r) ∧ w'.cell? ⟨b1, 1, none⟩ = some (.int .i64 c.o) ∧ w'.cell? ⟨b1, 2, none⟩ = some (.int .i64 c.s) ∧ w'.cell? ⟨b1, 3, none⟩ = some (.int .i64 c.wd) ∧
    w'.cell? ⟨b1, 4, none⟩ = some (.int .i64 c.th) ∧ w'.cell? ⟨b1, 5, none⟩ = some (.int .i64 c.sl) ∧ w'.cell? ⟨b1, 6, none⟩ = some (.int .i64 c.rg) ∧ w'.cell? ⟨b1, 7, none⟩ = some (.int .i64 c.lk) ∧
    w'.cell? ⟨b1, 8, none⟩ = some (.int .i64 c.un) ∧ w'.cell? ⟨b1, 9, none⟩ = some (.int .i64 c.es) ∧ w'.cell? ⟨b1, 10, none⟩ = some (.int .i64 c.tk) ∧ w'.cell? ⟨b1, 11, none⟩ = some (.int .i64 c.po)) ∧
  (w'.cell? ⟨b2, 0, none⟩ = some (.int .i64 x.k) ∧ w'.cell? ⟨b2, 1, none⟩ = some (.int .i64 x.a) ∧ w'.cell? ⟨b2, 2, none⟩ = some (.int .i64 x.b) ∧ w'.cell? ⟨b2, 3, none⟩ = some (.int .i64 x.c) ∧ w'.cell? ⟨b2, 4, none⟩ = some v)
/-- Boxes of a configuration and of an instruction, just laid. -/
theorem two_boxes (w : World) (c : Conf) (x : Ins) (v : Value) :
    (BoxConf ((w.alloc (.cells #[.int .i64 c.r, .int .i64 c.o, .int .i64 c.s, .int .i64 c.wd, .int .i64 c.th, .int .i64 c.sl, .int .i64 c.rg, .int .i64 c.lk, .int .i64 c.un, .int .i64 c.es, .int .i64 c.tk, .int .i64 c.po] 23)).alloc (.cells #[.int .i64 x.k, .int .i64 x.a, .int .i64 x.b, .int .i64 x.c, v] 67)) w.heap.size c) ∧
    ((w.alloc (.cells #[.int .i64 c.r, .int .i64 c.o, .int .i64 c.s, .int .i64 c.wd, .int .i64 c.th, .int .i64 c.sl, .int .i64 c.rg, .int .i64 c.lk, .int .i64 c.un, .int .i64 c.es, .int .i64 c.tk, .int .i64 c.po] 23)).alloc (.cells #[.int .i64 x.k, .int .i64 x.a, .int .i64 x.b, .int .i64 x.c, v] 67)).heap[w.heap.size + 1]? = some (.cells #[.int .i64 x.k, .int .i64 x.a, .int .i64 x.b, .int .i64 x.c, v] 67 (0, 0)) := by
  refine ⟨alloc_conf' _ _ _ (BoxConf.mk w c) _, ?_⟩
  have h2 := heap_alloc_new (w.alloc (.cells #[.int .i64 c.r, .int .i64 c.o, .int .i64 c.s, .int .i64 c.wd, .int .i64 c.th, .int .i64 c.sl, .int .i64 c.rg, .int .i64 c.lk, .int .i64 c.un, .int .i64 c.es, .int .i64 c.tk, .int .i64 c.po] 23)) (.cells #[.int .i64 x.k, .int .i64 x.a, .int .i64 x.b, .int .i64 x.c, v] 67)
  rw [show (w.alloc (.cells #[.int .i64 c.r, .int .i64 c.o, .int .i64 c.s, .int .i64 c.wd, .int .i64 c.th, .int .i64 c.sl, .int .i64 c.rg, .int .i64 c.lk, .int .i64 c.un, .int .i64 c.es, .int .i64 c.tk, .int .i64 c.po] 23)).heap.size = w.heap.size + 1 by simp] at h2
  exact h2
theorem Two.of {w : World} {b1 b2 : Nat} {c : Conf} {x : Ins} {v : Value} (h1 : BoxConf w b1 c) (h2 : w.heap[b2]? = some (.cells #[.int .i64 x.k, .int .i64 x.a, .int .i64 x.b, .int .i64 x.c, v] 67 (0, 0))) : Two w b1 b2 c x v := ⟨h1.all, box_ins h2⟩

set_option maxRecDepth 100000 in
set_option maxHeartbeats 2000000 in
theorem addr_parts (c : Conf) (k a b d : Int) (l : List Int) (v : Value) (A : Option Addr) (n cap : Nat) (regs : List Int) (F : Nat → Prop) (w : World) (hr : Flat w F A n regs) (hn : n ≤ 20000) (hc : d = -1 ∨ (0 ≤ d ∧ d < n)) (hb : I64 b) :
    Calls Try.prog 58 #[c.val, .agg #[.int .i64 k, .int .i64 a, .int .i64 b, .int .i64 d, v], .slice A n cap] w fun e w' => e = .returned (.int .i64 (addrV c ⟨k, a, b, d, l⟩ regs)) ∧ Fr (fun _ => False) w w' := by
  obtain ⟨r, hrr⟩ : ∃ r, r = addrV c ⟨k, a, b, d, l⟩ regs := ⟨_, rfl⟩
  rw [← hrr]
  unfold addrV at hrr
  dsimp only at hrr
  have hlen := hr.len
  have hwb := c.words_bounds
  have hw64 : I64 c.words := by unfold I64; omega
  have HW := Lib.hid (words_calls c)
  by_cases h1 : d = -1
  · subst h1
    rw [if_pos rfl] at hrr
    have HR := Lib.hid hrr
    have HWR := Lib.hid (fun w => wrapC b c.words w hb hw64)
    have HT := Lib.hid (two_boxes w c ⟨k, a, b, -1, l⟩ v)
    have hfa := (Fr.refl (fun _ => False) w).alloc (.cells #[.int .i64 c.r, .int .i64 c.o, .int .i64 c.s, .int .i64 c.wd, .int .i64 c.th, .int .i64 c.sl, .int .i64 c.rg, .int .i64 c.lk, .int .i64 c.un, .int .i64 c.es, .int .i64 c.tk, .int .i64 c.po] 23)
    have HFA := Lib.hid (hfa.alloc (.cells #[.int .i64 k, .int .i64 a, .int .i64 b, .int .i64 (-1), v] 67))
    dsimp only at HT
    clear hrr hc hr hfa
    unfold Conf.val at *
    go_enter Try.func58, Try.ntmps58
    go_upto_region 1 with fail
    generalize (w.alloc (.cells #[.int .i64 c.r, .int .i64 c.o, .int .i64 c.s, .int .i64 c.wd, .int .i64 c.th, .int .i64 c.sl, .int .i64 c.rg, .int .i64 c.lk, .int .i64 c.un, .int .i64 c.es, .int .i64 c.tk, .int .i64 c.po] 23)).alloc (.cells #[.int .i64 k, .int .i64 a, .int .i64 b, .int .i64 (-1), v] 67) = W0 at *
    have HK := Lib.hid (fun w' (h : Fr (fun _ => False) W0 w') => Two.of (x := ⟨k, a, b, -1, l⟩) (HT.out.1.frame h (fun x => x)) (h.heap HT.out.2 (fun x => x)))
    obtain ⟨_, q0, q1, q2, q3, q4⟩ := HK.out W0 (Fr.refl _ _)
    unfold Two at HK
    dsimp only at HK q0 q1 q2 q3 q4
    go_wp2
    go_region_held3 (fun w' => (w'.cell? ⟨w.heap.size, 0, none⟩ = some (.int .i64 c.r) ∧ w'.cell? ⟨w.heap.size, 1, none⟩ = some (.int .i64 c.o) ∧ w'.cell? ⟨w.heap.size, 2, none⟩ = some (.int .i64 c.s) ∧ w'.cell? ⟨w.heap.size, 3, none⟩ = some (.int .i64 c.wd) ∧ w'.cell? ⟨w.heap.size, 4, none⟩ = some (.int .i64 c.th) ∧ w'.cell? ⟨w.heap.size, 5, none⟩ = some (.int .i64 c.sl) ∧ w'.cell? ⟨w.heap.size, 6, none⟩ = some (.int .i64 c.rg) ∧ w'.cell? ⟨w.heap.size, 7, none⟩ = some (.int .i64 c.lk) ∧ w'.cell? ⟨w.heap.size, 8, none⟩ = some (.int .i64 c.un) ∧ w'.cell? ⟨w.heap.size, 9, none⟩ = some (.int .i64 c.es) ∧ w'.cell? ⟨w.heap.size, 10, none⟩ = some (.int .i64 c.tk) ∧ w'.cell? ⟨w.heap.size, 11, none⟩ = some (.int .i64 c.po)) ∧ (w'.cell? ⟨w.heap.size + 1, 0, none⟩ = some (.int .i64 k) ∧ w'.cell? ⟨w.heap.size + 1, 1, none⟩ = some (.int .i64 a) ∧ w'.cell? ⟨w.heap.size + 1, 2, none⟩ = some (.int .i64 b) ∧ w'.cell? ⟨w.heap.size + 1, 3, none⟩ = some (.int .i64 (-1)) ∧ w'.cell? ⟨w.heap.size + 1, 4, none⟩ = some v))
      (first | exact HK.out _ hk1 | exact HK.out _ (Fr.refl _ _).drew) (first
      | (go_at_call 23; (with_reducible refine (HW.out _).mono ?_); rintro ex w1 ⟨rfl, hf1⟩; have hk1 := (Fr.refl (fun _ => False) W0).drew.trans hf1)
      | (go_at_call 68; (with_reducible refine (HWR.out _).mono ?_); rintro ex w2 ⟨rfl, rfl⟩))
    go_wp2
    go_ret
    exact ⟨by rw [HR.out]; rfl, HFA.out.trans hk1⟩
  · obtain ⟨hc0, hcn⟩ := hc.resolve_left h1
    obtain ⟨i, rfl⟩ := Int.eq_ofNat_of_zero_le hc0
    have hin : i < n := by omega
    rw [if_neg h1, if_neg (by omega), Int.toNat_natCast] at hrr
    have HR := Lib.hid hrr
    have HT := Lib.hid (two_boxes w c ⟨k, a, b, (i : Int), l⟩ v)
    have hfa := (Fr.refl (fun _ => False) w).alloc (.cells #[.int .i64 c.r, .int .i64 c.o, .int .i64 c.s, .int .i64 c.wd, .int .i64 c.th, .int .i64 c.sl, .int .i64 c.rg, .int .i64 c.lk, .int .i64 c.un, .int .i64 c.es, .int .i64 c.tk, .int .i64 c.po] 23)
    have HFA := Lib.hid (hfa.alloc (.cells #[.int .i64 k, .int .i64 a, .int .i64 b, .int .i64 (i : Int), v] 67))
    have HFL := Lib.hid (hr.frame HFA.out (fun _ _ x => x.elim))
    obtain ⟨ad, rfl, _, hcell⟩ := HFL.out.at_ (by omega)
    have HCL := Lib.hid (hcell i hin)
    dsimp only at HT
    have hd : ((i : Int) == -1) = false := by simp
    have hd0 : decide ((i : Int) < 0) = false := by simp
    have hd1 : decide ((n : Int) ≤ i) = false := by simp; omega
    generalize hg : regs.getD i 0 = g at *
    have HWR := Lib.hid (fun w => wrapC (wrap64 (b + g)) c.words w (I64_wrap64 _) hw64)
    have hsum : IntKind.i64.wrap (b + g) = wrap64 (b + g) := iw _
    clear hrr hc h1 hcell hc0 hcn hr hfa hg
    unfold Conf.val at *
    go_enter Try.func58, Try.ntmps58
    go_upto_region 1 with fail
    generalize (w.alloc (.cells #[.int .i64 c.r, .int .i64 c.o, .int .i64 c.s, .int .i64 c.wd, .int .i64 c.th, .int .i64 c.sl, .int .i64 c.rg, .int .i64 c.lk, .int .i64 c.un, .int .i64 c.es, .int .i64 c.tk, .int .i64 c.po] 23)).alloc (.cells #[.int .i64 k, .int .i64 a, .int .i64 b, .int .i64 (i : Int), v] 67) = W0 at *
    have HK := Lib.hid (fun w' (h : Fr (fun _ => False) W0 w') => And.intro (Two.of (x := ⟨k, a, b, (i : Int), l⟩) (HT.out.1.frame h (fun x => x)) (h.heap HT.out.2 (fun x => x))) (h.cell HCL.out (fun x => x)))
    obtain ⟨⟨_, q0, q1, q2, q3, q4⟩, _⟩ := HK.out W0 (Fr.refl _ _)
    unfold Two at HK
    dsimp only at HK q0 q1 q2 q3 q4
    go_wp2
    go_region_held3 (fun w' => ((w'.cell? ⟨w.heap.size, 0, none⟩ = some (.int .i64 c.r) ∧ w'.cell? ⟨w.heap.size, 1, none⟩ = some (.int .i64 c.o) ∧ w'.cell? ⟨w.heap.size, 2, none⟩ = some (.int .i64 c.s) ∧ w'.cell? ⟨w.heap.size, 3, none⟩ = some (.int .i64 c.wd) ∧ w'.cell? ⟨w.heap.size, 4, none⟩ = some (.int .i64 c.th) ∧ w'.cell? ⟨w.heap.size, 5, none⟩ = some (.int .i64 c.sl) ∧ w'.cell? ⟨w.heap.size, 6, none⟩ = some (.int .i64 c.rg) ∧ w'.cell? ⟨w.heap.size, 7, none⟩ = some (.int .i64 c.lk) ∧ w'.cell? ⟨w.heap.size, 8, none⟩ = some (.int .i64 c.un) ∧ w'.cell? ⟨w.heap.size, 9, none⟩ = some (.int .i64 c.es) ∧ w'.cell? ⟨w.heap.size, 10, none⟩ = some (.int .i64 c.tk) ∧ w'.cell? ⟨w.heap.size, 11, none⟩ = some (.int .i64 c.po)) ∧ (w'.cell? ⟨w.heap.size + 1, 0, none⟩ = some (.int .i64 k) ∧ w'.cell? ⟨w.heap.size + 1, 1, none⟩ = some (.int .i64 a) ∧ w'.cell? ⟨w.heap.size + 1, 2, none⟩ = some (.int .i64 b) ∧ w'.cell? ⟨w.heap.size + 1, 3, none⟩ = some (.int .i64 (i : Int)) ∧ w'.cell? ⟨w.heap.size + 1, 4, none⟩ = some v)) ∧ w'.cell? (ad.add i) = some (.int .i64 g))
      (first | exact HK.out _ hk1 | exact HK.out _ (Fr.refl _ _).drew) (first
      | (go_at_call 23; (with_reducible refine (HW.out _).mono ?_); rintro ex w1 ⟨rfl, hf1⟩; have hk1 := (Fr.refl (fun _ => False) W0).drew.trans hf1)
      | (go_at_call 68; (with_reducible refine (HWR.out _).mono ?_); rintro ex w2 ⟨rfl, rfl⟩))
    go_wp2
    go_ret
    exact ⟨by rw [HR.out]; rfl, HFA.out.trans hk1⟩
theorem addr_calls (c : Conf) (x : Ins) (v : Value) (A : Option Addr) (n cap : Nat) (regs : List Int) (F : Nat → Prop) (w : World) (hr : Flat w F A n regs) (hn : n ≤ 20000) (hc : x.c = -1 ∨ (0 ≤ x.c ∧ x.c < n)) (hb : I64 x.b) :
    Calls Try.prog 58 #[c.val, .agg #[.int .i64 x.k, .int .i64 x.a, .int .i64 x.b, .int .i64 x.c, v], .slice A n cap] w fun e w' => e = .returned (.int .i64 (addrV c x regs)) ∧ Fr (fun _ => False) w w' :=
  addr_parts c x.k x.a x.b x.c x.l v A n cap regs F w hr hn hc hb
end Go.Proofs.Ytkaokhpaabfhmaa
