/- KernelTime, part 6 of 28: contracts of the functions that it reaches, and the laws that they need, merged and shortened (from my texts XMem, XValA, XIdx, XSch, XRes). -/
import Derived.Test.YtmnaleaghfbclaaGreatDoorMgKernelTimeA
import Derived.Test.YtmnaleaghfbclaaGreatDoorMgKernelTimeD
import Derived.Test.YtmnaleaghfbclaaGreatDoorMgKernelTimeE
namespace Go.Proofs.YtmnaleaghfbclaaGreatDoor
set_option linter.unusedVariables false
set_option linter.unusedSimpArgs false
set_option maxHeartbeats 8000000
section
open Go.RowKit
def memE (l : List UInt8) (a n : Int) : Int := if 512 < l.length then 3 else if a < 0 ∨ n < 0 ∨ (l.length : Int) < a ∨ (l.length : Int) - a < n then 180 else 0
theorem memE_there {l : List UInt8} {a n : Nat} : memE l a n = 0 ↔ there l a n = true := by
 rw [there_iff]
 unfold memE
 split
 ·constructor
  ·intro h; omega
  ·intro h; omega
 ·split
  ·constructor
   ·intro h; omega
   ·intro h; omega
  ·constructor
   ·intro h; omega
   ·intro h; rfl
set_option maxRecDepth 100000 in
theorem within_err (A : Option Addr) (l : List UInt8) (c : Nat) (a n : Int) (F : Value) (w : World) (ha : I64 a) (hn : I64 n) (hll : l.length ≤ 140737488351232) (h : memE l a n ≠ 0) :
  Calls Tryz.prog 91 #[.slice A l.length c, .int .i64 a, .int .i64 n, F] w fun e w' => e = .returned (.tuple #[.slice none 0 0, .int .i64 (memE l a n)]) ∧ w = w' := by
 unfold I64 at ha hn
 by_cases h1 : 512 < l.length
 ·have b1 : decide ((l.length : Int) > 512) = true := by simp; omega
  have he : memE l a n = 3 := by unfold memE; rw [if_pos h1]
  rw [he]
  clear h he
  go_enter Tryz.func91, Tryz.ntmps91
  go_wp2_with fail
  go_ret2
  exact ⟨rfl, rfl⟩
 ·have b1 : decide ((l.length : Int) > 512) = false := by simp; omega
  have hc : a < 0 ∨ n < 0 ∨ (l.length : Int) < a ∨ (l.length : Int) - a < n := by
   unfold memE at h
   rw [if_neg h1] at h
   by_cases hc : a < 0 ∨ n < 0 ∨ (l.length : Int) < a ∨ (l.length : Int) - a < n
   ·exact hc
   ·rw [if_neg hc] at h; exact absurd rfl h
  have he : memE l a n = 180 := by unfold memE; rw [if_neg h1, if_pos hc]
  rw [he]
  clear h he h1
  by_cases h2 : a < 0
  ·have b2 : decide (a < 0) = true := by simpa using h2
   clear hc
   go_enter Tryz.func91, Tryz.ntmps91
   go_wp2_with fail
   go_ret2
   exact ⟨rfl, rfl⟩
  have b2 : decide (a < 0) = false := by simpa using h2
  by_cases h3 : n < 0
  ·have b3 : decide (n < 0) = true := by simpa using h3
   clear hc
   go_enter Tryz.func91, Tryz.ntmps91
   go_wp2_with fail
   go_ret2
   exact ⟨rfl, rfl⟩
  have b3 : decide (n < 0) = false := by simpa using h3
  by_cases h4 : (l.length : Int) < a
  ·have b4 : decide (a > (l.length : Int)) = true := by simpa using h4
   clear hc
   go_enter Tryz.func91, Tryz.ntmps91
   go_wp2_with fail
   go_ret2
   exact ⟨rfl, rfl⟩
  have b4 : decide (a > (l.length : Int)) = false := by simpa using h4
  have b5 : decide (n > (l.length : Int) - a) = true := by simp; omega
  clear hc
  go_enter Tryz.func91, Tryz.ntmps91
  go_wp2_with fail
  go_ret2
  exact ⟨rfl, rfl⟩
set_option maxRecDepth 100000 in
theorem within_read0 (b o : Nat) (l : List UInt8) (c a : Nat) (w : World) (hc : l.length ≤ c) (hcm : c ≤ maxLen) (ht : there l a 0 = true)  :
  Calls Tryz.prog 91 #[.slice (some ⟨b, o, none⟩) l.length c, .int .i64 a, .int .i64 0, .func (.func 82) #[] #[]] w fun e w' => ∃ A2 c2, e = .returned (.tuple #[.slice A2 0 c2, .int .i64 0]) ∧ c2 ≤ maxLen ∧ Chg Non w w' := by
 obtain ⟨h1, h2⟩ := there_yes ht
 have b1 : decide ((l.length : Int) > 512) = false := by simp; omega
 have b2 : decide ((a : Int) > (l.length : Int)) = false := by simp; omega
 have b3 : decide ((0 : Int) > (l.length : Int) - (a : Int)) = false := by simp; omega
 clear ht
 have HC := Lib.hid (fun A W => SlClone_ok A [] 0 W (Rd.nil _ _) (by simp))
 go_enter Tryz.func91, Tryz.ntmps91
 go_wp2_with fail
 refine (HC.out _ _).mono ?_
 rintro e w1 ⟨A2, c2, rfl, q1, q2, q3, q4⟩
 have Q4 := Lib.hid q4
 clear q3 q4
 go_wp2_with fail
 go_ret2
 exact ⟨A2, c2, rfl, q2, Q4.out⟩
set_option maxRecDepth 100000 in
theorem within_write0 (b o : Nat) (l : List UInt8) (c a : Nat) (w : World) (hc : l.length ≤ c) (hcm : c ≤ maxLen) (ht : there l a 0 = true) (z : List UInt8) (p1 p2 p3 : Value) (hF : ∀ v W, Chg Non w W → Calls Tryz.prog 92 #[v, p1, p2, p3] W (RetB W z)) :
  Calls Tryz.prog 91 #[.slice (some ⟨b, o, none⟩) l.length c, .int .i64 a, .int .i64 0, .func (.func 92) #[] #[p1, p2, p3]] w fun e w' => ∃ A2 c2, e = .returned (.tuple #[.slice A2 z.length c2, .int .i64 0]) ∧ z.length ≤ c2 ∧ c2 ≤ maxLen ∧ Own w.heap.size w' A2 z ∧ Chg Non w w' := by
 obtain ⟨h1, h2⟩ := there_yes ht
 have b1 : decide ((l.length : Int) > 512) = false := by simp; omega
 have b2 : decide ((a : Int) > (l.length : Int)) = false := by simp; omega
 have b3 : decide ((0 : Int) > (l.length : Int) - (a : Int)) = false := by simp; omega
 have HF := Lib.hid hF
 clear ht hF
 go_enter Tryz.func91, Tryz.ntmps91
 go_wp2_with fail
 refine (HF.out _ _ (Chg.refl _ _)).mono ?_
 rintro e w1 ⟨A2, c2, rfl, q1, q2, q3, q4⟩
 have Q3 := Lib.hid q3
 have Q4 := Lib.hid q4
 clear q3 q4
 go_wp2_with fail
 go_ret2
 exact ⟨A2, c2, rfl, q1, q2, Q3.out, Q4.out⟩
set_option maxRecDepth 100000 in
theorem mread_ok (A : Option Addr) (l : List UInt8) (c a n : Nat) (w : World) (hr : Rd w A l) (h0 : 0 < l.length) (hc : l.length ≤ c) (hcm : c ≤ maxLen) (ht : there l a n = true) :
  Calls Tryz.prog 232 #[.slice A l.length c, .int .i64 a, .int .i64 n] w fun e w' => ∃ A2 c2, e = .returned (.tuple #[.slice A2 n c2, .int .i64 0]) ∧ n ≤ c2 ∧ c2 ≤ maxLen ∧ Own w.heap.size w' A2 (cut l a n) ∧ Chg Non w w' := by
 by_cases hn : 0 < n
 ·exact Read_yes A l c a n w hr hc hcm hn ht
 obtain rfl : n = 0 := by omega
 obtain ⟨b, o, rfl, _⟩ := hr.at_ h0
 have HW := Lib.hid (within_read0 b o l c a w hc hcm ht)
 clear hr ht
 go_enter Tryz.func232, Tryz.ntmps232
 go_wp2_with fail
 refine HW.out.mono ?_
 rintro e w1 ⟨A2, c2, rfl, q2, q4⟩
 have Q4 := Lib.hid q4
 clear q4
 go_wp2_with fail
 go_ret2
 exact ⟨A2, c2, rfl, Nat.zero_le _, q2, by unfold cut; rw [List.take_zero]; exact Own.nil _ _ _, Q4.out⟩
set_option maxRecDepth 100000 in
theorem mread_no (A : Option Addr) (l : List UInt8) (c a n : Nat) (w : World) (ha : a < 4294967296) (hn : n < 4294967296) (hll : l.length ≤ 140737488351232) (ht : there l a n = false) :
  Calls Tryz.prog 232 #[.slice A l.length c, .int .i64 a, .int .i64 n] w fun e w' => e = .returned (.tuple #[.slice none 0 0, .int .i64 (memE l a n)]) ∧ w = w' := by
 have hm : memE l a n ≠ 0 := fun e => by rw [memE_there] at e; rw [e] at ht; cases ht
 have HW := Lib.hid (fun F => within_err A l c a n F w (by unfold I64; omega) (by unfold I64; omega) hll hm)
 obtain ⟨r, hr⟩ : ∃ r, memE l a n = r := ⟨_, rfl⟩
 rw [hr] at HW ⊢
 clear ht hm hr
 go_enter Tryz.func232, Tryz.ntmps232
 go_wp2_with fail
 refine (HW.out _).mono ?_
 rintro e w1 ⟨rfl, rfl⟩
 go_wp2_with fail
 go_ret2
 exact ⟨rfl, rfl⟩
set_option maxRecDepth 100000 in
theorem mwrite_no (A : Option Addr) (l : List UInt8) (c : Nat) (a : Int) (B : Option Addr) (n cy : Nat) (w : World) (ha : I64 a) (hn : n ≤ 140737488351232) (hll : l.length ≤ 140737488351232) (hm : memE l a n ≠ 0) :
  Calls Tryz.prog 52 #[.slice A l.length c, .int .i64 a, .slice B n cy] w fun e w' => e = .returned (.tuple #[.slice none 0 0, .int .i64 (memE l a n)]) ∧ Chg Non w w' := by
 have HW := Lib.hid (fun F W => within_err A l c a n F W ha (by unfold I64; omega) hll hm)
 obtain ⟨r, hr⟩ : ∃ r, memE l a n = r := ⟨_, rfl⟩
 rw [hr] at HW ⊢
 clear hm hr
 go_enter Tryz.func52, Tryz.ntmps52
 go_wp2_with fail
 refine (HW.out _ _).mono ?_
 rintro e w1 ⟨rfl, rfl⟩
 go_wp2_with fail
 go_ret2
 exact ⟨rfl, (((Chg.refl Non w).alloc _).alloc _).alloc _⟩
set_option maxRecDepth 100000 in
theorem mwrite_ok (A : Option Addr) (l : List UInt8) (c a : Nat) (B : Option Addr) (y : List UInt8) (cy : Nat) (w : World) (hr : Rd w A l) (hry : Rd w B y) (h0 : 0 < l.length) (hc : l.length ≤ c) (hcm : c ≤ maxLen) (ht : there l a y.length = true) :
  Calls Tryz.prog 52 #[.slice A l.length c, .int .i64 a, .slice B y.length cy] w fun e w' => ∃ A2 c2, e = .returned (.tuple #[.slice A2 l.length c2, .int .i64 0]) ∧ l.length ≤ c2 ∧ c2 ≤ maxLen ∧ Own w.heap.size w' A2 (put l a y) ∧ Chg Non w w' := by
 by_cases hn : 0 < y.length
 ·exact Write_yes A l c a B y cy w hr hry hc hcm hn ht
 obtain rfl : y = [] := List.eq_nil_of_length_eq_zero (by omega)
 obtain ⟨h1, h2⟩ := there_yes ht
 obtain ⟨b, o, rfl, _⟩ := hr.at_ (by omega)
 have HR := Lib.hid hr
 have hpl : (put l a []).length = l.length := put_len h2
 have HPl := Lib.hid hpl
 have HT := Lib.hid ht
 clear hr hry ht hpl
 go_enter Tryz.func52, Tryz.ntmps52
 go_wp2_with fail
 have hg0 : Chg Non w (((w.alloc (.cells #[.slice (some ⟨b, o, none⟩) l.length c] 50)).alloc (.cells #[.int .i64 a] 3)).alloc (.cells #[.slice B 0 cy] 50)) := (((Chg.refl Non w).alloc _).alloc _).alloc _
 have HG0 := Lib.hid hg0
 have hw := within_write0 b o l c a _ hc hcm HT.out (put l a []) (.pointer (some ⟨w.heap.size, 0, none⟩)) (.pointer (some ⟨w.heap.size + 1, 0, none⟩)) (.pointer (some ⟨w.heap.size + 1 + 1, 0, none⟩)) (fun v W hg => write1_ok b o l c a B [] cy w.heap.size (w.heap.size + 1) (w.heap.size + 1 + 1) v W ((HR.out.non HG0.out).non hg) (Rd.nil _ _) hc hcm h1 h2 (hg.cell_some (row_cell (al_3_0 w _ _ _) rfl) (fun e => e)) (hg.cell_some (row_cell (al_3_1 w _ _ _) rfl) (fun e => e)) (hg.cell_some (row_cell (al_3_2 w _ _ _) rfl) (fun e => e)))
 rw [HPl.out] at hw
 have HW := Lib.hid hw
 clear hg0 hw
 refine HW.out.mono ?_
 rintro e w1 ⟨A2, c2, rfl, q1, q2, q3, q4⟩
 have Q3 := Lib.hid (q3.mono (show w.heap.size ≤ _ by simp; omega))
 have Q4 := Lib.hid (HG0.out.then_non q4)
 clear q3 q4
 go_wp2_with fail
 go_ret2
 exact ⟨A2, c2, rfl, q1, q2, Q3.out, Q4.out⟩
end
section
open Go.RowKit
theorem ret_b {a b : Bool} (h : a = b) : Ending.returned (.bool a) = .returned (.bool b) := by rw [h]
theorem ret_i {k : IntKind} {a b : Int} (h : a = b) : Ending.returned (.int k a) = .returned (.int k b) := by rw [h]
theorem tmod4 (s : Int) : s.tmod 4 = 0 ↔ s % 4 = 0 := by
 rw [← Int.dvd_iff_tmod_eq_zero, Int.dvd_iff_emod_eq_zero]
def regMay (b s : Int) : Bool := decide (0 ≤ b) && decide (b ≤ 4096) && decide (b % 4 = 0) && decide (s % 4 = 0) && decide (16 ≤ s) && decide (s ≤ 512) && decide (b + s ≤ 4096)
theorem regMay_iff {b s : Int} : regMay b s = true ↔ 0 ≤ b ∧ b % 4 = 0 ∧ s % 4 = 0 ∧ 16 ≤ s ∧ s ≤ 512 ∧ b + s ≤ 4096 := by
 simp only [regMay, Bool.and_eq_true, decide_eq_true_eq]
 constructor
 ·rintro ⟨⟨⟨⟨⟨⟨a, b⟩, c⟩, d⟩, e⟩, f⟩, g⟩
  exact ⟨a, c, d, e, f, g⟩
 ·rintro ⟨a, c, d, e, f, g⟩
  exact ⟨⟨⟨⟨⟨⟨a, by omega⟩, c⟩, d⟩, e⟩, f⟩, g⟩
set_option maxRecDepth 100000 in
theorem regMay_ok (b s : Int) (w : World) :
  Calls Tryz.prog 109 #[.agg #[.int .i64 b, .int .i64 s]] w fun e w' => e = .returned (.bool (regMay b s)) ∧ Chg Non w w' := by
 have hst := Lib.hid (tmod4 s)
 by_cases h0 : 0 ≤ b
 ·have htm : b.tmod 4 = b % 4 := Int.tmod_eq_emod_of_nonneg h0
  have hr0 : 0 ≤ b % 4 := by omega
  have hr1 : b % 4 < 4 := by omega
  have hwr : IntKind.i64.wrap (b % 4) = b % 4 := Go.IntWalk.i64_in _ (by omega)
  go_enter Tryz.func109, Tryz.ntmps109
  go_wp2
  all_goals
   go_ret
   refine ⟨ret_b ?_, (Chg.refl _ _).alloc _⟩
   have hst := hst.out
   rw [Bool.eq_iff_iff, regMay_iff]
   simp only [decide_eq_true_eq, Bool.false_eq_true, false_iff]
   omega
 ·have h0' : decide (0 ≤ b) = false := by simpa using h0
  go_enter Tryz.func109, Tryz.ntmps109
  go_wp2
  go_ret
  refine ⟨ret_b ?_, (Chg.refl _ _).alloc _⟩
  rw [Bool.eq_iff_iff, regMay_iff]
  simp only [Bool.false_eq_true, false_iff]
  omega
def regEnd (b s : Int) : Int := if regMay b s = true then b + s else 0
set_option maxRecDepth 100000 in
theorem regEnd_ok (b s : Int) (w : World) :
  Calls Tryz.prog 148 #[.agg #[.int .i64 b, .int .i64 s]] w fun e w' => e = .returned (.int .i64 (regEnd b s)) ∧ Chg Non w w' := by
 have HM := Lib.hid (fun W => regMay_ok b s W)
 have HE : Hid (regEnd b s = if regMay b s = true then b + s else 0) := Lib.hid rfl
 obtain ⟨m, hm⟩ : ∃ m, regMay b s = m := ⟨_, rfl⟩
 rw [hm] at HM HE
 cases m with
 | false =>
  clear hm
  go_enter Tryz.func148, Tryz.ntmps148
  go_wp2_with fail
  refine (HM.out _).mono ?_
  rintro e u ⟨rfl, hg⟩
  go_wp2_with fail
  go_ret
  exact ⟨by rw [HE.out]; rfl, ((Chg.refl Non w).alloc _).then_non hg⟩
 | true =>
  have hb := regMay_iff.1 hm
  have h1 : 0 ≤ b := hb.1
  have h2 : 16 ≤ s := hb.2.2.2.1
  have h3 : b + s ≤ 4096 := hb.2.2.2.2.2
  clear hm hb
  go_enter Tryz.func148, Tryz.ntmps148
  go_wp2_with fail
  refine (HM.out _).mono ?_
  rintro e u ⟨rfl, hg⟩
  have hb := hg.block _ (by simp) (fun e => e) |>.trans (heap_alloc_new w (.cells #[.int .i64 b, .int .i64 s] 81))
  have k0 : u.cell? ⟨w.heap.size, 0, none⟩ = some (.int .i64 b) := by rw [cell_of_row _ _ _ _ _ _ hb]; rfl
  have k1 : u.cell? ⟨w.heap.size, 1, none⟩ = some (.int .i64 s) := by rw [cell_of_row _ _ _ _ _ _ hb]; rfl
  have HB := Lib.hid hb
  clear hb
  go_wp2_with fail
  go_ret
  exact ⟨by rw [HE.out]; rfl, ((Chg.refl Non w).alloc _).then_non hg⟩
def chPart (n : Int) : Bool := decide (1 ≤ n) && decide (n ≤ 6)
theorem chPart_ok (n : Int) (w : World) : Calls Tryz.prog 166 #[.int .i64 n] w fun e w' => e = .returned (.bool (chPart n)) ∧ w = w' := by
 go_enter Tryz.func166, Tryz.ntmps166
 go_wp2
 all_goals
  go_ret
  refine ⟨ret_b ?_, rfl⟩
  rw [Bool.eq_iff_iff]
  simp only [chPart, Bool.and_eq_true, decide_eq_true_eq, Bool.false_eq_true, false_iff]
  omega
def chMay (id src dst cap size : Int) : Bool := decide (1 ≤ id) && decide (id ≤ 8) && chPart src && chPart dst && decide (src ≠ dst) && decide (1 ≤ cap) && decide (cap ≤ 4) && decide (1 ≤ size) && decide (size ≤ 16)
set_option maxRecDepth 100000 in
theorem chMay_ok (id src dst cap size : Int) (w : World) :
  Calls Tryz.prog 143 #[.agg #[.int .i64 id, .int .i64 src, .int .i64 dst, .int .i64 cap, .int .i64 size]] w fun e w' => e = .returned (.bool (chMay id src dst cap size)) ∧ Chg Non w w' := by
 have H1 := Lib.hid (fun W => chPart_ok src W)
 have H2 := Lib.hid (fun W => chPart_ok dst W)
 obtain ⟨m, hm⟩ : ∃ m, chMay id src dst cap size = m := ⟨_, rfl⟩
 rw [hm]
 unfold chMay at hm
 obtain ⟨b1, h1⟩ : ∃ b, chPart src = b := ⟨_, rfl⟩
 obtain ⟨b2, h2⟩ : ∃ b, chPart dst = b := ⟨_, rfl⟩
 rw [h1, h2] at hm
 rw [h1] at H1
 rw [h2] at H2
 have HM := Lib.hid hm
 clear h1 h2 hm
 cases b1 <;> cases b2
 all_goals
  go_enter Tryz.func143, Tryz.ntmps143
  go_wp2_with (first
    | ((with_reducible refine (H1.out _).mono ?_); rintro e u ⟨rfl, rfl⟩)
    | ((with_reducible refine (H2.out _).mono ?_); rintro e u ⟨rfl, rfl⟩))
  all_goals
   go_ret
   refine ⟨ret_b ?_, (Chg.refl _ _).alloc _⟩
   rw [← HM.out, Bool.eq_iff_iff]
   simp only [Bool.and_eq_true, decide_eq_true_eq, Bool.false_eq_true, false_iff, and_false, false_and, not_false_eq_true, and_true, true_and, bne_iff_ne, ne_eq]
   try omega
end
section
open Go.RowKit
def idxOf {α : Type} (p : α → Bool) (l : List α) : Int := match l.findIdx? p with | some i => (i : Int) | none => -1
theorem idx_some {α : Type} {p : α → Bool} {l : List α} {k : Nat} {a : α} (ha : l[k]? = some a) (hp : p a = true) (hn : ∀ i b, i < k → l[i]? = some b → p b = false) : idxOf p l = k := by
 have h : l.findIdx? p = some k := by
  obtain ⟨hk, e⟩ := List.getElem?_eq_some_iff.1 ha
  rw [List.findIdx?_eq_some_iff_getElem]
  exact ⟨hk, by rw [e]; exact hp, fun j hj => by simp [hn j _ hj (List.getElem?_eq_getElem (by omega))]⟩
 rw [idxOf, h]
theorem idx_none {α : Type} {p : α → Bool} {l : List α} (hn : ∀ i b, i < l.length → l[i]? = some b → p b = false) : idxOf p l = -1 := by
 have h : l.findIdx? p = none := by
  rw [List.findIdx?_eq_none_iff]
  intro x hx
  obtain ⟨i, hi⟩ := List.getElem?_of_mem hx
  exact hn i x (List.getElem?_eq_some_iff.1 hi).1 hi
 rw [idxOf, h]
theorem idx_ge {α : Type} (p : α → Bool) (l : List α) : decide (0 ≤ idxOf p l) = l.any p := by
 rw [Bool.eq_iff_iff, decide_eq_true_eq, List.any_eq_true]
 unfold idxOf
 constructor
 ·intro h
  cases hf : l.findIdx? p with
  | none => rw [hf] at h; simp at h
  | some i =>
   obtain ⟨hi, hp, _⟩ := List.findIdx?_eq_some_iff_getElem.1 hf
   exact ⟨l[i], List.getElem_mem hi, hp⟩
 ·rintro ⟨x, hx, hp⟩
  cases hf : l.findIdx? p with
  | none => rw [List.findIdx?_eq_none_iff] at hf; rw [hf x hx] at hp; cases hp
  | some i => simp
def Asks {α : Type} (R : World → α → List Value → Prop) (V : List Value → Value) (l : List α) (p : α → Bool) (w : World) (K : Nat) (cap : List Value) : Prop :=
 ∀ W a vs, Chg Non w W → a ∈ l → R W a vs → Calls Tryz.prog K (V vs :: cap).toArray W fun e W' => e = .returned (.bool (p a)) ∧ Chg Non W W'
def aggV (vs : List Value) : Value := .agg vs.toArray
def oneV : List Value → Value
 | [v] => v
 | _ => undef
theorem idx_bd {α : Type} (p : α → Bool) (l : List α) : -1 ≤ idxOf p l := by
 unfold idxOf
 split <;> omega
set_option maxRecDepth 100000 in
theorem idxWindows {α : Type} (R : World → α → List Value → Prop) (I : Nat → Prop) (hm : ∀ W W' a vs, Chg Non W W' → R W a vs → R W' a vs) (p : α → Bool) (x : Value) (A : Option Addr) (l : List α) (c : Nat) (w : World)
  (hr : RdL R I 2 w A l) (hf : Asks R aggV l p w 169 [x]) (hc : l.length ≤ c) (hcm : c ≤ maxLen) :
  Calls Tryz.prog 186 #[.slice A l.length c, .func (.func 169) #[] #[x]] w fun e w' => e = .returned (.int .i64 (idxOf p l)) ∧ Chg Non w w' := by
 unfold maxLen at hcm
 have HR := Lib.hid hr
 have HF := Lib.hid hf
 clear hr hf
 go_enter Tryz.func186, Tryz.ntmps186
 go_wp2_with fail
 go_loopw [8] (fun iv wr => ∃ k : Nat, k ≤ l.length ∧ iv = .int .i64 k ∧ Hid (∀ i b, i < k → l[i]? = some b → p b = false) ∧ Hid (Chg Non w wr)) (fun iv _ => l.length - (intOf iv).toNat)
 case atStart => exact ⟨0, Nat.zero_le _, rfl, Lib.hid (fun i b h => by omega), Lib.hid (Chg.refl _ _)⟩
 case round =>
  obtain ⟨k, hk, rfl, HN, HG⟩ := hrel
  by_cases hlt : k < l.length
  ·obtain ⟨a, ha⟩ : ∃ a, l[k]? = some a := ⟨_, List.getElem?_eq_getElem hlt⟩
   obtain ⟨b, o, vs, rfl, _, hlen, hcell0, hR⟩ := HR.out k a ha
   have hcell := range_keepS hcell0 HG.out (fun e => e)
   have HK := Lib.hid (HF.out wr a vs HG.out (List.mem_of_getElem? ha) (hm _ _ _ _ HG.out hR))
   have hltd : decide ((k : Int) < (l.length : Int)) = true := by simpa using hlt
   have HA := Lib.hid ha
   clear ha hR hcell0
   have HC := Lib.hid hcell
   have HL := Lib.hid hlen
   clear hcell hlen
   go_wp2_with (refine sel (some 15) (.load 49 (.tmp 14)) ?_; refine wpList_load_mid rfl 49 (.tmp 14) rfl b (o + k * 2) rfl vs _ HC.out Tryz.underlying49 rfl (by rw [HL.out]; kernel_rfl) ?_)
   refine HK.out.mono ?_
   rintro e u ⟨rfl, hg⟩
   have HG2 := Lib.hid (HG.out.then_non hg)
   clear hg
   cases hp : p a with
   | true =>
    go_wp2_with fail
    go_ret
    exact ⟨ret_i (idx_some HA.out hp HN.out).symm, HG2.out⟩
   | false =>
    have HN2 : Hid (∀ i b, i < k + 1 → l[i]? = some b → p b = false) := Lib.hid (fun i b hi hb => by
      by_cases e : i = k
      · subst e
        rw [HA.out] at hb
        injection hb with hb
        subst hb
        exact hp
      · exact HN.out i b (by omega) hb)
    have HP := Lib.hid hp
    clear hp
    go_wp2_with fail
    exact ⟨⟨k + 1, by omega, by simp, HN2, HG2⟩, by simp [intOf]; omega⟩
  ·obtain rfl : k = l.length := by omega
   have hltd : decide ((l.length : Int) < (l.length : Int)) = false := by simp
   go_wp2_with fail
   go_ret
   exact ⟨ret_i (idx_none HN.out).symm, HG.out⟩
set_option maxRecDepth 100000 in
theorem anyWindows {α : Type} (R : World → α → List Value → Prop) (I : Nat → Prop) (hm : ∀ W W' a vs, Chg Non W W' → R W a vs → R W' a vs) (p : α → Bool) (x : Value) (A : Option Addr) (l : List α) (c : Nat) (w : World)
  (hr : RdL R I 2 w A l) (hf : Asks R aggV l p w 169 [x]) (hc : l.length ≤ c) (hcm : c ≤ maxLen) :
  Calls Tryz.prog 168 #[.slice A l.length c, .func (.func 169) #[] #[x]] w fun e w' => e = .returned (.bool (l.any p)) ∧ Chg Non w w' := by
 have HI := Lib.hid (idxWindows R I hm p x A l c w hr hf hc hcm)
 have HB := Lib.hid (idx_ge p l)
 obtain ⟨j, hj⟩ : ∃ j, idxOf p l = j := ⟨_, rfl⟩
 rw [hj] at HI HB
 clear hr hf hj
 go_enter Tryz.func168, Tryz.ntmps168
 go_wp2_with fail
 refine HI.out.mono ?_
 rintro e u ⟨rfl, hg⟩
 go_wp2_with fail
 go_ret
 exact ⟨ret_b HB.out, hg⟩
set_option maxRecDepth 100000 in
theorem idxPart {α : Type} (R : World → α → List Value → Prop) (I : Nat → Prop) (hm : ∀ W W' a vs, Chg Non W W' → R W a vs → R W' a vs) (p : α → Bool) (x : Value) (A : Option Addr) (l : List α) (c : Nat) (w : World)
  (hr : RdL R I 5 w A l) (hf : Asks R aggV l p w 203 [x]) (hc : l.length ≤ c) (hcm : c ≤ maxLen) :
  Calls Tryz.prog 188 #[.slice A l.length c, .func (.func 203) #[] #[x]] w fun e w' => e = .returned (.int .i64 (idxOf p l)) ∧ Chg Non w w' := by
 unfold maxLen at hcm
 have HR := Lib.hid hr
 have HF := Lib.hid hf
 clear hr hf
 go_enter Tryz.func188, Tryz.ntmps188
 go_wp2_with fail
 go_loopw [8] (fun iv wr => ∃ k : Nat, k ≤ l.length ∧ iv = .int .i64 k ∧ Hid (∀ i b, i < k → l[i]? = some b → p b = false) ∧ Hid (Chg Non w wr)) (fun iv _ => l.length - (intOf iv).toNat)
 case atStart => exact ⟨0, Nat.zero_le _, rfl, Lib.hid (fun i b h => by omega), Lib.hid (Chg.refl _ _)⟩
 case round =>
  obtain ⟨k, hk, rfl, HN, HG⟩ := hrel
  by_cases hlt : k < l.length
  ·obtain ⟨a, ha⟩ : ∃ a, l[k]? = some a := ⟨_, List.getElem?_eq_getElem hlt⟩
   obtain ⟨b, o, vs, rfl, _, hlen, hcell0, hR⟩ := HR.out k a ha
   have hcell := range_keepS hcell0 HG.out (fun e => e)
   have HK := Lib.hid (HF.out wr a vs HG.out (List.mem_of_getElem? ha) (hm _ _ _ _ HG.out hR))
   have hltd : decide ((k : Int) < (l.length : Int)) = true := by simpa using hlt
   have HA := Lib.hid ha
   clear ha hR hcell0
   have HC := Lib.hid hcell
   have HL := Lib.hid hlen
   clear hcell hlen
   go_wp2_with (refine sel (some 15) (.load 83 (.tmp 14)) ?_; refine wpList_load_mid rfl 83 (.tmp 14) rfl b (o + k * 5) rfl vs _ HC.out Tryz.underlying83 rfl (by rw [HL.out]; kernel_rfl) ?_)
   refine HK.out.mono ?_
   rintro e u ⟨rfl, hg⟩
   have HG2 := Lib.hid (HG.out.then_non hg)
   clear hg
   cases hp : p a with
   | true =>
    go_wp2_with fail
    go_ret
    exact ⟨ret_i (idx_some HA.out hp HN.out).symm, HG2.out⟩
   | false =>
    have HN2 : Hid (∀ i b, i < k + 1 → l[i]? = some b → p b = false) := Lib.hid (fun i b hi hb => by
      by_cases e : i = k
      · subst e
        rw [HA.out] at hb
        injection hb with hb
        subst hb
        exact hp
      · exact HN.out i b (by omega) hb)
    have HP := Lib.hid hp
    clear hp
    go_wp2_with fail
    exact ⟨⟨k + 1, by omega, by simp, HN2, HG2⟩, by simp [intOf]; omega⟩
  ·obtain rfl : k = l.length := by omega
   have hltd : decide ((l.length : Int) < (l.length : Int)) = false := by simp
   go_wp2_with fail
   go_ret
   exact ⟨ret_i (idx_none HN.out).symm, HG.out⟩
set_option maxRecDepth 100000 in
theorem idxRegions {α : Type} (R : World → α → List Value → Prop) (I : Nat → Prop) (hm : ∀ W W' a vs, Chg Non W W' → R W a vs → R W' a vs) (p : α → Bool) (A : Option Addr) (l : List α) (c : Nat) (w : World)
  (hr : RdL R I 5 w A l) (hf : Asks R aggV l p w 172 []) (hc : l.length ≤ c) (hcm : c ≤ maxLen) :
  Calls Tryz.prog 188 #[.slice A l.length c, .func (.func 172) #[] #[]] w fun e w' => e = .returned (.int .i64 (idxOf p l)) ∧ Chg Non w w' := by
 unfold maxLen at hcm
 have HR := Lib.hid hr
 have HF := Lib.hid hf
 clear hr hf
 go_enter Tryz.func188, Tryz.ntmps188
 go_wp2_with fail
 go_loopw [8] (fun iv wr => ∃ k : Nat, k ≤ l.length ∧ iv = .int .i64 k ∧ Hid (∀ i b, i < k → l[i]? = some b → p b = false) ∧ Hid (Chg Non w wr)) (fun iv _ => l.length - (intOf iv).toNat)
 case atStart => exact ⟨0, Nat.zero_le _, rfl, Lib.hid (fun i b h => by omega), Lib.hid (Chg.refl _ _)⟩
 case round =>
  obtain ⟨k, hk, rfl, HN, HG⟩ := hrel
  by_cases hlt : k < l.length
  ·obtain ⟨a, ha⟩ : ∃ a, l[k]? = some a := ⟨_, List.getElem?_eq_getElem hlt⟩
   obtain ⟨b, o, vs, rfl, _, hlen, hcell0, hR⟩ := HR.out k a ha
   have hcell := range_keepS hcell0 HG.out (fun e => e)
   have HK := Lib.hid (HF.out wr a vs HG.out (List.mem_of_getElem? ha) (hm _ _ _ _ HG.out hR))
   have hltd : decide ((k : Int) < (l.length : Int)) = true := by simpa using hlt
   have HA := Lib.hid ha
   clear ha hR hcell0
   have HC := Lib.hid hcell
   have HL := Lib.hid hlen
   clear hcell hlen
   go_wp2_with (refine sel (some 15) (.load 83 (.tmp 14)) ?_; refine wpList_load_mid rfl 83 (.tmp 14) rfl b (o + k * 5) rfl vs _ HC.out Tryz.underlying83 rfl (by rw [HL.out]; kernel_rfl) ?_)
   refine HK.out.mono ?_
   rintro e u ⟨rfl, hg⟩
   have HG2 := Lib.hid (HG.out.then_non hg)
   clear hg
   cases hp : p a with
   | true =>
    go_wp2_with fail
    go_ret
    exact ⟨ret_i (idx_some HA.out hp HN.out).symm, HG2.out⟩
   | false =>
    have HN2 : Hid (∀ i b, i < k + 1 → l[i]? = some b → p b = false) := Lib.hid (fun i b hi hb => by
      by_cases e : i = k
      · subst e
        rw [HA.out] at hb
        injection hb with hb
        subst hb
        exact hp
      · exact HN.out i b (by omega) hb)
    have HP := Lib.hid hp
    clear hp
    go_wp2_with fail
    exact ⟨⟨k + 1, by omega, by simp, HN2, HG2⟩, by simp [intOf]; omega⟩
  ·obtain rfl : k = l.length := by omega
   have hltd : decide ((l.length : Int) < (l.length : Int)) = false := by simp
   go_wp2_with fail
   go_ret
   exact ⟨ret_i (idx_none HN.out).symm, HG.out⟩
set_option maxRecDepth 100000 in
theorem anyRegions {α : Type} (R : World → α → List Value → Prop) (I : Nat → Prop) (hm : ∀ W W' a vs, Chg Non W W' → R W a vs → R W' a vs) (p : α → Bool) (A : Option Addr) (l : List α) (c : Nat) (w : World)
  (hr : RdL R I 5 w A l) (hf : Asks R aggV l p w 172 []) (hc : l.length ≤ c) (hcm : c ≤ maxLen) :
  Calls Tryz.prog 171 #[.slice A l.length c, .func (.func 172) #[] #[]] w fun e w' => e = .returned (.bool (l.any p)) ∧ Chg Non w w' := by
 have HI := Lib.hid (idxRegions R I hm p A l c w hr hf hc hcm)
 have HB := Lib.hid (idx_ge p l)
 obtain ⟨j, hj⟩ : ∃ j, idxOf p l = j := ⟨_, rfl⟩
 rw [hj] at HI HB
 clear hr hf hj
 go_enter Tryz.func171, Tryz.ntmps171
 go_wp2_with fail
 refine HI.out.mono ?_
 rintro e u ⟨rfl, hg⟩
 go_wp2_with fail
 go_ret
 exact ⟨ret_b HB.out, hg⟩
set_option maxRecDepth 100000 in
theorem idxChannels {α : Type} (R : World → α → List Value → Prop) (I : Nat → Prop) (hm : ∀ W W' a vs, Chg Non W W' → R W a vs → R W' a vs) (p : α → Bool) (x : Value) (A : Option Addr) (l : List α) (c : Nat) (w : World)
  (hr : RdL R I 5 w A l) (hf : Asks R aggV l p w 175 [x]) (hc : l.length ≤ c) (hcm : c ≤ maxLen) :
  Calls Tryz.prog 189 #[.slice A l.length c, .func (.func 175) #[] #[x]] w fun e w' => e = .returned (.int .i64 (idxOf p l)) ∧ Chg Non w w' := by
 unfold maxLen at hcm
 have HR := Lib.hid hr
 have HF := Lib.hid hf
 clear hr hf
 go_enter Tryz.func189, Tryz.ntmps189
 go_wp2_with fail
 go_loopw [8] (fun iv wr => ∃ k : Nat, k ≤ l.length ∧ iv = .int .i64 k ∧ Hid (∀ i b, i < k → l[i]? = some b → p b = false) ∧ Hid (Chg Non w wr)) (fun iv _ => l.length - (intOf iv).toNat)
 case atStart => exact ⟨0, Nat.zero_le _, rfl, Lib.hid (fun i b h => by omega), Lib.hid (Chg.refl _ _)⟩
 case round =>
  obtain ⟨k, hk, rfl, HN, HG⟩ := hrel
  by_cases hlt : k < l.length
  ·obtain ⟨a, ha⟩ : ∃ a, l[k]? = some a := ⟨_, List.getElem?_eq_getElem hlt⟩
   obtain ⟨b, o, vs, rfl, _, hlen, hcell0, hR⟩ := HR.out k a ha
   have hcell := range_keepS hcell0 HG.out (fun e => e)
   have HK := Lib.hid (HF.out wr a vs HG.out (List.mem_of_getElem? ha) (hm _ _ _ _ HG.out hR))
   have hltd : decide ((k : Int) < (l.length : Int)) = true := by simpa using hlt
   have HA := Lib.hid ha
   clear ha hR hcell0
   have HC := Lib.hid hcell
   have HL := Lib.hid hlen
   clear hcell hlen
   go_wp2_with (refine sel (some 15) (.load 93 (.tmp 14)) ?_; refine wpList_load_mid rfl 93 (.tmp 14) rfl b (o + k * 5) rfl vs _ HC.out Tryz.underlying93 rfl (by rw [HL.out]; kernel_rfl) ?_)
   refine HK.out.mono ?_
   rintro e u ⟨rfl, hg⟩
   have HG2 := Lib.hid (HG.out.then_non hg)
   clear hg
   cases hp : p a with
   | true =>
    go_wp2_with fail
    go_ret
    exact ⟨ret_i (idx_some HA.out hp HN.out).symm, HG2.out⟩
   | false =>
    have HN2 : Hid (∀ i b, i < k + 1 → l[i]? = some b → p b = false) := Lib.hid (fun i b hi hb => by
      by_cases e : i = k
      · subst e
        rw [HA.out] at hb
        injection hb with hb
        subst hb
        exact hp
      · exact HN.out i b (by omega) hb)
    have HP := Lib.hid hp
    clear hp
    go_wp2_with fail
    exact ⟨⟨k + 1, by omega, by simp, HN2, HG2⟩, by simp [intOf]; omega⟩
  ·obtain rfl : k = l.length := by omega
   have hltd : decide ((l.length : Int) < (l.length : Int)) = false := by simp
   go_wp2_with fail
   go_ret
   exact ⟨ret_i (idx_none HN.out).symm, HG.out⟩
set_option maxRecDepth 100000 in
theorem anyChannels {α : Type} (R : World → α → List Value → Prop) (I : Nat → Prop) (hm : ∀ W W' a vs, Chg Non W W' → R W a vs → R W' a vs) (p : α → Bool) (x : Value) (A : Option Addr) (l : List α) (c : Nat) (w : World)
  (hr : RdL R I 5 w A l) (hf : Asks R aggV l p w 175 [x]) (hc : l.length ≤ c) (hcm : c ≤ maxLen) :
  Calls Tryz.prog 174 #[.slice A l.length c, .func (.func 175) #[] #[x]] w fun e w' => e = .returned (.bool (l.any p)) ∧ Chg Non w w' := by
 have HI := Lib.hid (idxChannels R I hm p x A l c w hr hf hc hcm)
 have HB := Lib.hid (idx_ge p l)
 obtain ⟨j, hj⟩ : ∃ j, idxOf p l = j := ⟨_, rfl⟩
 rw [hj] at HI HB
 clear hr hf hj
 go_enter Tryz.func174, Tryz.ntmps174
 go_wp2_with fail
 refine HI.out.mono ?_
 rintro e u ⟨rfl, hg⟩
 go_wp2_with fail
 go_ret
 exact ⟨ret_b HB.out, hg⟩
set_option maxRecDepth 100000 in
theorem idxKAt {α : Type} (R : World → α → List Value → Prop) (I : Nat → Prop) (hm : ∀ W W' a vs, Chg Non W W' → R W a vs → R W' a vs) (p : α → Bool) (x : Value) (A : Option Addr) (l : List α) (c : Nat) (w : World)
  (hr : RdL R I 14 w A l) (hf : Asks R aggV l p w 89 [x]) (hc : l.length ≤ c) (hcm : c ≤ maxLen) :
  Calls Tryz.prog 88 #[.slice A l.length c, .func (.func 89) #[] #[x]] w fun e w' => e = .returned (.int .i64 (idxOf p l)) ∧ Chg Non w w' := by
 unfold maxLen at hcm
 have HR := Lib.hid hr
 have HF := Lib.hid hf
 clear hr hf
 go_enter Tryz.func88, Tryz.ntmps88
 go_wp2_with fail
 go_loopw [8] (fun iv wr => ∃ k : Nat, k ≤ l.length ∧ iv = .int .i64 k ∧ Hid (∀ i b, i < k → l[i]? = some b → p b = false) ∧ Hid (Chg Non w wr)) (fun iv _ => l.length - (intOf iv).toNat)
 case atStart => exact ⟨0, Nat.zero_le _, rfl, Lib.hid (fun i b h => by omega), Lib.hid (Chg.refl _ _)⟩
 case round =>
  obtain ⟨k, hk, rfl, HN, HG⟩ := hrel
  by_cases hlt : k < l.length
  ·obtain ⟨a, ha⟩ : ∃ a, l[k]? = some a := ⟨_, List.getElem?_eq_getElem hlt⟩
   obtain ⟨b, o, vs, rfl, _, hlen, hcell0, hR⟩ := HR.out k a ha
   have hcell := range_keepS hcell0 HG.out (fun e => e)
   have HK := Lib.hid (HF.out wr a vs HG.out (List.mem_of_getElem? ha) (hm _ _ _ _ HG.out hR))
   have hltd : decide ((k : Int) < (l.length : Int)) = true := by simpa using hlt
   have HA := Lib.hid ha
   clear ha hR hcell0
   have HC := Lib.hid hcell
   have HL := Lib.hid hlen
   clear hcell hlen
   go_wp2_with (refine sel (some 15) (.load 69 (.tmp 14)) ?_; refine wpList_load_mid rfl 69 (.tmp 14) rfl b (o + k * 14) rfl vs _ HC.out Tryz.underlying69 rfl (by rw [HL.out]; kernel_rfl) ?_)
   refine HK.out.mono ?_
   rintro e u ⟨rfl, hg⟩
   have HG2 := Lib.hid (HG.out.then_non hg)
   clear hg
   cases hp : p a with
   | true =>
    go_wp2_with fail
    go_ret
    exact ⟨ret_i (idx_some HA.out hp HN.out).symm, HG2.out⟩
   | false =>
    have HN2 : Hid (∀ i b, i < k + 1 → l[i]? = some b → p b = false) := Lib.hid (fun i b hi hb => by
      by_cases e : i = k
      · subst e
        rw [HA.out] at hb
        injection hb with hb
        subst hb
        exact hp
      · exact HN.out i b (by omega) hb)
    have HP := Lib.hid hp
    clear hp
    go_wp2_with fail
    exact ⟨⟨k + 1, by omega, by simp, HN2, HG2⟩, by simp [intOf]; omega⟩
  ·obtain rfl : k = l.length := by omega
   have hltd : decide ((l.length : Int) < (l.length : Int)) = false := by simp
   go_wp2_with fail
   go_ret
   exact ⟨ret_i (idx_none HN.out).symm, HG.out⟩
set_option maxRecDepth 100000 in
theorem idxSPart {α : Type} (R : World → α → List Value → Prop) (I : Nat → Prop) (hm : ∀ W W' a vs, Chg Non W W' → R W a vs → R W' a vs) (p : α → Bool) (x : Value) (A : Option Addr) (l : List α) (c : Nat) (w : World)
  (hr : RdL R I 14 w A l) (hf : Asks R aggV l p w 108 [x]) (hc : l.length ≤ c) (hcm : c ≤ maxLen) :
  Calls Tryz.prog 88 #[.slice A l.length c, .func (.func 108) #[] #[x]] w fun e w' => e = .returned (.int .i64 (idxOf p l)) ∧ Chg Non w w' := by
 unfold maxLen at hcm
 have HR := Lib.hid hr
 have HF := Lib.hid hf
 clear hr hf
 go_enter Tryz.func88, Tryz.ntmps88
 go_wp2_with fail
 go_loopw [8] (fun iv wr => ∃ k : Nat, k ≤ l.length ∧ iv = .int .i64 k ∧ Hid (∀ i b, i < k → l[i]? = some b → p b = false) ∧ Hid (Chg Non w wr)) (fun iv _ => l.length - (intOf iv).toNat)
 case atStart => exact ⟨0, Nat.zero_le _, rfl, Lib.hid (fun i b h => by omega), Lib.hid (Chg.refl _ _)⟩
 case round =>
  obtain ⟨k, hk, rfl, HN, HG⟩ := hrel
  by_cases hlt : k < l.length
  ·obtain ⟨a, ha⟩ : ∃ a, l[k]? = some a := ⟨_, List.getElem?_eq_getElem hlt⟩
   obtain ⟨b, o, vs, rfl, _, hlen, hcell0, hR⟩ := HR.out k a ha
   have hcell := range_keepS hcell0 HG.out (fun e => e)
   have HK := Lib.hid (HF.out wr a vs HG.out (List.mem_of_getElem? ha) (hm _ _ _ _ HG.out hR))
   have hltd : decide ((k : Int) < (l.length : Int)) = true := by simpa using hlt
   have HA := Lib.hid ha
   clear ha hR hcell0
   have HC := Lib.hid hcell
   have HL := Lib.hid hlen
   clear hcell hlen
   go_wp2_with (refine sel (some 15) (.load 69 (.tmp 14)) ?_; refine wpList_load_mid rfl 69 (.tmp 14) rfl b (o + k * 14) rfl vs _ HC.out Tryz.underlying69 rfl (by rw [HL.out]; kernel_rfl) ?_)
   refine HK.out.mono ?_
   rintro e u ⟨rfl, hg⟩
   have HG2 := Lib.hid (HG.out.then_non hg)
   clear hg
   cases hp : p a with
   | true =>
    go_wp2_with fail
    go_ret
    exact ⟨ret_i (idx_some HA.out hp HN.out).symm, HG2.out⟩
   | false =>
    have HN2 : Hid (∀ i b, i < k + 1 → l[i]? = some b → p b = false) := Lib.hid (fun i b hi hb => by
      by_cases e : i = k
      · subst e
        rw [HA.out] at hb
        injection hb with hb
        subst hb
        exact hp
      · exact HN.out i b (by omega) hb)
    have HP := Lib.hid hp
    clear hp
    go_wp2_with fail
    exact ⟨⟨k + 1, by omega, by simp, HN2, HG2⟩, by simp [intOf]; omega⟩
  ·obtain rfl : k = l.length := by omega
   have hltd : decide ((l.length : Int) < (l.length : Int)) = false := by simp
   go_wp2_with fail
   go_ret
   exact ⟨ret_i (idx_none HN.out).symm, HG.out⟩
set_option maxRecDepth 100000 in
theorem idxQueue {α : Type} (R : World → α → List Value → Prop) (I : Nat → Prop) (hm : ∀ W W' a vs, Chg Non W W' → R W a vs → R W' a vs) (p : α → Bool) (x : Value) (A : Option Addr) (l : List α) (c : Nat) (w : World)
  (hr : RdL R I 6 w A l) (hf : Asks R aggV l p w 277 [x]) (hc : l.length ≤ c) (hcm : c ≤ maxLen) :
  Calls Tryz.prog 257 #[.slice A l.length c, .func (.func 277) #[] #[x]] w fun e w' => e = .returned (.int .i64 (idxOf p l)) ∧ Chg Non w w' := by
 unfold maxLen at hcm
 have HR := Lib.hid hr
 have HF := Lib.hid hf
 clear hr hf
 go_enter Tryz.func257, Tryz.ntmps257
 go_wp2_with fail
 go_loopw [8] (fun iv wr => ∃ k : Nat, k ≤ l.length ∧ iv = .int .i64 k ∧ Hid (∀ i b, i < k → l[i]? = some b → p b = false) ∧ Hid (Chg Non w wr)) (fun iv _ => l.length - (intOf iv).toNat)
 case atStart => exact ⟨0, Nat.zero_le _, rfl, Lib.hid (fun i b h => by omega), Lib.hid (Chg.refl _ _)⟩
 case round =>
  obtain ⟨k, hk, rfl, HN, HG⟩ := hrel
  by_cases hlt : k < l.length
  ·obtain ⟨a, ha⟩ : ∃ a, l[k]? = some a := ⟨_, List.getElem?_eq_getElem hlt⟩
   obtain ⟨b, o, vs, rfl, _, hlen, hcell0, hR⟩ := HR.out k a ha
   have hcell := range_keepS hcell0 HG.out (fun e => e)
   have HK := Lib.hid (HF.out wr a vs HG.out (List.mem_of_getElem? ha) (hm _ _ _ _ HG.out hR))
   have hltd : decide ((k : Int) < (l.length : Int)) = true := by simpa using hlt
   have HA := Lib.hid ha
   clear ha hR hcell0
   have HC := Lib.hid hcell
   have HL := Lib.hid hlen
   clear hcell hlen
   go_wp2_with (refine sel (some 15) (.load 95 (.tmp 14)) ?_; refine wpList_load_mid rfl 95 (.tmp 14) rfl b (o + k * 6) rfl vs _ HC.out Tryz.underlying95 rfl (by rw [HL.out]; kernel_rfl) ?_)
   refine HK.out.mono ?_
   rintro e u ⟨rfl, hg⟩
   have HG2 := Lib.hid (HG.out.then_non hg)
   clear hg
   cases hp : p a with
   | true =>
    go_wp2_with fail
    go_ret
    exact ⟨ret_i (idx_some HA.out hp HN.out).symm, HG2.out⟩
   | false =>
    have HN2 : Hid (∀ i b, i < k + 1 → l[i]? = some b → p b = false) := Lib.hid (fun i b hi hb => by
      by_cases e : i = k
      · subst e
        rw [HA.out] at hb
        injection hb with hb
        subst hb
        exact hp
      · exact HN.out i b (by omega) hb)
    have HP := Lib.hid hp
    clear hp
    go_wp2_with fail
    exact ⟨⟨k + 1, by omega, by simp, HN2, HG2⟩, by simp [intOf]; omega⟩
  ·obtain rfl : k = l.length := by omega
   have hltd : decide ((l.length : Int) < (l.length : Int)) = false := by simp
   go_wp2_with fail
   go_ret
   exact ⟨ret_i (idx_none HN.out).symm, HG.out⟩
set_option maxRecDepth 100000 in
theorem idxDo {α : Type} (R : World → α → List Value → Prop) (I : Nat → Prop) (hm : ∀ W W' a vs, Chg Non W W' → R W a vs → R W' a vs) (p : α → Bool) (A : Option Addr) (l : List α) (c : Nat) (w : World)
  (hr : RdL R I 6 w A l) (hf : Asks R aggV l p w 237 []) (hc : l.length ≤ c) (hcm : c ≤ maxLen) :
  Calls Tryz.prog 257 #[.slice A l.length c, .func (.func 237) #[] #[]] w fun e w' => e = .returned (.int .i64 (idxOf p l)) ∧ Chg Non w w' := by
 unfold maxLen at hcm
 have HR := Lib.hid hr
 have HF := Lib.hid hf
 clear hr hf
 go_enter Tryz.func257, Tryz.ntmps257
 go_wp2_with fail
 go_loopw [8] (fun iv wr => ∃ k : Nat, k ≤ l.length ∧ iv = .int .i64 k ∧ Hid (∀ i b, i < k → l[i]? = some b → p b = false) ∧ Hid (Chg Non w wr)) (fun iv _ => l.length - (intOf iv).toNat)
 case atStart => exact ⟨0, Nat.zero_le _, rfl, Lib.hid (fun i b h => by omega), Lib.hid (Chg.refl _ _)⟩
 case round =>
  obtain ⟨k, hk, rfl, HN, HG⟩ := hrel
  by_cases hlt : k < l.length
  ·obtain ⟨a, ha⟩ : ∃ a, l[k]? = some a := ⟨_, List.getElem?_eq_getElem hlt⟩
   obtain ⟨b, o, vs, rfl, _, hlen, hcell0, hR⟩ := HR.out k a ha
   have hcell := range_keepS hcell0 HG.out (fun e => e)
   have HK := Lib.hid (HF.out wr a vs HG.out (List.mem_of_getElem? ha) (hm _ _ _ _ HG.out hR))
   have hltd : decide ((k : Int) < (l.length : Int)) = true := by simpa using hlt
   have HA := Lib.hid ha
   clear ha hR hcell0
   have HC := Lib.hid hcell
   have HL := Lib.hid hlen
   clear hcell hlen
   go_wp2_with (refine sel (some 15) (.load 95 (.tmp 14)) ?_; refine wpList_load_mid rfl 95 (.tmp 14) rfl b (o + k * 6) rfl vs _ HC.out Tryz.underlying95 rfl (by rw [HL.out]; kernel_rfl) ?_)
   refine HK.out.mono ?_
   rintro e u ⟨rfl, hg⟩
   have HG2 := Lib.hid (HG.out.then_non hg)
   clear hg
   cases hp : p a with
   | true =>
    go_wp2_with fail
    go_ret
    exact ⟨ret_i (idx_some HA.out hp HN.out).symm, HG2.out⟩
   | false =>
    have HN2 : Hid (∀ i b, i < k + 1 → l[i]? = some b → p b = false) := Lib.hid (fun i b hi hb => by
      by_cases e : i = k
      · subst e
        rw [HA.out] at hb
        injection hb with hb
        subst hb
        exact hp
      · exact HN.out i b (by omega) hb)
    have HP := Lib.hid hp
    clear hp
    go_wp2_with fail
    exact ⟨⟨k + 1, by omega, by simp, HN2, HG2⟩, by simp [intOf]; omega⟩
  ·obtain rfl : k = l.length := by omega
   have hltd : decide ((l.length : Int) < (l.length : Int)) = false := by simp
   go_wp2_with fail
   go_ret
   exact ⟨ret_i (idx_none HN.out).symm, HG.out⟩
set_option maxRecDepth 100000 in
theorem anyDo {α : Type} (R : World → α → List Value → Prop) (I : Nat → Prop) (hm : ∀ W W' a vs, Chg Non W W' → R W a vs → R W' a vs) (p : α → Bool) (A : Option Addr) (l : List α) (c : Nat) (w : World)
  (hr : RdL R I 6 w A l) (hf : Asks R aggV l p w 237 []) (hc : l.length ≤ c) (hcm : c ≤ maxLen) :
  Calls Tryz.prog 238 #[.slice A l.length c, .func (.func 237) #[] #[]] w fun e w' => e = .returned (.bool (l.any p)) ∧ Chg Non w w' := by
 have HI := Lib.hid (idxDo R I hm p A l c w hr hf hc hcm)
 have HB := Lib.hid (idx_ge p l)
 obtain ⟨j, hj⟩ : ∃ j, idxOf p l = j := ⟨_, rfl⟩
 rw [hj] at HI HB
 clear hr hf hj
 go_enter Tryz.func238, Tryz.ntmps238
 go_wp2_with fail
 refine HI.out.mono ?_
 rintro e u ⟨rfl, hg⟩
 go_wp2_with fail
 go_ret
 exact ⟨ret_b HB.out, hg⟩
set_option maxRecDepth 100000 in
theorem idxMay {α : Type} (R : World → α → List Value → Prop) (I : Nat → Prop) (hm : ∀ W W' a vs, Chg Non W W' → R W a vs → R W' a vs) (p : α → Bool) (x : Value) (A : Option Addr) (l : List α) (c : Nat) (w : World)
  (hr : RdL R I 1 w A l) (hf : Asks R oneV l p w 142 [x]) (hc : l.length ≤ c) (hcm : c ≤ maxLen) :
  Calls Tryz.prog 167 #[.slice A l.length c, .func (.func 142) #[] #[x]] w fun e w' => e = .returned (.int .i64 (idxOf p l)) ∧ Chg Non w w' := by
 unfold maxLen at hcm
 have HR := Lib.hid hr
 have HF := Lib.hid hf
 clear hr hf
 go_enter Tryz.func167, Tryz.ntmps167
 go_wp2_with fail
 go_loopw [8] (fun iv wr => ∃ k : Nat, k ≤ l.length ∧ iv = .int .i64 k ∧ Hid (∀ i b, i < k → l[i]? = some b → p b = false) ∧ Hid (Chg Non w wr)) (fun iv _ => l.length - (intOf iv).toNat)
 case atStart => exact ⟨0, Nat.zero_le _, rfl, Lib.hid (fun i b h => by omega), Lib.hid (Chg.refl _ _)⟩
 case round =>
  obtain ⟨k, hk, rfl, HN, HG⟩ := hrel
  by_cases hlt : k < l.length
  ·obtain ⟨a, ha⟩ : ∃ a, l[k]? = some a := ⟨_, List.getElem?_eq_getElem hlt⟩
   obtain ⟨b, o, vs, rfl, _, hlen, hcell0, hR⟩ := HR.out k a ha
   have hcell := range_keepS hcell0 HG.out (fun e => e)
   have HK := Lib.hid (HF.out wr a vs HG.out (List.mem_of_getElem? ha) (hm _ _ _ _ HG.out hR))
   have hltd : decide ((k : Int) < (l.length : Int)) = true := by simpa using hlt
   have HA := Lib.hid ha
   clear ha hR hcell0
   simp only [Nat.mul_one] at hcell
   obtain ⟨v, rfl⟩ : ∃ v, vs = [v] := by
    match vs, hlen with
    | [v], _ => exact ⟨v, rfl⟩
   have k0 : wr.cell? ⟨b, o + k, none⟩ = some v := by have := hcell 0 v rfl; simpa using this
   clear hcell hlen
   go_wp2_with fail
   refine HK.out.mono ?_
   rintro e u ⟨rfl, hg⟩
   have HG2 := Lib.hid (HG.out.then_non hg)
   clear hg
   cases hp : p a with
   | true =>
    go_wp2_with fail
    go_ret
    exact ⟨ret_i (idx_some HA.out hp HN.out).symm, HG2.out⟩
   | false =>
    have HN2 : Hid (∀ i b, i < k + 1 → l[i]? = some b → p b = false) := Lib.hid (fun i b hi hb => by
      by_cases e : i = k
      · subst e
        rw [HA.out] at hb
        injection hb with hb
        subst hb
        exact hp
      · exact HN.out i b (by omega) hb)
    have HP := Lib.hid hp
    clear hp
    go_wp2_with fail
    exact ⟨⟨k + 1, by omega, by simp, HN2, HG2⟩, by simp [intOf]; omega⟩
  ·obtain rfl : k = l.length := by omega
   have hltd : decide ((l.length : Int) < (l.length : Int)) = false := by simp
   go_wp2_with fail
   go_ret
   exact ⟨ret_i (idx_none HN.out).symm, HG.out⟩
set_option maxRecDepth 100000 in
theorem anyMay {α : Type} (R : World → α → List Value → Prop) (I : Nat → Prop) (hm : ∀ W W' a vs, Chg Non W W' → R W a vs → R W' a vs) (p : α → Bool) (x : Value) (A : Option Addr) (l : List α) (c : Nat) (w : World)
  (hr : RdL R I 1 w A l) (hf : Asks R oneV l p w 142 [x]) (hc : l.length ≤ c) (hcm : c ≤ maxLen) :
  Calls Tryz.prog 144 #[.slice A l.length c, .func (.func 142) #[] #[x]] w fun e w' => e = .returned (.bool (l.any p)) ∧ Chg Non w w' := by
 have HI := Lib.hid (idxMay R I hm p x A l c w hr hf hc hcm)
 have HB := Lib.hid (idx_ge p l)
 obtain ⟨j, hj⟩ : ∃ j, idxOf p l = j := ⟨_, rfl⟩
 rw [hj] at HI HB
 clear hr hf hj
 go_enter Tryz.func144, Tryz.ntmps144
 go_wp2_with fail
 refine HI.out.mono ?_
 rintro e u ⟨rfl, hg⟩
 go_wp2_with fail
 go_ret
 exact ⟨ret_b HB.out, hg⟩
end
section
open Go.RowKit
theorem win_at {I : Nat → Prop} {w w' : World} {A : Option Addr} {ws : List Win} (hr : RdL winV I 2 w A ws) (hg : Chg Non w w') {k : Nat} {a : Win} (hk : ws[k]? = some a) :
  ∃ b o, A = some ⟨b, o, none⟩ ∧ w'.cell? ⟨b, o + k * 2, none⟩ = some (.int .i64 a.len) ∧ w'.cell? ⟨b, o + k * 2 + 1, none⟩ = some (.int .i64 a.part) ∧ b < w'.heap.size ∧ I64 a.len ∧ I64 a.part := by
 obtain ⟨b, o, vs, rfl, _, hl, hc, rfl, h1, h2⟩ := hr k a hk
 have h0 := hg.cell_some (hc 0 (.int .i64 a.len) rfl) (fun e => e)
 exact ⟨b, o, rfl, h0, hg.cell_some (hc 1 (.int .i64 a.part) rfl) (fun e => e), lt_of_cell h0, h1, h2⟩
def winOk (a : Win) : Bool := decide (1 ≤ a.len) && decide (a.len ≤ 64) && decide (0 ≤ a.part) && decide (a.part ≤ 6)
theorem winOk_iff {a : Win} : winOk a = true ↔ 1 ≤ a.len ∧ a.len ≤ 64 ∧ 0 ≤ a.part ∧ a.part ≤ 6 := by
 simp only [winOk, Bool.and_eq_true, decide_eq_true_eq]
 omega
def wsum (ws : List Win) : Int := (ws.map (·.len)).sum
theorem wsum_snoc {ws : List Win} {k : Nat} {a : Win} (h : ws[k]? = some a) : wsum (ws.take (k + 1)) = wsum (ws.take k) + a.len := by
 obtain ⟨hk, rfl⟩ := List.getElem?_eq_some_iff.1 h
 rw [List.take_succ_eq_append_getElem hk]
 simp only [wsum, List.map_append, List.sum_append, List.map_cons, List.map_nil, List.sum_cons, List.sum_nil]
 omega
theorem wsum_bd {ws : List Win} (n : Nat) (h : ∀ i a, i < n → ws[i]? = some a → winOk a = true) : 0 ≤ wsum (ws.take n) ∧ wsum (ws.take n) ≤ 64 * n := by
 induction n with
 | zero => simp [wsum]
 | succ n ih =>
  have := ih (fun i a hi ha => h i a (by omega) ha)
  cases ha : ws[n]? with
  | none =>
   have hn : ws.length ≤ n := List.getElem?_eq_none_iff.1 ha
   rw [List.take_of_length_le (by omega)] at this ⊢
   omega
  | some a =>
   rw [wsum_snoc ha]
   have := winOk_iff.1 (h n a (by omega) ha)
   omega
def schMay (ws : List Win) : Bool := decide (1 ≤ ws.length) && decide (ws.length ≤ 12) && ws.all winOk && decide (wsum ws ≤ 64)
theorem schMay_bd {ws : List Win} (h : schMay ws = true) : 1 ≤ ws.length ∧ ws.length ≤ 12 ∧ (∀ a ∈ ws, winOk a = true) ∧ wsum ws ≤ 64 := by
 simp only [schMay, Bool.and_eq_true, decide_eq_true_eq, List.all_eq_true] at h
 exact ⟨h.1.1.1, h.1.1.2, h.1.2, h.2⟩
set_option maxRecDepth 100000 in
theorem schMay_ok (I : Nat → Prop) (A : Option Addr) (ws : List Win) (c : Nat) (w : World) (hr : RdL winV I 2 w A ws) (hc : ws.length ≤ c) (hm : c ≤ maxLen) :
  Calls Tryz.prog 70 #[.slice A ws.length c] w fun e w' => e = .returned (.bool (schMay ws)) ∧ Chg Non w w' := by
 unfold maxLen at hm
 have HR := Lib.hid hr
 clear hr
 by_cases h0 : ws.length < 1
 ·have d0 : decide ((ws.length : Int) < 1) = true := by rw [decide_eq_true_eq]; omega
  have HE : Hid (schMay ws = false) := Lib.hid (by simp [schMay]; omega)
  clear h0
  go_enter Tryz.func70, Tryz.ntmps70
  go_wp2_with fail
  go_ret
  exact ⟨ret_b HE.out.symm, Chg.refl _ _⟩
 have d0 : decide ((ws.length : Int) < 1) = false := by rw [decide_eq_false_iff_not]; omega
 by_cases h12 : 12 < ws.length
 ·have d1 : decide ((12 : Int) < (ws.length : Int)) = true := by rw [decide_eq_true_eq]; omega
  have HE : Hid (schMay ws = false) := Lib.hid (by simp [schMay]; omega)
  clear h0 h12
  go_enter Tryz.func70, Tryz.ntmps70
  go_wp2_with fail
  go_ret
  exact ⟨ret_b HE.out.symm, Chg.refl _ _⟩
 have d1 : decide ((12 : Int) < (ws.length : Int)) = false := by rw [decide_eq_false_iff_not]; omega
 have hw12 : ws.length ≤ 12 := by omega
 have hw1 : 1 ≤ ws.length := by omega
 clear h0 h12
 go_enter Tryz.func70, Tryz.ntmps70
 go_wp2_with fail
 go_loopw [16, 3] (fun iv sv wr => ∃ k : Nat, k ≤ ws.length ∧ iv = .int .i64 k ∧ sv = .int .i64 (wsum (ws.take k)) ∧ Hid (∀ i a, i < k → ws[i]? = some a → winOk a = true) ∧ Hid (Chg Non w wr)) (fun iv _ _ => ws.length - (intOf iv).toNat)
 case atStart => exact ⟨0, Nat.zero_le _, rfl, rfl, Lib.hid (fun i b h => by omega), Lib.hid (Chg.refl _ _)⟩
 case round =>
  obtain ⟨k, hk, rfl, rfl, HN, HG⟩ := hrel
  have hbd := wsum_bd k HN.out
  by_cases hlt : k < ws.length
  ·obtain ⟨a, ha⟩ : ∃ a, ws[k]? = some a := ⟨_, List.getElem?_eq_getElem hlt⟩
   obtain ⟨b, o, rfl, k0, k1, hbl, hi1, hi2⟩ := win_at HR.out HG.out ha
   have hltd : decide ((k : Int) < (ws.length : Int)) = true := by simpa using hlt
   have hsn := wsum_snoc ha
   have HA := Lib.hid (And.intro ha hsn)
   clear ha hsn
   obtain ⟨s, hs⟩ : ∃ s, wsum (ws.take k) = s := ⟨_, rfl⟩
   rw [hs] at HA hbd ⊢
   clear hs
   obtain ⟨x, y⟩ := a
   simp only at k0 k1 hi1 hi2
   unfold I64 at hi1 hi2
   by_cases hok : winOk ⟨x, y⟩ = true
   ·obtain ⟨o1, o2, o3, o4⟩ := winOk_iff.1 hok
    simp only at o1 o2 o3 o4
    have HN2 : Hid (∀ i b, i < k + 1 → ws[i]? = some b → winOk b = true) := Lib.hid (fun i b hi hb => by
      by_cases e : i = k
      · subst e
        rw [HA.out.1] at hb
        injection hb with hb
        subst hb
        exact hok
      · exact HN.out i b (by omega) hb)
    have HG2 := Lib.hid (HG.out.alloc (.cells #[.int .i64 x, .int .i64 y] 49))
    clear hok
    go_wp2_with fail
    exact ⟨⟨k + 1, by omega, by simp, by rw [HA.out.2], HN2, HG2⟩, by simp [intOf]; omega⟩
   ·have HE : Hid (schMay ws = false) := Lib.hid (by
      rw [Bool.eq_false_iff]
      intro e
      exact hok ((schMay_bd e).2.2.1 _ (List.mem_of_getElem? HA.out.1)))
    have hno : x < 1 ∨ 64 < x ∨ y < 0 ∨ 6 < y := by
     rw [winOk_iff] at hok
     simp only at hok
     omega
    have HNo := Lib.hid hno
    clear hok hno
    go_wp2_with fail
    all_goals first
     | (go_ret; exact ⟨ret_b HE.out.symm, HG.out.alloc _⟩)
     | (exfalso; have := HNo.out; omega)
  ·obtain rfl : k = ws.length := by omega
   have hltd : decide ((ws.length : Int) < (ws.length : Int)) = false := by simp
   have HE : Hid (decide (wsum ws ≤ 64) = schMay ws) := Lib.hid (by
     have ha : ws.all winOk = true := List.all_eq_true.2 (fun a ha => by
       obtain ⟨i, hi⟩ := List.getElem?_of_mem ha
       exact HN.out i a (List.getElem?_eq_some_iff.1 hi).1 hi)
     simp [schMay, ha, hw12, hw1])
   go_wp2_with fail
   go_ret
   exact ⟨ret_b HE.out, HG.out⟩
def schFrame (ws : List Win) : Int := if schMay ws = true then wsum ws else 0
set_option maxRecDepth 100000 in
theorem schFrame_ok (I : Nat → Prop) (A : Option Addr) (ws : List Win) (c : Nat) (w : World) (hr : RdL winV I 2 w A ws) (hc : ws.length ≤ c) (hm : c ≤ maxLen) :
  Calls Tryz.prog 39 #[.slice A ws.length c] w fun e w' => e = .returned (.int .i64 (schFrame ws)) ∧ Chg Non w w' := by
 have HM := Lib.hid (schMay_ok I A ws c w hr hc hm)
 unfold maxLen at hm
 have HR := Lib.hid hr
 clear hr
 have HE : Hid (schFrame ws = if schMay ws = true then wsum ws else 0) := Lib.hid rfl
 obtain ⟨m, hmm⟩ : ∃ m, schMay ws = m := ⟨_, rfl⟩
 rw [hmm] at HM HE
 cases m with
 | false =>
  clear hmm
  go_enter Tryz.func39, Tryz.ntmps39
  go_wp2_with fail
  refine HM.out.mono ?_
  rintro e u ⟨rfl, hg⟩
  go_wp2_with fail
  go_ret
  exact ⟨ret_i HE.out.symm, hg⟩
 | true =>
  obtain ⟨hw1, hw12, hal, hsum⟩ := schMay_bd hmm
  have HAll := Lib.hid hal
  clear hmm hal hsum
  go_enter Tryz.func39, Tryz.ntmps39
  go_wp2_with fail
  refine HM.out.mono ?_
  rintro e u ⟨rfl, hg⟩
  have HG0 := Lib.hid hg
  clear hg
  go_wp2_with fail
  go_loopw [11, 3] (fun iv sv wr => ∃ k : Nat, k ≤ ws.length ∧ iv = .int .i64 k ∧ sv = .int .i64 (wsum (ws.take k)) ∧ Hid (Chg Non w wr)) (fun iv _ _ => ws.length - (intOf iv).toNat)
  case atStart => exact ⟨0, Nat.zero_le _, rfl, rfl, HG0⟩
  case round =>
   obtain ⟨k, hk, rfl, rfl, HG⟩ := hrel
   have hbd := wsum_bd (ws := ws) k (fun i a hi ha => HAll.out a (List.mem_of_getElem? ha))
   by_cases hlt : k < ws.length
   ·obtain ⟨a, ha⟩ : ∃ a, ws[k]? = some a := ⟨_, List.getElem?_eq_getElem hlt⟩
    obtain ⟨b, o, rfl, k0, k1, hbl, hi1, hi2⟩ := win_at HR.out HG.out ha
    have hltd : decide ((k : Int) < (ws.length : Int)) = true := by simpa using hlt
    obtain ⟨o1, o2, o3, o4⟩ := winOk_iff.1 (HAll.out a (List.mem_of_getElem? ha))
    have hsn := wsum_snoc ha
    have HA := Lib.hid hsn
    clear ha hsn
    obtain ⟨s, hs⟩ : ∃ s, wsum (ws.take k) = s := ⟨_, rfl⟩
    rw [hs] at HA hbd ⊢
    clear hs
    obtain ⟨x, y⟩ := a
    simp only at k0 k1 hi1 hi2 o1 o2 o3 o4
    have HG2 := Lib.hid (HG.out.alloc (.cells #[.int .i64 x, .int .i64 y] 49))
    go_wp2_with fail
    exact ⟨⟨k + 1, by omega, by simp, by rw [HA.out], HG2⟩, by simp [intOf]; omega⟩
   ·obtain rfl : k = ws.length := by omega
    have hltd : decide ((ws.length : Int) < (ws.length : Int)) = false := by simp
    have HE2 : Hid (wsum ws = schFrame ws) := Lib.hid (by rw [HE.out, if_pos (by trivial)])
    go_wp2_with fail
    go_ret
    exact ⟨ret_i (by first | exact HE2.out | (rw [List.take_length]; exact HE2.out)), HG.out⟩
end
section
open Go.RowKit
theorem res_ct {P : Program} {fn : Func} {p q : Tmp} {ty : TypeId} (h : fn.results = #[.cell p ty, .tmp q]) (tmps : Array Value) (w : World) (g : Nat) (t : TypeId) (cs : Array Value) (fr : Nat × Nat) (d : TypeDesc) (v : Value)
  (hp : tmps.getD p undef = .pointer (some ⟨g, 0, none⟩)) (hv : tmps.getD q undef = v) (hg : w.heap[g]? = some (.cells cs t fr))
  (hu : P.underlying ty = some d) (hd : (match d with | .struct _ | .array _ _ => true | _ => false) = true) (hi : (P.info? ty).map (·.size) = some cs.size) :
  (results fn tmps).run P w = .ok (.tuple #[.agg cs, v]) w := by
 have hp' : tmps[p]?.getD undef = .pointer (some ⟨g, 0, none⟩) := by simpa using hp
 have hv' : tmps[q]?.getD undef = v := by simpa using hv
 simp [results, h, hp', hv', asAddr, run_loadVar_row w g t ty cs fr d hg hu hd hi]
theorem res_c {P : Program} {fn : Func} {p : Tmp} {ty : TypeId} (h : fn.results = #[.cell p ty]) (tmps : Array Value) (w : World) (g : Nat) (t : TypeId) (cs : Array Value) (fr : Nat × Nat) (d : TypeDesc)
  (hp : tmps.getD p undef = .pointer (some ⟨g, 0, none⟩)) (hg : w.heap[g]? = some (.cells cs t fr))
  (hu : P.underlying ty = some d) (hd : (match d with | .struct _ | .array _ _ => true | _ => false) = true) (hi : (P.info? ty).map (·.size) = some cs.size) :
  (results fn tmps).run P w = .ok (.agg cs) w := by
 have hp' : tmps[p]?.getD undef = .pointer (some ⟨g, 0, none⟩) := by simpa using hp
 simp [results, h, hp', asAddr, run_loadVar_row w g t ty cs fr d hg hu hd hi]
theorem blk_set {w : World} {g : Nat} {cs : Array Value} {t : TypeId} {fr : Nat × Nat} (i : Nat) (u : Value) (h : w.heap[g]? = some (.cells cs t fr)) : (w.setCell ⟨g, i, none⟩ u).heap[g]? = some (.cells (cs.setIfInBounds i u) t fr) := by
 have hlt := (Array.getElem?_eq_some_iff.1 h).1
 have h' : w.heap[g] = .cells cs t fr := by simpa [Array.getElem?_eq_getElem hlt] using h
 show (w.heap.modify g _)[g]? = _
 rw [Array.getElem?_eq_getElem (by simpa using hlt), Array.getElem_modify_self, h']
 rfl
theorem chg_set (w : World) (b i : Nat) (v : Value) : Chg (fun k => k = b) w (w.setCell ⟨b, i, none⟩ v) := (Chg.refl (fun k => k = b) w).setCell (p := ⟨b, i, none⟩) (.inl rfl) v
theorem blk_keep {S : Nat → Prop} {w w' : World} {g : Nat} {o : Obj} (h : w.heap[g]? = some o) (hg : Chg S w w') (hn : ¬ S g) : w'.heap[g]? = some o := (hg.block _ (Array.getElem?_eq_some_iff.1 h).1 hn).trans h
theorem blk_cell {w : World} {g : Nat} {cs : Array Value} {t : TypeId} {fr : Nat × Nat} (h : w.heap[g]? = some (.cells cs t fr)) (i : Nat) {v : Value} (hv : cs[i]? = some v) : w.cell? ⟨g, i, none⟩ = some v := by rw [cell_of_row _ _ _ _ _ _ h]; exact hv
theorem blk_free {w : World} {g : Nat} {cs : Array Value} {t : TypeId} (h : w.heap[g]? = some (.cells cs t (0, 0))) (i : Nat) : w.frozen? ⟨g, i, none⟩ = false := frozen_of_row _ _ _ _ _ h
theorem blk_range {w : World} {g : Nat} {cs : Array Value} {t : TypeId} {fr : Nat × Nat} (h : w.heap[g]? = some (.cells cs t fr)) : w.rangeAt g 0 cs.toList := fun j v hv => by
 rw [cell_of_row _ _ _ _ _ _ h, Nat.zero_add]
 simpa using hv
theorem blk_lt {w : World} {g : Nat} {o : Obj} (h : w.heap[g]? = some o) : g < w.heap.size := (Array.getElem?_eq_some_iff.1 h).1
theorem blk_new (w : World) (o : Obj) : (w.alloc o).heap[w.heap.size]? = some o := heap_alloc_new w o
theorem wpList_valA {P : Program} {ops : Array Oper} {rest : List Oper} {o : Oper} {a : Act} {w : World} {Q : Exit → Act → World → Prop} (hgd : o.guard = none) (d : Option Tmp) (v : Value) (hdst : o.dst = d) (he : (execOp a.eval o).run P w = .ok (.value v) w) (h : wpList P ops Q rest (a.put d v) w) : wpList P ops Q (o :: rest) a w := by
 subst hdst
 refine wpList_plain hgd fun K hK => ?_
 unfold Oper.wp
 rw [he]
 exact hK _ _ h
theorem blk_call {w w' : World} {o : Obj} (hg : Chg Non (w.alloc o) w') : w'.heap[w.heap.size]? = some o := blk_keep (blk_new w o) hg (fun e => e)
theorem blk_call2 {w w' : World} {o1 o2 : Obj} (hg : Chg Non ((w.alloc o1).alloc o2) w') : w'.heap[w.heap.size]? = some o1 ∧ w'.heap[w.heap.size + 1]? = some o2 ∧ w.heap.size + 1 < w'.heap.size ∧ Chg Non w w' := by
 have h2 : w'.heap[w.heap.size + 1]? = some o2 := by have := blk_call hg; simpa using this
 exact ⟨blk_keep (blk_keep (blk_new w o1) ((Chg.refl Non _).alloc o2) (fun e => e)) hg (fun e => e), h2, blk_lt h2, (((Chg.refl Non w).alloc _).alloc _).then_non hg⟩
theorem blk_call3 {w w' : World} {o1 o2 o3 : Obj} (hg : Chg Non (((w.alloc o1).alloc o2).alloc o3) w') : w'.heap[w.heap.size]? = some o1 ∧ w'.heap[w.heap.size + 1]? = some o2 ∧ w'.heap[w.heap.size + 1 + 1]? = some o3 ∧ w.heap.size + 1 + 1 < w'.heap.size ∧ Chg Non w w' := by
 have h3 : w'.heap[w.heap.size + 1 + 1]? = some o3 := by have := blk_call hg; simpa using this
 obtain ⟨h1, h2, _, hw⟩ := blk_call2 (w := w) (o1 := o1) (o2 := o2) (w' := w') (((Chg.refl Non _).alloc o3).then_non hg)
 exact ⟨h1, h2, h3, blk_lt h3, hw⟩
end
end Go.Proofs.YtmnaleaghfbclaaGreatDoor
