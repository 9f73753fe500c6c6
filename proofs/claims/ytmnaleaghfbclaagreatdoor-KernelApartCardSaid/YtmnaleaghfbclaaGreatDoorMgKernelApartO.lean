/- KernelApart, part 15 of 27: contracts of the functions that it reaches, and the laws that they need, merged and shortened (from my texts XMem, XDoP, XSchAt, XTickP, XKMapE, XKerF). -/
import Derived.Test.YtmnaleaghfbclaaGreatDoorMgKernelApartA
import Derived.Test.YtmnaleaghfbclaaGreatDoorMgKernelApartE
import Derived.Test.YtmnaleaghfbclaaGreatDoorMgKernelApartF
import Derived.Test.YtmnaleaghfbclaaGreatDoorMgKernelApartI
import Derived.Test.YtmnaleaghfbclaaGreatDoorMgKernelApartJ
import Derived.Test.YtmnaleaghfbclaaGreatDoorMgKernelApartN
namespace Go.Proofs.YtmnaleaghfbclaaGreatDoor
set_option linter.unusedVariables false
set_option linter.unusedSimpArgs false
set_option maxHeartbeats 8000000
section
open Go.RowKit
def memE (l : List UInt8) (a n : Int) : Int := if 512 < l.length then 3 else if a < 0 ∨ n < 0 ∨ (l.length : Int) < a ∨ (l.length : Int) - a < n then 180 else 0
theorem memE_there {l : List UInt8} {a n : Nat} : memE l a n = 0 ↔ there l a n = true := by
 rw [there_iff]
 unfold memE
 split
 ·constructor
  ·intro h; omega
  ·intro h; omega
 ·split
  ·constructor
   ·intro h; omega
   ·intro h; omega
  ·constructor
   ·intro h; omega
   ·intro h; rfl
set_option maxRecDepth 100000 in
theorem within_err (A : Option Addr) (l : List UInt8) (c : Nat) (a n : Int) (F : Value) (w : World) (ha : I64 a) (hn : I64 n) (hll : l.length ≤ 140737488351232) (h : memE l a n ≠ 0) :
  Calls Tryz.prog 91 #[.slice A l.length c, .int .i64 a, .int .i64 n, F] w fun e w' => e = .returned (.tuple #[.slice none 0 0, .int .i64 (memE l a n)]) ∧ w = w' := by
 unfold I64 at ha hn
 by_cases h1 : 512 < l.length
 ·have b1 : decide ((l.length : Int) > 512) = true := by simp; omega
  have he : memE l a n = 3 := by unfold memE; rw [if_pos h1]
  rw [he]
  clear h he
  go_enter Tryz.func91, Tryz.ntmps91
  go_wp2_with fail
  go_ret2
  exact ⟨rfl, rfl⟩
 ·have b1 : decide ((l.length : Int) > 512) = false := by simp; omega
  have hc : a < 0 ∨ n < 0 ∨ (l.length : Int) < a ∨ (l.length : Int) - a < n := by
   unfold memE at h
   rw [if_neg h1] at h
   by_cases hc : a < 0 ∨ n < 0 ∨ (l.length : Int) < a ∨ (l.length : Int) - a < n
   ·exact hc
   ·rw [if_neg hc] at h; exact absurd rfl h
  have he : memE l a n = 180 := by unfold memE; rw [if_neg h1, if_pos hc]
  rw [he]
  clear h he h1
  by_cases h2 : a < 0
  ·have b2 : decide (a < 0) = true := by simpa using h2
   clear hc
   go_enter Tryz.func91, Tryz.ntmps91
   go_wp2_with fail
   go_ret2
   exact ⟨rfl, rfl⟩
  have b2 : decide (a < 0) = false := by simpa using h2
  by_cases h3 : n < 0
  ·have b3 : decide (n < 0) = true := by simpa using h3
   clear hc
   go_enter Tryz.func91, Tryz.ntmps91
   go_wp2_with fail
   go_ret2
   exact ⟨rfl, rfl⟩
  have b3 : decide (n < 0) = false := by simpa using h3
  by_cases h4 : (l.length : Int) < a
  ·have b4 : decide (a > (l.length : Int)) = true := by simpa using h4
   clear hc
   go_enter Tryz.func91, Tryz.ntmps91
   go_wp2_with fail
   go_ret2
   exact ⟨rfl, rfl⟩
  have b4 : decide (a > (l.length : Int)) = false := by simpa using h4
  have b5 : decide (n > (l.length : Int) - a) = true := by simp; omega
  clear hc
  go_enter Tryz.func91, Tryz.ntmps91
  go_wp2_with fail
  go_ret2
  exact ⟨rfl, rfl⟩
set_option maxRecDepth 100000 in
theorem within_read0 (b o : Nat) (l : List UInt8) (c a : Nat) (w : World) (hc : l.length ≤ c) (hcm : c ≤ maxLen) (ht : there l a 0 = true)  :
  Calls Tryz.prog 91 #[.slice (some ⟨b, o, none⟩) l.length c, .int .i64 a, .int .i64 0, .func (.func 82) #[] #[]] w fun e w' => ∃ A2 c2, e = .returned (.tuple #[.slice A2 0 c2, .int .i64 0]) ∧ c2 ≤ maxLen ∧ Chg Non w w' := by
 obtain ⟨h1, h2⟩ := there_yes ht
 have b1 : decide ((l.length : Int) > 512) = false := by simp; omega
 have b2 : decide ((a : Int) > (l.length : Int)) = false := by simp; omega
 have b3 : decide ((0 : Int) > (l.length : Int) - (a : Int)) = false := by simp; omega
 clear ht
 have HC := Lib.hid (fun A W => SlClone_ok A [] 0 W (Rd.nil _ _) (by simp))
 go_enter Tryz.func91, Tryz.ntmps91
 go_wp2_with fail
 refine (HC.out _ _).mono ?_
 rintro e w1 ⟨A2, c2, rfl, q1, q2, q3, q4⟩
 have Q4 := Lib.hid q4
 clear q3 q4
 go_wp2_with fail
 go_ret2
 exact ⟨A2, c2, rfl, q2, Q4.out⟩
set_option maxRecDepth 100000 in
theorem within_write0 (b o : Nat) (l : List UInt8) (c a : Nat) (w : World) (hc : l.length ≤ c) (hcm : c ≤ maxLen) (ht : there l a 0 = true) (z : List UInt8) (p1 p2 p3 : Value) (hF : ∀ v W, Chg Non w W → Calls Tryz.prog 92 #[v, p1, p2, p3] W (RetB W z)) :
  Calls Tryz.prog 91 #[.slice (some ⟨b, o, none⟩) l.length c, .int .i64 a, .int .i64 0, .func (.func 92) #[] #[p1, p2, p3]] w fun e w' => ∃ A2 c2, e = .returned (.tuple #[.slice A2 z.length c2, .int .i64 0]) ∧ z.length ≤ c2 ∧ c2 ≤ maxLen ∧ Own w.heap.size w' A2 z ∧ Chg Non w w' := by
 obtain ⟨h1, h2⟩ := there_yes ht
 have b1 : decide ((l.length : Int) > 512) = false := by simp; omega
 have b2 : decide ((a : Int) > (l.length : Int)) = false := by simp; omega
 have b3 : decide ((0 : Int) > (l.length : Int) - (a : Int)) = false := by simp; omega
 have HF := Lib.hid hF
 clear ht hF
 go_enter Tryz.func91, Tryz.ntmps91
 go_wp2_with fail
 refine (HF.out _ _ (Chg.refl _ _)).mono ?_
 rintro e w1 ⟨A2, c2, rfl, q1, q2, q3, q4⟩
 have Q3 := Lib.hid q3
 have Q4 := Lib.hid q4
 clear q3 q4
 go_wp2_with fail
 go_ret2
 exact ⟨A2, c2, rfl, q1, q2, Q3.out, Q4.out⟩
set_option maxRecDepth 100000 in
theorem mread_ok (A : Option Addr) (l : List UInt8) (c a n : Nat) (w : World) (hr : Rd w A l) (h0 : 0 < l.length) (hc : l.length ≤ c) (hcm : c ≤ maxLen) (ht : there l a n = true) :
  Calls Tryz.prog 232 #[.slice A l.length c, .int .i64 a, .int .i64 n] w fun e w' => ∃ A2 c2, e = .returned (.tuple #[.slice A2 n c2, .int .i64 0]) ∧ n ≤ c2 ∧ c2 ≤ maxLen ∧ Own w.heap.size w' A2 (cut l a n) ∧ Chg Non w w' := by
 by_cases hn : 0 < n
 ·exact Read_yes A l c a n w hr hc hcm hn ht
 obtain rfl : n = 0 := by omega
 obtain ⟨b, o, rfl, _⟩ := hr.at_ h0
 have HW := Lib.hid (within_read0 b o l c a w hc hcm ht)
 clear hr ht
 go_enter Tryz.func232, Tryz.ntmps232
 go_wp2_with fail
 refine HW.out.mono ?_
 rintro e w1 ⟨A2, c2, rfl, q2, q4⟩
 have Q4 := Lib.hid q4
 clear q4
 go_wp2_with fail
 go_ret2
 exact ⟨A2, c2, rfl, Nat.zero_le _, q2, by unfold cut; rw [List.take_zero]; exact Own.nil _ _ _, Q4.out⟩
set_option maxRecDepth 100000 in
theorem mread_no (A : Option Addr) (l : List UInt8) (c a n : Nat) (w : World) (ha : a < 4294967296) (hn : n < 4294967296) (hll : l.length ≤ 140737488351232) (ht : there l a n = false) :
  Calls Tryz.prog 232 #[.slice A l.length c, .int .i64 a, .int .i64 n] w fun e w' => e = .returned (.tuple #[.slice none 0 0, .int .i64 (memE l a n)]) ∧ w = w' := by
 have hm : memE l a n ≠ 0 := fun e => by rw [memE_there] at e; rw [e] at ht; cases ht
 have HW := Lib.hid (fun F => within_err A l c a n F w (by unfold I64; omega) (by unfold I64; omega) hll hm)
 obtain ⟨r, hr⟩ : ∃ r, memE l a n = r := ⟨_, rfl⟩
 rw [hr] at HW ⊢
 clear ht hm hr
 go_enter Tryz.func232, Tryz.ntmps232
 go_wp2_with fail
 refine (HW.out _).mono ?_
 rintro e w1 ⟨rfl, rfl⟩
 go_wp2_with fail
 go_ret2
 exact ⟨rfl, rfl⟩
set_option maxRecDepth 100000 in
theorem mwrite_no (A : Option Addr) (l : List UInt8) (c : Nat) (a : Int) (B : Option Addr) (n cy : Nat) (w : World) (ha : I64 a) (hn : n ≤ 140737488351232) (hll : l.length ≤ 140737488351232) (hm : memE l a n ≠ 0) :
  Calls Tryz.prog 52 #[.slice A l.length c, .int .i64 a, .slice B n cy] w fun e w' => e = .returned (.tuple #[.slice none 0 0, .int .i64 (memE l a n)]) ∧ Chg Non w w' := by
 have HW := Lib.hid (fun F W => within_err A l c a n F W ha (by unfold I64; omega) hll hm)
 obtain ⟨r, hr⟩ : ∃ r, memE l a n = r := ⟨_, rfl⟩
 rw [hr] at HW ⊢
 clear hm hr
 go_enter Tryz.func52, Tryz.ntmps52
 go_wp2_with fail
 refine (HW.out _ _).mono ?_
 rintro e w1 ⟨rfl, rfl⟩
 go_wp2_with fail
 go_ret2
 exact ⟨rfl, (((Chg.refl Non w).alloc _).alloc _).alloc _⟩
set_option maxRecDepth 100000 in
theorem mwrite_ok (A : Option Addr) (l : List UInt8) (c a : Nat) (B : Option Addr) (y : List UInt8) (cy : Nat) (w : World) (hr : Rd w A l) (hry : Rd w B y) (h0 : 0 < l.length) (hc : l.length ≤ c) (hcm : c ≤ maxLen) (ht : there l a y.length = true) :
  Calls Tryz.prog 52 #[.slice A l.length c, .int .i64 a, .slice B y.length cy] w fun e w' => ∃ A2 c2, e = .returned (.tuple #[.slice A2 l.length c2, .int .i64 0]) ∧ l.length ≤ c2 ∧ c2 ≤ maxLen ∧ Own w.heap.size w' A2 (put l a y) ∧ Chg Non w w' := by
 by_cases hn : 0 < y.length
 ·exact Write_yes A l c a B y cy w hr hry hc hcm hn ht
 obtain rfl : y = [] := List.eq_nil_of_length_eq_zero (by omega)
 obtain ⟨h1, h2⟩ := there_yes ht
 obtain ⟨b, o, rfl, _⟩ := hr.at_ (by omega)
 have HR := Lib.hid hr
 have hpl : (put l a []).length = l.length := put_len h2
 have HPl := Lib.hid hpl
 have HT := Lib.hid ht
 clear hr hry ht hpl
 go_enter Tryz.func52, Tryz.ntmps52
 go_wp2_with fail
 have hg0 : Chg Non w (((w.alloc (.cells #[.slice (some ⟨b, o, none⟩) l.length c] 50)).alloc (.cells #[.int .i64 a] 3)).alloc (.cells #[.slice B 0 cy] 50)) := (((Chg.refl Non w).alloc _).alloc _).alloc _
 have HG0 := Lib.hid hg0
 have hw := within_write0 b o l c a _ hc hcm HT.out (put l a []) (.pointer (some ⟨w.heap.size, 0, none⟩)) (.pointer (some ⟨w.heap.size + 1, 0, none⟩)) (.pointer (some ⟨w.heap.size + 1 + 1, 0, none⟩)) (fun v W hg => write1_ok b o l c a B [] cy w.heap.size (w.heap.size + 1) (w.heap.size + 1 + 1) v W ((HR.out.non HG0.out).non hg) (Rd.nil _ _) hc hcm h1 h2 (hg.cell_some (row_cell (al_3_0 w _ _ _) rfl) (fun e => e)) (hg.cell_some (row_cell (al_3_1 w _ _ _) rfl) (fun e => e)) (hg.cell_some (row_cell (al_3_2 w _ _ _) rfl) (fun e => e)))
 rw [HPl.out] at hw
 have HW := Lib.hid hw
 clear hg0 hw
 refine HW.out.mono ?_
 rintro e w1 ⟨A2, c2, rfl, q1, q2, q3, q4⟩
 have Q3 := Lib.hid (q3.mono (show w.heap.size ≤ _ by simp; omega))
 have Q4 := Lib.hid (HG0.out.then_non q4)
 clear q3 q4
 go_wp2_with fail
 go_ret2
 exact ⟨A2, c2, rfl, q1, q2, Q3.out, Q4.out⟩
end
section
open Go.RowKit
structure Wld where
 frames : Int
 tick : Int
 ver : Int
 qs : List Qu
 inp : List UInt8
def qidP (id : Nat) : Qu → Bool := fun q => decide (q.ch.id = (id : Int))
def putQ (q : Qu) (m : List UInt8) : Qu := { q with msgs := (if (q.msgs.length : Int) = q.ch.cap then q.msgs.drop 1 else q.msgs) ++ [m] }
def low32 (n : Int) : Nat := (n % 4294967296).toNat
def sendV (p : Pt) (w : Wld) : Bool × Wld :=
 let i := idxOf (qidP (p.g 0)) w.qs
 match (if i < 0 then none else w.qs[i.toNat]?) with
 | none => (false, w)
 | some q =>
  if there p.mem (p.g 1) (p.g 2) = true ∧ q.ch.src = p.id ∧ (p.g 2 : Int) ≤ q.ch.size then
   (true, { w with qs := w.qs.set i.toNat (putQ q (cut p.mem (p.g 1) (p.g 2))) })
  else (false, w)
def recvV (p : Pt) (w : Wld) : Bool × Pt × Wld :=
 let i := idxOf (qidP (p.g 0)) w.qs
 match (if i < 0 then none else w.qs[i.toNat]?) with
 | none => (false, p, w)
 | some q =>
  if there p.mem (p.g 1) (p.g 2) = true ∧ q.ch.dst = p.id then
   match q.msgs with
   | [] => (true, p.set 0 0, w)
   | m :: rest => (true, ({ p with mem := put p.mem (p.g 1) (m.take (p.g 2)) } : Pt).set 0 ((m.length + 1) % 4294967296), { w with qs := w.qs.set i.toNat { q with msgs := rest } })
  else (false, p, w)
def inputV (p : Pt) (w : Wld) : Pt × Wld :=
 match w.inp with
 | [] => (p.set 0 0, w)
 | x :: r => (p.set 0 (x.toNat + 1), { w with inp := r })
def doV (n : Int) (p : Pt) (w : Wld) : Pt × Wld × Bool :=
 if n = 0 then (p, w, true)
 else if n = 1 then (if (sendV p w).1 = true then (p, (sendV p w).2, false) else ({ p with st := 4 }, w, false))
 else if n = 2 then (if (recvV p w).1 = true then ((recvV p w).2.1, (recvV p w).2.2, false) else ({ p with st := 4 }, w, false))
 else if n = 3 then ((p.set 0 (low32 w.frames)).set 1 (low32 w.tick), w, false)
 else if n = 4 then ((inputV p w).1, (inputV p w).2, false)
 else if n = 5 then ((p.set 0 (low32 p.id)).set 1 (low32 w.ver), w, false)
 else if n = 6 then ({ p with st := 1 }, w, false)
 else ({ p with st := 4 }, w, false)
end
section
open Go.RowKit
structure SlotAt (ws : List Win) (tick : Int) (k : Nat) (a : Win) : Prop where
 at_ : ws[k]? = some a
 lo : wsum (ws.take k) ≤ tick
 hi : tick < wsum (ws.take k) + a.len
def AtP (ws : List Win) (tick : Int) (w : World) (e : Ending) (w' : World) : Prop :=
 ∃ k a, SlotAt ws tick k a ∧ e = .returned (.tuple #[.agg #[.int .i64 (k : Int), .int .i64 a.part, .int .i64 (wsum (ws.take k)), .int .i64 (wsum (ws.take k) + a.len - tick)], .int .i64 0]) ∧ Chg Non w w'
def AtInv (ws : List Win) (w : World) (g : Nat) (k : Nat) (wr : World) : Prop :=
 ∃ a0 a1 : Int, wr.heap[g]? = some (.cells #[.int .i64 a0, .int .i64 a1, .int .i64 (wsum (ws.take k)), .int .i64 0] 88 (0, 0)) ∧ wr.heap[w.heap.size]? = some (.cells #[.int .i64 0, .int .i64 0, .int .i64 0, .int .i64 0] 88 (0, 0)) ∧ Chg Non w wr ∧ w.heap.size < g
theorem r5_setI {w : World} {g i : Nat} {cs : Array Value} {t : TypeId} {fr : Nat × Nat} (u : Value) (h : w.heap[g]? = some (.cells cs t fr)) : (w.setCell ⟨g, i, none⟩ u).heap[g]? = some (.cells (cs.setIfInBounds i u) t fr) := by
 have hlt := (Array.getElem?_eq_some_iff.1 h).1
 have h' : w.heap[g] = .cells cs t fr := by simpa [Array.getElem?_eq_getElem hlt] using h
 show (w.heap.modify g _)[g]? = _
 rw [Array.getElem?_eq_getElem (by simpa using hlt), Array.getElem_modify_self, h']
 rfl
set_option maxRecDepth 100000 in
theorem schAt_ok (I : Nat → Prop) (A : Option Addr) (ws : List Win) (c : Nat) (tick : Int) (w : World) (hr : RdL winV I 2 w A ws) (hc : ws.length ≤ c) (hm : c ≤ maxLen) (hmay : schMay ws = true) (h0 : 0 ≤ tick) (h1 : tick < wsum ws) :
  Calls Tryz.prog 36 #[.slice A ws.length c, .int .i64 tick] w (AtP ws tick w) := by
 obtain ⟨hw1, hw12, hal, hsum⟩ := schMay_bd hmay
 have HF := Lib.hid (fun W (hg : Chg Non w W) => schFrame_ok I A ws c W (hr.non hg (fun _ _ h => h)) hc hm)
 have hfe : schFrame ws = wsum ws := by rw [schFrame, if_pos hmay]
 rw [hfe] at HF
 unfold maxLen at hm
 have HR := Lib.hid hr
 have HAll := Lib.hid hal
 obtain ⟨fr, hfr⟩ : ∃ fr, wsum ws = fr := ⟨_, rfl⟩
 rw [hfr] at HF hsum h1
 have HFr := Lib.hid hfr
 have d0 : decide (tick < 0) = false := by rw [decide_eq_false_iff_not]; omega
 have d1 : decide (fr ≤ tick) = false := by rw [decide_eq_false_iff_not]; omega
 clear hr hal hfr hfe hmay
 go_enter Tryz.func36, Tryz.ntmps36
 go_wp2
 go_step3
 go_wp2_with fail
 refine (HF.out _ ((Chg.refl Non w).alloc _)).mono ?_
 rintro e u ⟨rfl, hg⟩
 have HB0 := Lib.hid ((hg.block _ (by simp) (fun e => e)).trans (heap_alloc_new w _))
 have hus : w.heap.size < u.heap.size := by have := hg.size; simp at this; omega
 have HG0 := Lib.hid (((Chg.refl Non w).alloc _).then_non hg)
 clear hg
 go_wp2_with fail
 go_step3
 go_wp2_with fail
 go_loopw [20] (fun iv wr => ∃ k : Nat, k ≤ ws.length ∧ iv = .int .i64 k ∧ Hid (wsum (ws.take k) ≤ tick) ∧ Hid (AtInv ws w u.heap.size k wr)) (fun iv _ => ws.length - (intOf iv).toNat)
 case atStart => exact ⟨0, Nat.zero_le _, rfl, Lib.hid (by simpa [wsum] using h0), Lib.hid ⟨0, 0, heap_alloc_new _ _, (Below.heap_alloc u _ _ hus).trans HB0.out, HG0.out.alloc _, hus⟩⟩
 case round =>
  obtain ⟨k, hk, rfl, HLo, HI⟩ := hrel
  have hlt : k < ws.length := by
   rcases Nat.lt_or_ge k ws.length with h | h
   ·exact h
   ·exfalso
    have h2 := HLo.out
    rw [List.take_of_length_le h, HFr.out] at h2
    omega
  have hbd := wsum_bd (ws := ws) k (fun i a hi ha => HAll.out a (List.mem_of_getElem? ha))
  obtain ⟨a, ha⟩ : ∃ a, ws[k]? = some a := ⟨_, List.getElem?_eq_getElem hlt⟩
  obtain ⟨a0, a1, hi6, hi4, hig, _⟩ := HI.out
  obtain ⟨b, o, rfl, k0, k1, hbl, hi1, hi2⟩ := win_at HR.out hig ha
  have hltd : decide ((k : Int) < (ws.length : Int)) = true := by simpa using hlt
  have hk0 : (0 : Int) ≤ (k : Int) := by omega
  have hkl : (k : Int) < (ws.length : Int) := by omega
  obtain ⟨o1, o2, o3, o4⟩ := winOk_iff.1 (HAll.out a (List.mem_of_getElem? ha))
  have hlo := HLo.out
  have hsn := wsum_snoc ha
  have HSl : Hid (tick < wsum (ws.take k) + a.len → SlotAt ws tick k a) := Lib.hid (fun h => ⟨ha, hlo, h⟩)
  have HSn := Lib.hid hsn
  have hi6l := (Array.getElem?_eq_some_iff.1 hi6).1
  have hi4l := (Array.getElem?_eq_some_iff.1 hi4).1
  have h6 := Lib.hid hi6
  have h4 := Lib.hid hi4
  have HG := Lib.hid hig
  clear ha hsn hi6 hi4 hig
  obtain ⟨s, hs⟩ : ∃ s, wsum (ws.take k) = s := ⟨_, rfl⟩
  have HS := Lib.hid hs
  simp only [hs] at HSl HSn hbd hlo
  clear hs HLo
  obtain ⟨x, y⟩ := a
  simp only at k0 k1 hi1 hi2 o1 o2 o3 o4 HSl HSn
  go_wp2_with fail
  refine wp_region_held_drew (S := Chg (fun x => x = u.heap.size) (wr.alloc (.cells #[.int .i64 x, .int .i64 y] 49)).drew) (by kernel_rfl) (Chg.refl _ _) (fun hHeld => ?_)
  clear hHeld
  have q1 : (wr.alloc (.cells #[.int .i64 x, .int .i64 y] 49)).drew.cell? ⟨wr.heap.size, 1, none⟩ = some (.int .i64 y) := by
   have hb := heap_alloc_new wr (.cells #[.int .i64 x, .int .i64 y] 49)
   rw [show (wr.alloc (.cells #[.int .i64 x, .int .i64 y] 49)).drew.cell? ⟨wr.heap.size, 1, none⟩ = (wr.alloc (.cells #[.int .i64 x, .int .i64 y] 49)).cell? ⟨wr.heap.size, 1, none⟩ from rfl, cell_of_row _ _ _ _ _ _ hb]
   rfl
  have HV : Hid ((wr.alloc (.cells #[.int .i64 x, .int .i64 y] 49)).drew.heap[u.heap.size]? = some (.cells #[.int .i64 a0, .int .i64 a1, .int .i64 s, .int .i64 0] 88 (0, 0))) := Lib.hid ((Below.heap_alloc wr _ _ hi6l).trans (by rw [← HS.out]; exact h6.out))
  have HV4 : Hid ((wr.alloc (.cells #[.int .i64 x, .int .i64 y] 49)).drew.heap[w.heap.size]? = some (.cells #[.int .i64 0, .int .i64 0, .int .i64 0, .int .i64 0] 88 (0, 0))) := Lib.hid ((Below.heap_alloc wr _ _ hi4l).trans h4.out)
  have HV8 : Hid ((wr.alloc (.cells #[.int .i64 x, .int .i64 y] 49)).drew.heap[wr.heap.size]? = some (.cells #[.int .i64 x, .int .i64 y] 49 (0, 0))) := Lib.hid (heap_alloc_new _ _)
  have HGv := Lib.hid ((HG.out.alloc (.cells #[.int .i64 x, .int .i64 y] 49)).drew)
  have kf : (wr.alloc (.cells #[.int .i64 x, .int .i64 y] 49)).drew.frozen? ⟨u.heap.size, 0, none⟩ = false := frozen_of_row _ _ _ _ _ HV.out
  have kf1 : (wr.alloc (.cells #[.int .i64 x, .int .i64 y] 49)).drew.frozen? ⟨u.heap.size, 1, none⟩ = false := frozen_of_row _ _ _ _ _ HV.out
  have kc : (wr.alloc (.cells #[.int .i64 x, .int .i64 y] 49)).drew.cell? ⟨u.heap.size, 0, none⟩ = some (.int .i64 a0) := by have := cell_of_row _ u.heap.size 0 _ _ _ HV.out; exact this
  have kc1 : (wr.alloc (.cells #[.int .i64 x, .int .i64 y] 49)).drew.cell? ⟨u.heap.size, 1, none⟩ = some (.int .i64 a1) := by have := cell_of_row _ u.heap.size 1 _ _ _ HV.out; exact this
  generalize (wr.alloc (.cells #[.int .i64 x, .int .i64 y] 49)).drew = v1 at *
  refine hp 0 25 (.int .i64 (k : Int)) rfl (Chg.refl _ _) ?_
  refine hp 1 26 (.pointer (some ⟨wr.heap.size, 1, none⟩)) rfl (Chg.refl _ _) ?_
  refine hp 2 27 (.int .i64 y) rfl (Chg.refl _ _) ?_ (he := (fun W hW => by have hcell := hW.cell_some (p := ⟨wr.heap.size, 1, none⟩) q1 (by show ¬ (wr.heap.size = u.heap.size); omega); go_simp))
  refine hp 3 28 (.pointer (some ⟨u.heap.size, 0, none⟩)) rfl (Chg.refl _ _) ?_
  refine h_one 4 (by kernel_rfl) rfl (by kernel_rfl) ?_
  intro K hK
  go_simp
  refine hK.out _ _ (setAt _ _ _ _) (fun _ => ?_)
  clear hK K
  refine hp 5 29 (.pointer (some ⟨u.heap.size, 1, none⟩)) rfl (setAt _ _ _ _) ?_
  refine h_one 6 (by kernel_rfl) rfl (by kernel_rfl) ?_
  intro K hK
  go_simp
  refine hK.out _ _ ((setAt _ _ _ _).trans_same (setAt _ _ _ _)) (fun _ => ?_)
  clear hK K
  refine wpAnyH_done (by kernel_rfl) ?_ _
  have hz := r5_setI (i := 1) (.int .i64 y) (r5_setI (i := 0) (.int .i64 (k : Int)) HV.out)
  have hgz : Chg (fun x => x = u.heap.size) v1 _ := (setAt v1 u.heap.size 0 (.int .i64 (k : Int))).trans_same (setAt _ u.heap.size 1 (.int .i64 y))
  generalize ((v1.setCell ⟨u.heap.size, 0, none⟩ (.int .i64 (k : Int))).setCell ⟨u.heap.size, 1, none⟩ (.int .i64 y)) = v2 at *
  have hz4 := (hgz.block _ (Array.getElem?_eq_some_iff.1 HV4.out).1 (by omega)).trans HV4.out
  have hz8 := (hgz.block _ (Array.getElem?_eq_some_iff.1 HV8.out).1 (by omega)).trans HV8.out
  simp only [List.setIfInBounds_toArray, List.set_cons_zero, List.set_cons_succ] at hz
  have m2 : v2.cell? ⟨u.heap.size, 2, none⟩ = some (.int .i64 s) := by rw [cell_of_row _ _ _ _ _ _ hz]; rfl
  have m0 : v2.cell? ⟨u.heap.size, 0, none⟩ = some (.int .i64 (k : Int)) := by rw [cell_of_row _ _ _ _ _ _ hz]; rfl
  have m1 : v2.cell? ⟨u.heap.size, 1, none⟩ = some (.int .i64 y) := by rw [cell_of_row _ _ _ _ _ _ hz]; rfl
  have m3 : v2.cell? ⟨u.heap.size, 3, none⟩ = some (.int .i64 0) := by rw [cell_of_row _ _ _ _ _ _ hz]; rfl
  have mf : ∀ i, v2.frozen? ⟨u.heap.size, i, none⟩ = false := fun i => frozen_of_row _ _ _ _ _ hz
  have mf2 := mf 2
  have mf3 := mf 3
  have n0 : v2.cell? ⟨wr.heap.size, 0, none⟩ = some (.int .i64 x) := by rw [cell_of_row _ _ _ _ _ _ hz8]; rfl
  have r0 : v2.cell? ⟨w.heap.size, 0, none⟩ = some (.int .i64 0) := by rw [cell_of_row _ _ _ _ _ _ hz4]; rfl
  have rf0 : v2.frozen? ⟨w.heap.size, 0, none⟩ = false := frozen_of_row _ _ _ _ _ hz4
  have r1 : v2.cell? ⟨w.heap.size, 1, none⟩ = some (.int .i64 0) := by rw [cell_of_row _ _ _ _ _ _ hz4]; rfl
  have rf1 : v2.frozen? ⟨w.heap.size, 1, none⟩ = false := frozen_of_row _ _ _ _ _ hz4
  have r2 : v2.cell? ⟨w.heap.size, 2, none⟩ = some (.int .i64 0) := by rw [cell_of_row _ _ _ _ _ _ hz4]; rfl
  have rf2 : v2.frozen? ⟨w.heap.size, 2, none⟩ = false := frozen_of_row _ _ _ _ _ hz4
  have r3 : v2.cell? ⟨w.heap.size, 3, none⟩ = some (.int .i64 0) := by rw [cell_of_row _ _ _ _ _ _ hz4]; rfl
  have rf3 : v2.frozen? ⟨w.heap.size, 3, none⟩ = false := frozen_of_row _ _ _ _ _ hz4
  have HZ := Lib.hid hz
  have HZ4 := Lib.hid hz4
  have HGz := Lib.hid (HGv.out.then_new hgz (fun x e => by omega))
  clear mf hz hz4 hz8 hgz q1 kf kf1 kc kc1 k0 k1
  by_cases hin : tick < s + x
  ·have hind : decide (tick < s + x) = true := by simpa using hin
   have HSl2 := Lib.hid (HSl.out hin)
   go_wp2_with fail
   have g3 := chg_set v2 u.heap.size 3 (.int .i64 (s + x - tick))
   have b4 := blk_keep HZ4.out g3 (by omega)
   have b5 := blk_set 3 (.int .i64 (s + x - tick)) (blk_set 2 (.int .i64 s) (blk_set 1 (.int .i64 y) (blk_set 0 (.int .i64 (k : Int)) b4)))
   have hgf := HGz.out.then_new (g3.trans (((chg_set _ w.heap.size 0 (.int .i64 (k : Int))).trans_same (chg_set _ w.heap.size 1 (.int .i64 y))).trans_same ((chg_set _ w.heap.size 2 (.int .i64 s)).trans_same (chg_set _ w.heap.size 3 (.int .i64 (s + x - tick))))) (U := fun b => w.heap.size ≤ b) (fun b e => by omega) (fun b _ e => by omega)) (fun b e => e)
   exact bodyPost_ret (res_ct Tryz.results36 _ _ w.heap.size 88 _ (0, 0) _ (.int .i64 0) (by kernel_rfl) (by kernel_rfl) b5 Tryz.underlying88 rfl (by kernel_rfl)) (by kernel_rfl) ⟨k, ⟨x, y⟩, HSl2.out, by rw [HS.out]; rfl, hgf⟩
  ·have hind : decide (tick < s + x) = false := by simpa using hin
   have HLo2 : Hid (wsum (ws.take (k + 1)) ≤ tick) := Lib.hid (by rw [HSn.out]; omega)
   have HI2 : Hid (AtInv ws w u.heap.size (k + 1) (v2.setCell ⟨u.heap.size, 2, none⟩ (.int .i64 (s + x)))) := Lib.hid ⟨(k : Int), y, by rw [r5_setI _ HZ.out, HSn.out]; rfl, ((setAt v2 u.heap.size 2 (.int .i64 (s + x))).block _ (Array.getElem?_eq_some_iff.1 HZ4.out).1 (by omega)).trans HZ4.out, HGz.out.then_new (setAt v2 u.heap.size 2 (.int .i64 (s + x))) (fun x e => by omega), hus⟩
   go_wp2_with fail
   exact ⟨⟨k + 1, by omega, by simp, HLo2, HI2⟩, by simp [intOf]; omega⟩
end
section
open Go.RowKit
def slotGo : Int → List Win → Int → Int × Int
 | acc, [], tick => (acc, 0)
 | acc, a :: r, tick => if tick < acc + a.len then (acc, a.part) else slotGo (acc + a.len) r tick
def slotV (ws : List Win) (tick : Int) : Int × Int := slotGo 0 ws tick
theorem wsum_cons (a : Win) (r : List Win) : wsum (a :: r) = a.len + wsum r := by simp [wsum]
theorem wsum_ge {ws : List Win} (h : ∀ a ∈ ws, winOk a = true) : 0 ≤ wsum ws := by
 induction ws with
 | nil => simp [wsum]
 | cons a r ih =>
  rw [wsum_cons]
  have := (winOk_iff.1 (h a (List.mem_cons_self ..))).1
  have := ih (fun b hb => h b (List.mem_cons_of_mem _ hb))
  omega
theorem slotGo_at {tick : Int} {a : Win} : ∀ (ws : List Win) (acc : Int) (k : Nat), (∀ a ∈ ws, winOk a = true) → ws[k]? = some a → acc + wsum (ws.take k) ≤ tick → tick < acc + wsum (ws.take k) + a.len → slotGo acc ws tick = (acc + wsum (ws.take k), a.part)
 | [], acc, k, _, h, _, _ => by simp at h
 | b :: r, acc, 0, hall, h, h1, h2 => by
  simp only [List.getElem?_cons_zero, Option.some.injEq] at h
  subst h
  simp only [List.take_zero, wsum, List.map_nil, List.sum_nil, Int.add_zero] at h1 h2 ⊢
  rw [slotGo, if_pos h2]
 | b :: r, acc, k + 1, hall, h, h1, h2 => by
  rw [List.getElem?_cons_succ] at h
  rw [List.take_succ_cons, wsum_cons] at h1 h2 ⊢
  have hr : ∀ a ∈ r, winOk a = true := fun a ha => hall a (List.mem_cons_of_mem _ ha)
  have := wsum_ge (ws := r.take k) (fun a ha => hr a (List.mem_of_mem_take ha))
  rw [slotGo, if_neg (by omega), slotGo_at r (acc + b.len) k hr h (by omega) (by omega)]
  congr 1
  omega
theorem SlotAt.slot {ws : List Win} {tick : Int} {k : Nat} {a : Win} (h : SlotAt ws tick k a) (hall : ∀ a ∈ ws, winOk a = true) : slotV ws tick = (wsum (ws.take k), a.part) := by
 have hlo := h.lo
 have hhi := h.hi
 have := slotGo_at (tick := tick) (a := a) ws 0 k hall h.at_ (by omega) (by omega)
 rw [Int.zero_add] at this
 exact this
def updI (m : List (Int × List UInt8)) (i : Int) (v : List UInt8) : List (Int × List UInt8) := if (m.find? (fun p => p.1 == i)).isSome then m.map (fun p => if p.1 == i then (i, v) else p) else m ++ [(i, v)]
def Kn.wld (k : Kn) (p : Pt) : Wld := ⟨k.s.frames, k.tick, k.ver, k.s.queues, k.waits p.id⟩
def doesV (i : Nat) (k : Kn) : Kn :=
 match k.s.parts[i]? with
 | none => k
 | some p =>
  if p.st = 0 ∧ k.yl = false then
   if (stepV p).2.1 < 0 then { k with s := { k.s with parts := k.s.parts.set i (stepV p).1 } }
   else
    let d := doV (stepV p).2.1 (stepV p).1 (k.wld (stepV p).1)
    { k with s := { k.s with parts := k.s.parts.set i d.1, queues := d.2.1.qs }, inp := updI k.inp (stepV p).1.id d.2.1.inp, yl := d.2.2 }
  else k
def Kn.fresh (k : Kn) : Kn := if (slotV k.c.ws k.tick).1 = k.tick then { k with yl := false } else k
def Kn.turn (k : Kn) : Kn := if idxOf (idP (slotV k.c.ws k.tick).2) k.s.parts < 0 then k.fresh else doesV (idxOf (idP (slotV k.c.ws k.tick).2) k.s.parts).toNat k.fresh
def Kn.next (k : Kn) : Kn := if k.tick + 1 < wsum k.c.ws then { k with tick := k.tick + 1 } else { k with tick := 0, s := { k.s with frames := min (k.s.frames + 1) 1099511627776 } }
def Kn.ticked (k : Kn) : Kn := k.turn.next
def Kn.ends (k : Kn) : Bool := !decide (k.tick + 1 < wsum k.c.ws)
structure Kn.Good (k : Kn) : Prop where
 sch : schMay k.c.ws = true
 t0 : 0 ≤ k.tick
 t1 : k.tick < wsum k.c.ws
 f0 : 0 ≤ k.s.frames
 f1 : k.s.frames ≤ 1099511627776
 pl : k.s.parts.length ≤ 6
 ql : k.s.queues.length ≤ 8
 pm : ∀ p ∈ k.s.parts, partOk p = true
 qm : ∀ q ∈ k.s.queues, mayQ q = true
 il : ∀ x ∈ k.inp, x.2.length ≤ 64
theorem regMay_zero {n : Int} (h : regMay 0 n = true) : 16 ≤ n ∧ n ≤ 512 := by
 simp [regMay] at h
 omega
theorem partOk_mem {p : Pt} (h : partOk p = true) : 16 ≤ p.mem.length ∧ p.mem.length ≤ 512 := by
 simp [partOk] at h
 have := regMay_zero h.1.1.2
 omega
theorem partOk_of {p q : Pt} (h : partOk p = true) (hi : q.id = p.id) (hs : q.size = p.size) (hm : q.mem.length = p.mem.length) (ht : q.st ≤ 4) : partOk q = true := by
 simp only [partOk, Bool.and_eq_true, decide_eq_true_eq] at h ⊢
 rw [hi, hs, hm]
 exact ⟨h.1, by omega⟩
theorem step_id (p : Pt) : (stepV p).1.id = p.id ∧ (stepV p).1.size = p.size ∧ (stepV p).1.keep = p.keep ∧ (stepV p).1.mem.length = p.mem.length := by
 rcases step_shape p with ⟨h, _⟩ | ⟨⟨v, h⟩, _⟩ | ⟨⟨a, v, h⟩, _⟩ | ⟨⟨a, b, h1, h2, h⟩, _⟩ | ⟨h, _⟩
 ·rw [h]; exact ⟨rfl, rfl, rfl, rfl⟩
 ·rw [h]; exact ⟨rfl, rfl, rfl, rfl⟩
 ·rw [h]; exact ⟨rfl, rfl, rfl, rfl⟩
 ·rw [h]; exact ⟨rfl, rfl, rfl, put_len h2⟩
 ·rw [h]; exact ⟨rfl, rfl, rfl, rfl⟩
theorem does_st {x : Ins} {p q : Pt} (h : does x p = some q) : q.st = p.st := by
 rcases does_shape h with rfl | ⟨a, v, rfl, _⟩ | ⟨a, b, _, _, rfl, _⟩
 ·rfl
 ·rfl
 ·rfl
theorem step_st {p : Pt} (h : p.st ≤ 4) : (stepV p).1.st ≤ 4 := by
 unfold stepV
 split
 ·exact h
 ·split
  ·exact Nat.le_of_ble_eq_true rfl
  ·split
   ·split
    ·exact h
    ·split
     ·exact Nat.le_of_ble_eq_true rfl
     ·rename_i q hq
      have := does_st hq
      show q.st ≤ 4
      omega
   ·exact Nat.le_of_ble_eq_true rfl
theorem step_call {p : Pt} (h : ¬ (stepV p).2.1 < 0) : p.st = 0 ∧ (stepV p).1.st = 0 := by
 unfold stepV at h ⊢
 split at h
 ·exact absurd (show (-1 : Int) < 0 by decide) h
 ·rename_i h0
  have h0 : p.st = 0 := by omega
  split at h
  ·exact absurd (show (-1 : Int) < 0 by decide) h
  ·split at h
   ·split at h
    ·exact absurd (show (-1 : Int) < 0 by decide) h
    ·split at h
     ·exact absurd (show (-1 : Int) < 0 by decide) h
     ·rename_i _ x hf hm hj _ q hq
      rw [if_neg (by omega)]
      simp only [hf, hm, hj, if_true, hq]
      refine ⟨h0, ?_⟩
      have := does_st hq
      simpa [this] using h0
   ·exact absurd (show (-1 : Int) < 0 by decide) h
theorem partOk_step {p : Pt} (h : partOk p = true) : partOk (stepV p).1 = true := by
 obtain ⟨h1, h2, _, h4⟩ := step_id p
 have hs : p.st ≤ 4 := by simp [partOk] at h; omega
 exact partOk_of h h1 h2 h4 (step_st hs)
theorem do_id (n : Int) (p : Pt) (w : Wld) : (doV n p w).1.id = p.id ∧ (doV n p w).1.size = p.size ∧ (doV n p w).1.keep = p.keep ∧ (doV n p w).1.mem.length = p.mem.length ∧ (p.st ≤ 4 → (doV n p w).1.st ≤ 4) := by
 unfold doV
 split
 ·exact ⟨rfl, rfl, rfl, rfl, fun h => h⟩
 split
 ·split
  ·exact ⟨rfl, rfl, rfl, rfl, fun h => h⟩
  ·exact ⟨rfl, rfl, rfl, rfl, fun h => Nat.le_of_ble_eq_true rfl⟩
 split
 ·split
  ·unfold recvV
   simp only
   split
   ·exact ⟨rfl, rfl, rfl, rfl, fun h => h⟩
   ·split
    ·rename_i q hq ht
     split
     ·exact ⟨rfl, rfl, rfl, rfl, fun h => h⟩
     ·rename_i m rest hm
      refine ⟨rfl, rfl, rfl, ?_, fun h => h⟩
      show (put p.mem (p.g 1) (m.take (p.g 2))).length = _
      refine put_len ?_
      have := ((there_iff _ _ _).1 ht.1).2
      rw [List.length_take]
      omega
    ·exact ⟨rfl, rfl, rfl, rfl, fun h => h⟩
  ·exact ⟨rfl, rfl, rfl, rfl, fun h => Nat.le_of_ble_eq_true rfl⟩
 split
 ·exact ⟨rfl, rfl, rfl, rfl, fun h => h⟩
 split
 ·unfold inputV
  split
  ·exact ⟨rfl, rfl, rfl, rfl, fun h => h⟩
  ·exact ⟨rfl, rfl, rfl, rfl, fun h => h⟩
 split
 ·exact ⟨rfl, rfl, rfl, rfl, fun h => h⟩
 split
 ·exact ⟨rfl, rfl, rfl, rfl, fun h => Nat.le_of_ble_eq_true rfl⟩
 ·exact ⟨rfl, rfl, rfl, rfl, fun h => Nat.le_of_ble_eq_true rfl⟩
theorem mayQ_iff {q : Qu} : mayQ q = true ↔ q.ch.may = true ∧ (q.msgs.length : Int) ≤ q.ch.cap ∧ ∀ m ∈ q.msgs, (m.length : Int) ≤ q.ch.size := by
 simp only [mayQ, Bool.and_eq_true, decide_eq_true_eq, Bool.not_eq_true', List.any_eq_false, Int.not_lt]
 exact ⟨fun h => ⟨h.1.1, h.1.2, h.2⟩, fun h => ⟨⟨h.1, h.2.1⟩, h.2.2⟩⟩
theorem mayQ_put {q : Qu} {m : List UInt8} (h : mayQ q = true) (hm : (m.length : Int) ≤ q.ch.size) (hc : 1 ≤ q.ch.cap) : mayQ (putQ q m) = true := by
 obtain ⟨h1, h2, h3⟩ := mayQ_iff.1 h
 refine mayQ_iff.2 ⟨h1, ?_, ?_⟩
 ·show (((if (q.msgs.length : Int) = q.ch.cap then q.msgs.drop 1 else q.msgs) ++ [m]).length : Int) ≤ q.ch.cap
  split
  ·simp
   omega
  ·simp
   omega
 ·intro x hx
  have hx' : x ∈ (if (q.msgs.length : Int) = q.ch.cap then q.msgs.drop 1 else q.msgs) ++ [m] := hx
  show (x.length : Int) ≤ q.ch.size
  rcases List.mem_append.1 hx' with hx | hx
  ·split at hx
   ·exact h3 x (List.mem_of_mem_drop hx)
   ·exact h3 x hx
  ·rw [List.mem_singleton.1 hx]; exact hm
theorem cut_le (l : List UInt8) (a n : Nat) : (cut l a n).length ≤ n := by unfold cut; rw [List.length_take]; omega
theorem ch_may {c : Ch} (h : c.may = true) : 1 ≤ c.cap ∧ c.cap ≤ 4 ∧ 1 ≤ c.size ∧ c.size ≤ 16 ∧ 1 ≤ c.id ∧ c.id ≤ 8 := by
 simp [Ch.may, chMay] at h
 omega
theorem do_qs (n : Int) (p : Pt) (w : Wld) (h : ∀ q ∈ w.qs, mayQ q = true) : (doV n p w).2.1.qs.length = w.qs.length ∧ (∀ q ∈ (doV n p w).2.1.qs, mayQ q = true) ∧ (doV n p w).2.1.inp.length ≤ w.inp.length := by
 unfold doV
 split
 ·exact ⟨rfl, h, Nat.le_refl _⟩
 split
 ·split
  ·unfold sendV
   simp only
   split
   ·exact ⟨rfl, h, Nat.le_refl _⟩
   ·rename_i q hq
    split
    ·rename_i hc
     refine ⟨by simp, fun x hx => ?_, Nat.le_refl _⟩
     rcases List.mem_or_eq_of_mem_set hx with hx | hx
     ·exact h x hx
     ·rw [hx]
      have hqm : q ∈ w.qs := by
       split at hq
       ·cases hq
       ·exact List.mem_of_getElem? hq
      have hc2 := hc.2.2
      have := cut_le p.mem (p.g 1) (p.g 2)
      exact mayQ_put (h q hqm) (by omega) (ch_may (mayQ_iff.1 (h q hqm)).1).1
    ·exact ⟨rfl, h, Nat.le_refl _⟩
  ·exact ⟨rfl, h, Nat.le_refl _⟩
 split
 ·split
  ·unfold recvV
   simp only
   split
   ·exact ⟨rfl, h, Nat.le_refl _⟩
   ·rename_i q hq
    split
    ·split
     ·exact ⟨rfl, h, Nat.le_refl _⟩
     ·rename_i m rest hm
      refine ⟨by simp, fun x hx => ?_, Nat.le_refl _⟩
      rcases List.mem_or_eq_of_mem_set hx with hx | hx
      ·exact h x hx
      ·rw [hx]
       have hqm : q ∈ w.qs := by
        split at hq
        ·cases hq
        ·exact List.mem_of_getElem? hq
       obtain ⟨h1, h2, h3⟩ := mayQ_iff.1 (h q hqm)
       rw [hm] at h2 h3
       exact mayQ_iff.2 ⟨h1, by show (rest.length : Int) ≤ q.ch.cap; simp at h2; omega, fun x hx => h3 x (List.mem_cons_of_mem _ hx)⟩
    ·exact ⟨rfl, h, Nat.le_refl _⟩
  ·exact ⟨rfl, h, Nat.le_refl _⟩
 split
 ·exact ⟨rfl, h, Nat.le_refl _⟩
 split
 ·unfold inputV
  split
  ·exact ⟨rfl, h, Nat.le_refl _⟩
  ·rename_i x r hi
   refine ⟨rfl, h, ?_⟩
   show r.length ≤ _
   rw [hi]
   simp
 split
 ·exact ⟨rfl, h, Nat.le_refl _⟩
 split
 ·exact ⟨rfl, h, Nat.le_refl _⟩
 ·exact ⟨rfl, h, Nat.le_refl _⟩
theorem mem_updI {m : List (Int × List UInt8)} {i : Int} {v : List UInt8} {x : Int × List UInt8} (h : x ∈ updI m i v) : x ∈ m ∨ x = (i, v) := by
 unfold updI at h
 split at h
 ·obtain ⟨y, hy, rfl⟩ := List.mem_map.1 h
  split
  ·exact .inr rfl
  ·exact .inl hy
 ·rcases List.mem_append.1 h with h | h
  ·exact .inl h
  ·exact .inr (List.mem_singleton.1 h)
theorem waits_le {k : Kn} (h : ∀ x ∈ k.inp, x.2.length ≤ 64) (id : Int) : (k.waits id).length ≤ 64 := by
 unfold Kn.waits
 cases hf : k.inp.find? (fun p => p.1 == id) with
 | none => simp
 | some x => exact h x (List.mem_of_find?_eq_some hf)
theorem Kn.Good.does {k : Kn} (h : k.Good) (i : Nat) : (doesV i k).Good := by
 unfold doesV
 split
 ·exact h
 ·rename_i p hp
  have hpm := h.pm p (List.mem_of_getElem? hp)
  split
  ·split
   ·exact ⟨h.sch, h.t0, h.t1, h.f0, h.f1, by simpa using h.pl, h.ql, fun x hx => by
      rcases List.mem_or_eq_of_mem_set hx with hx | hx
      · exact h.pm x hx
      · rw [hx]; exact partOk_step hpm, h.qm, h.il⟩
   ·obtain ⟨q1, q2, q3⟩ := do_qs (stepV p).2.1 (stepV p).1 (k.wld (stepV p).1) h.qm
    obtain ⟨r1, r2, r3, r4, r5⟩ := do_id (stepV p).2.1 (stepV p).1 (k.wld (stepV p).1)
    refine ⟨h.sch, h.t0, h.t1, h.f0, h.f1, by simpa using h.pl, ?_, fun x hx => ?_, q2, fun x hx => ?_⟩
    ·show (doV (stepV p).2.1 (stepV p).1 (k.wld (stepV p).1)).2.1.qs.length ≤ 8
     rw [q1]
     exact h.ql
    ·rcases List.mem_or_eq_of_mem_set hx with hx | hx
     ·exact h.pm x hx
     ·rw [hx]
      have hs := partOk_step hpm
      exact partOk_of hs r1 r2 r4 (r5 (by simp [partOk] at hs; omega))
    ·rcases mem_updI hx with hx | hx
     ·exact h.il x hx
     ·rw [hx]
      exact Nat.le_trans q3 (waits_le h.il _)
  ·exact h
theorem Kn.Good.fresh {k : Kn} (h : k.Good) : k.fresh.Good := by
 unfold Kn.fresh
 split
 ·exact ⟨h.sch, h.t0, h.t1, h.f0, h.f1, h.pl, h.ql, h.pm, h.qm, h.il⟩
 ·exact h
theorem Kn.Good.turn {k : Kn} (h : k.Good) : k.turn.Good := by
 unfold Kn.turn
 split
 ·exact h.fresh
 ·exact h.fresh.does _
theorem Kn.Good.next {k : Kn} (h : k.Good) : k.next.Good := by
 unfold Kn.next
 have h0 := h.t0
 have h1 := h.t1
 have hf := h.f0
 have hf1 := h.f1
 split
 ·exact ⟨h.sch, by show 0 ≤ k.tick + 1; omega, by assumption, h.f0, h.f1, h.pl, h.ql, h.pm, h.qm, h.il⟩
 ·exact ⟨h.sch, Int.le_refl _, by show 0 < wsum k.c.ws; omega, by show 0 ≤ min (k.s.frames + 1) 1099511627776; omega, by show min (k.s.frames + 1) 1099511627776 ≤ 1099511627776; omega, h.pl, h.ql, h.pm, h.qm, h.il⟩
theorem Kn.Good.ticked {k : Kn} (h : k.Good) : k.ticked.Good := h.turn.next
theorem Kn.Good.small {k : Kn} (h : k.Good) : k.s.parts.length ≤ 1000 ∧ k.s.queues.length ≤ 1000 ∧ ∀ a ∈ k.s.queues, a.msgs.length ≤ 1000 := by
 refine ⟨by have := h.pl; omega, by have := h.ql; omega, fun a ha => ?_⟩
 obtain ⟨h1, h2, h3⟩ := mayQ_iff.1 (h.qm a ha)
 have := ch_may h1
 omega
end
section
open Go.RowKit Go.Maps
theorem modify_modify {α : Type} (a : Array α) (j : Nat) (f g : α → α) : (a.modify j f).modify j g = a.modify j (fun x => g (f x)) := by
 apply Array.ext_getElem?
 intro k
 rw [Array.getElem?_modify, Array.getElem?_modify, Array.getElem?_modify]
 by_cases h : j = k
 ·simp [h]
  rfl
 ·simp [h]
theorem find_born {es : Array MapEntry} {j : Nat} {e : MapEntry} (hj : es[j]? = some e) (hn : (es.toList.map (·.born)).Nodup) : es.findIdx? (fun x => (x.born : Int) == (e.born : Int)) = some j := by
 obtain ⟨hlt, hej⟩ := Array.getElem?_eq_some_iff.1 hj
 rw [Array.findIdx?_eq_some_iff_getElem]
 refine ⟨hlt, by simp [hej], fun i hi => ?_⟩
 have hil : i < es.size := by omega
 intro hb
 have hb' : es[i].born = e.born := by
  have := hb
  simp at this
  omega
 have h1 : (es.toList.map (·.born))[i]? = some e.born := by rw [List.getElem?_map, Array.getElem?_toList, Array.getElem?_eq_getElem hil, Option.map_some, hb']
 have h2 : (es.toList.map (·.born))[j]? = some e.born := by rw [List.getElem?_map, Array.getElem?_toList, hj, Option.map_some]
 have := (List.getElem?_inj (by simpa using hil) hn).1 (h1.trans h2.symm)
 omega
theorem set_heap (W : World) (b : Nat) (o : Obj) (hb : b < W.heap.size) : ({ W with heap := W.heap.setIfInBounds b o } : World).heap[b]? = some o := by simp [hb]
theorem set_chg (W : World) (b : Nat) (o : Obj) : Chg (fun k => k = b) W { W with heap := W.heap.setIfInBounds b o } := ⟨rfl, rfl, rfl, by simp, fun k hkl hne => by simp [Ne.symm hne]⟩
theorem store_run {W : World} {b j : Nat} {es : Array MapEntry} {clock : Nat} {e : MapEntry} (hW : W.heap[b]? = some (.map es clock)) (hj : es[j]? = some e) (hn : (es.toList.map (·.born)).Nodup) (x : Value) :
  (Instr.entryStore 62 (.map (some b)) (.int .i64 (e.born : Int)) x).run Tryz.prog W = .ok () { W with heap := W.heap.setIfInBounds b (.map (es.modify j fun e => { e with val := x }) clock) } := by
 have hf := find_born hj hn
 simp [Instr.entryStore, getObj, setObj, Sem.run, hW, asInt, asIntOf, hf]
set_option maxRecDepth 100000 in
theorem entry_run {w : World} {b : Nat} {m : List (Int × Value)} (h : MapV w b m) (i : Int) (hi : I64 i) :
  ∃ v born w1, (Instr.mapEntry 62 (.map (some b)) (.int .i64 i)).run Tryz.prog w = .ok (.tuple #[v, .int .i64 born]) w1 ∧ Chg (fun k => k = b) w w1 ∧
   ∀ W, W.heap[b]? = w1.heap[b]? → ∀ x, ∃ W', (Instr.entryStore 62 (.map (some b)) (.int .i64 born) x).run Tryz.prog W = .ok () W' ∧ MapV W' b (updV m i x) ∧ Chg (fun k => k = b) W W' := by
 have hn := mapV_nodup h
 have hh := h
 obtain ⟨⟨es, clock, hb, hs, hm⟩, hk⟩ := h
 have hbl : b < w.heap.size := (Array.getElem?_eq_some_iff.1 hb).1
 rcases findV_run (W := w) hm hk i hi with ⟨h1, h2⟩ | ⟨j, e, p, h1, h2, h3, h4, h5, h6⟩
 ·have hz := zero_bytesV w
  refine ⟨.slice none 0 0, clock, { w with heap := w.heap.setIfInBounds b (.map (es.push { key := .int .i64 i, val := .slice none 0 0, born := clock }) (clock + 1)) }, ?_, set_chg _ _ _, fun W hW x => ?_⟩
  ·simp [Instr.mapEntry, run_underlying Tryz.underlying62, getObj, setObj, Sem.run, hb, intKV.check w _ (key_i64V i hi), h1, hz, goInt]
  ·rw [set_heap _ _ _ hbl] at hW
   have hWl : b < W.heap.size := (Array.getElem?_eq_some_iff.1 hW).1
   have hnb : ((es.push { key := .int .i64 i, val := .slice none 0 0, born := clock }).toList.map (·.born)).Nodup := by
    obtain ⟨s1, s2, s3⟩ := hs
    simp only [Array.toList_push, List.map_append, List.map_cons, List.map_nil]
    refine List.nodup_append.2 ⟨s2, by simp, ?_⟩
    rintro a ha b hb' rfl
    simp only [List.mem_singleton] at hb'
    obtain ⟨x, hx, rfl⟩ := List.mem_map.1 ha
    have := s1 x hx; omega
   refine ⟨_, store_run (j := es.size) (e := { key := .int .i64 i, val := .slice none 0 0, born := clock }) hW (by simp) hnb x, ?_, set_chg _ _ _⟩
   obtain ⟨w', hr, hmw, _⟩ := updV_run hh i hi x
   have hr2 : (Instr.mapUpdate 62 (.map (some b)) (.int .i64 i) x).run Tryz.prog w = .ok () { w with heap := w.heap.setIfInBounds b (.map (es.push { key := .int .i64 i, val := x, born := clock }) (clock + 1)) } := by
    simp [Instr.mapUpdate, run_underlying Tryz.underlying62, getObj, setObj, Sem.run, hb, intKV.check w _ (key_i64V i hi), h1]
   rw [hr] at hr2
   injection hr2 with _ hw
   refine hmw.blk ?_
   rw [hw, set_heap _ _ _ hbl, set_heap _ _ _ hWl]
   congr 2
   apply Array.ext_getElem?
   intro k
   rw [Array.getElem?_modify]
   by_cases hks : es.size = k
   ·subst hks; simp
   ·rw [if_neg hks, Array.getElem?_push, Array.getElem?_push]
    simp [Ne.symm hks]
 ·have hjl : j < es.size := by simpa using (List.getElem?_eq_some_iff.1 h2).1
  have he : es[j]? = some e := by simpa using h2
  have hks := intKV.stays w (key_i64V i hi)
  refine ⟨p.2, e.born, { w with heap := w.heap.setIfInBounds b (.map (es.modify j fun e => { e with key := .int .i64 i }) clock) }, ?_, set_chg _ _ _, fun W hW x => ?_⟩
  ·simp [Instr.mapEntry, run_underlying Tryz.underlying62, getObj, setObj, Sem.run, hb, intKV.check w _ (key_i64V i hi), h1, he, h3, hks, goInt]
  ·rw [set_heap _ _ _ hbl] at hW
   have hWl : b < W.heap.size := (Array.getElem?_eq_some_iff.1 hW).1
   have hnb : ((es.modify j fun e => { e with key := .int .i64 i }).toList.map (·.born)).Nodup := by
    have : (es.modify j fun e => { e with key := .int .i64 i }).toList.map (·.born) = es.toList.map (·.born) := by
     apply List.ext_getElem?
     intro k
     rw [List.getElem?_map, List.getElem?_map, Array.getElem?_toList, Array.getElem?_modify, Array.getElem?_toList]
     by_cases hkj : j = k
     ·subst hkj; simp [he]
     ·simp [hkj]
    rw [this]
    exact hs.2.1
   refine ⟨_, store_run (j := j) (e := { e with key := .int .i64 i }) hW (by rw [Array.getElem?_modify, if_pos rfl, he]; rfl) hnb x, ?_, set_chg _ _ _⟩
   obtain ⟨w', hr, hmw, _⟩ := updV_run hh i hi x
   have hr2 : (Instr.mapUpdate 62 (.map (some b)) (.int .i64 i) x).run Tryz.prog w = .ok () { w with heap := w.heap.setIfInBounds b (.map (es.modify j fun e => { e with key := .int .i64 i, val := x }) clock) } := by
    simp [Instr.mapUpdate, run_underlying Tryz.underlying62, getObj, setObj, Sem.run, hb, intKV.check w _ (key_i64V i hi), h1, he, h3, hks]
   rw [hr] at hr2
   injection hr2 with _ hw
   refine hmw.blk ?_
   rw [hw, set_heap _ _ _ hbl, set_heap _ _ _ hWl, modify_modify]
theorem inpV.upd {I : Nat → Prop} {w : World} : ∀ {l : List (Int × List UInt8)} {m : List (Int × Value)} (i : Int) {x : List UInt8} {v : Value}, inpV I w l m → BytesV I w x v → x.length ≤ 1000 → inpV I w (updI l i x) (updV m i v) := by
 intro l m i x v h hb hx
 have hsame : ∀ (k : Int), (l.find? (fun p => p.1 == k)).isSome = (m.find? (fun p => p.1 == k)).isSome := by
  obtain ⟨hl, ha⟩ := h
  intro k
  induction l generalizing m with
  | nil => cases m with
   | nil => rfl
   | cons y t => simp at hl
  | cons z r ih => cases m with
   | nil => simp at hl
   | cons y t =>
    rw [List.find?_cons, List.find?_cons, (ha 0 z y rfl rfl).1]
    cases y.1 == k with
    | true => rfl
    | false => exact ih (by simpa using hl) (fun i a b h1 h2 => ha (i + 1) a b h1 h2)
 unfold updI updV
 rw [hsame i]
 split
 ·refine ⟨by simp [h.1], fun k a b ha hb' => ?_⟩
  rw [List.getElem?_map] at ha hb'
  obtain ⟨a0, ha0, rfl⟩ := Option.map_eq_some_iff.1 ha
  obtain ⟨b0, hb0, rfl⟩ := Option.map_eq_some_iff.1 hb'
  obtain ⟨e1, e2, e3⟩ := h.2 k a0 b0 ha0 hb0
  rw [e1]
  split
  ·exact ⟨rfl, hb, hx⟩
  ·exact ⟨e1, e2, e3⟩
 ·refine ⟨by simp [h.1], fun k a b ha hb' => ?_⟩
  by_cases hk : k < l.length
  ·rw [List.getElem?_append_left hk] at ha
   rw [List.getElem?_append_left (by rw [← h.1]; exact hk)] at hb'
   exact h.2 k a b ha hb'
  ·rw [List.getElem?_append_right (by omega)] at ha
   rw [List.getElem?_append_right (by have := h.1; omega), ← h.1] at hb'
   cases hk0 : k - l.length with
   | zero =>
    rw [hk0] at ha hb'
    simp only [List.getElem?_cons_zero, Option.some.injEq] at ha hb'
    subst ha hb'
    exact ⟨rfl, hb, hx⟩
   | succ n =>
    rw [hk0] at ha
    simp at ha
end
section
open Go.RowKit
set_option maxRecDepth 100000 in
theorem kat1_ok (p : Pt) (m : Value) (id : Int) (g : Nat) (w : World) (h8 : p.r.length = 8) (hg : w.cell? ⟨g, 0, none⟩ = some (.int .i64 id)) :
  Calls Tryz.prog 89 #[.agg (partC p m), .pointer (some ⟨g, 0, none⟩)] w fun e w' => e = .returned (.bool (idP id p)) ∧ Chg Non w w' := by
 obtain ⟨C, hC⟩ : ∃ C, partC p m = C := ⟨_, rfl⟩
 have hb : PartB (w.alloc (.cells C 69)) w.heap.size p m := ⟨by unfold PartAt; rw [hC]; exact blk_new _ _, h8⟩
 obtain ⟨k0, _⟩ := hb.cells
 have hlt := lt_of_cell hg
 rw [hC]
 have HE : Hid (idP id p = decide (p.id = id)) := Lib.hid rfl
 clear hb hC
 simp only at hlt
 go_enter Tryz.func89, Tryz.ntmps89
 go_wp2_with fail
 go_ret
 exact ⟨ret_b HE.out.symm, (Chg.refl Non w).alloc _⟩
set_option maxRecDepth 100000 in
theorem kAt_ok (N : Nat → Prop) (w : World) (k : Kn) (a : KAt) (id : Int) (h : KerB N w k a) :
  Calls Tryz.prog 49 #[.pointer (some ⟨a.p, 0, none⟩), .int .i64 id] w fun e w' => e = .returned (.int .i64 (idxOf (idP id) k.s.parts)) ∧ Chg Non w w' := by
 obtain ⟨A, c, e0, hc, hcm, hr⟩ := h.parts.rd
 have HI := Lib.hid (fun W (hg : Chg Non w W) g (hgc : ∀ W', Chg Non W W' → W'.cell? ⟨g, 0, none⟩ = some (.int .i64 id)) => idxKAt _ _ ptV_non (idP id) (.pointer (some ⟨g, 0, none⟩)) A k.s.parts c W (hr.non hg (fun a vs h => ptV_non _ _ _ _ hg h)) (by
   rintro W' a vs hg2 ha ⟨m, rfl, _, hbd, _⟩
   exact kat1_ok a m id g W' hbd.r8 (hgc W' hg2)) hc hcm)
 obtain ⟨vq, h1, _⟩ := (h.non ((Chg.refl Non w).alloc (.cells #[.int .i64 id] 3))).cell
 have f5 := blk_cell h1 5 (v := .slice A k.s.parts.length c) (by rw [← e0]; rfl)
 clear h hr h1 e0
 go_enter Tryz.func49, Tryz.ntmps49
 go_wp2_with fail
 refine (HI.out _ ((Chg.refl Non w).alloc _) w.heap.size (fun W' hg => blk_cell (blk_call hg) 0 rfl)).mono ?_
 rintro e u ⟨rfl, hg⟩
 have HG := Lib.hid (((Chg.refl Non w).alloc _).then_non hg)
 clear hg
 go_wp2_with fail
 go_ret
 exact ⟨rfl, HG.out⟩
set_option maxRecDepth 100000 in
theorem waits_ok (N : Nat → Prop) (w : World) (k : Kn) (a : KAt) (id : Int) (hid : I64 id) (h : KerB N w k a) :
  Calls Tryz.prog 30 #[.pointer (some ⟨a.p, 0, none⟩), .int .i64 id] w fun e w' => e = .returned (.int .i64 ((k.waits id).length : Nat)) ∧ Chg Non w w' := by
 have H := Lib.hid h
 clear h
 go_enter Tryz.func30, Tryz.ntmps30
 go_wp2_with fail
 refine (none_ok N w k a H.out).mono ?_
 rintro e u ⟨rfl, hg⟩
 obtain ⟨m, hm, hin⟩ := (H.out.non hg).inp
 obtain ⟨vq, h1, _⟩ := (H.out.non hg).cell
 have f9 := blk_cell h1 9 (v := .map (some a.q)) rfl
 have hlk := lookV_run hm id hid u rfl
 obtain ⟨Av, cv, hv, hv1, hv2, _⟩ := inp_look id hin
 rw [hv] at hlk
 have hw : ((k.inp.find? (fun p => p.1 == id)).map (·.2)).getD [] = k.waits id := rfl
 rw [hw] at hlk hv1
 obtain ⟨n, hn⟩ : ∃ n, (k.waits id).length = n := ⟨_, rfl⟩
 have HN := Lib.hid hn
 rw [hn] at hlk hv1
 clear h1 hin hm hv hw hn
 go_wp2_with fail
 go_ret
 exact ⟨by rw [HN.out]; rfl, hg⟩
namespace KerB
variable {N : Nat → Prop} {w w' : World} {k : Kn} {a : KAt}
theorem setInp (h : KerB N w k a) (hg : Chg (fun b => b = a.q) w w') {l : List (Int × List UInt8)} {m : List (Int × Value)} (hm : MapV w' a.q m) (hl : inpV (fun b => ¬ N b) w' l m) : KerB N w' { k with inp := l } a := by
 have hq : N a.q := h.sub _ (.inr (.inl rfl))
 have hI : ∀ b, ¬ N b → ¬ b = a.q := fun b e e2 => e (by rw [e2]; exact hq)
 obtain ⟨⟨vq, h1, h2⟩, h3, h4, h5, h6, h7, h8, _, h11⟩ := h
 refine ⟨⟨vq, ?_, h2.keep hg hI (fun _ _ _ h => h.keep hg hI)⟩, h3, h4, h5.keep hg hI (fun _ _ _ h => h), h6.keep hg hI (fun _ _ _ h => h.keep hg hI), h7.keep hg hI (fun _ _ _ h => h), h8.keep hg (fun g e e2 => h4.2.2 (by rw [e, e2])) (fun _ _ h => h.keep hg hI), ⟨m, hm, hl⟩, h11⟩
 exact blk_keep h1 hg (fun e => h4.1 e)
theorem setOwn (h : KerB N w k a) (hg : Chg (fun b => b = a.p) w w') {k' : Kn} {vq : Value} (h1 : w'.heap[a.p]? = some (.cells (kerC k' a vq) 64 (0, 0))) (h2 : SlV (quV (fun b => ¬ N b)) (fun b => ¬ N b) 6 w' k'.s.queues vq)
  (hc : k'.c = k.c) (hp : k'.s.parts = k.s.parts) (hi : k'.inp = k.inp) (hb : I64 k'.s.frames ∧ I64 k'.ver ∧ I64 k'.tick) : KerB N w' k' a := by
 have hq : N a.p := h.sub _ (.inl rfl)
 have hI : ∀ b, ¬ N b → ¬ b = a.p := fun b e e2 => e (by rw [e2]; exact hq)
 obtain ⟨_, h3, h4, h5, h6, h7, h8, ⟨m, h9, h10⟩, _⟩ := h
 refine ⟨⟨vq, h1, h2⟩, h3, h4, ?_, ?_, ?_, ?_, ⟨m, h9.keep hg (fun e => h4.1 e.symm), ?_⟩, hb⟩
 ·rw [hc]; exact h5.keep hg hI (fun _ _ _ h => h)
 ·rw [hc]; exact h6.keep hg hI (fun _ _ _ h => h.keep hg hI)
 ·rw [hc]; exact h7.keep hg hI (fun _ _ _ h => h)
 ·rw [hp]; exact h8.keep hg (fun g e e2 => h4.2.1 (by rw [e, e2])) (fun _ _ h => h.keep hg hI)
 ·rw [hi]; exact h10.keep hg hI
theorem setTick (h : KerB N w k a) (t : Int) (ht : I64 t) : KerB N (w.setCell ⟨a.p, 8, none⟩ (.int .i64 t)) { k with tick := t } a := by
 obtain ⟨vq, h1, h2⟩ := h.cell
 have hg := chg_set w a.p 8 (.int .i64 t)
 have hq : N a.p := h.sub _ (.inl rfl)
 have hI : ∀ b, ¬ N b → ¬ b = a.p := fun b e e2 => e (by rw [e2]; exact hq)
 exact h.setOwn hg (vq := vq) (blk_set 8 (.int .i64 t) h1) (h2.keep hg hI (fun _ _ _ h => h.keep hg hI)) rfl rfl rfl ⟨h.bd.1, h.bd.2.1, ht⟩
theorem setYl (h : KerB N w k a) (y : Bool) : KerB N (w.setCell ⟨a.p, 10, none⟩ (.bool y)) { k with yl := y } a := by
 obtain ⟨vq, h1, h2⟩ := h.cell
 have hg := chg_set w a.p 10 (.bool y)
 have hq : N a.p := h.sub _ (.inl rfl)
 have hI : ∀ b, ¬ N b → ¬ b = a.p := fun b e e2 => e (by rw [e2]; exact hq)
 exact h.setOwn hg (vq := vq) (blk_set 10 (.bool y) h1) (h2.keep hg hI (fun _ _ _ h => h.keep hg hI)) rfl rfl rfl h.bd
theorem setFrames (h : KerB N w k a) (f : Int) (hf : I64 f) : KerB N (w.setCell ⟨a.p, 4, none⟩ (.int .i64 f)) { k with s := { k.s with frames := f } } a := by
 obtain ⟨vq, h1, h2⟩ := h.cell
 have hg := chg_set w a.p 4 (.int .i64 f)
 have hq : N a.p := h.sub _ (.inl rfl)
 have hI : ∀ b, ¬ N b → ¬ b = a.p := fun b e e2 => e (by rw [e2]; exact hq)
 exact h.setOwn hg (vq := vq) (blk_set 4 (.int .i64 f) h1) (h2.keep hg hI (fun _ _ _ h => h.keep hg hI)) rfl rfl rfl ⟨hf, h.bd.2.1, h.bd.2.2⟩
theorem setQueues (h : KerB N w k a) {qs : List Qu} {vq : Value} (hq : SlV (quV (fun b => ¬ N b)) (fun b => ¬ N b) 6 w qs vq) : KerB N (w.setCell ⟨a.p, 6, none⟩ vq) { k with s := { k.s with queues := qs } } a := by
 obtain ⟨v0, h1, h2⟩ := h.cell
 have hg := chg_set w a.p 6 vq
 have hq0 : N a.p := h.sub _ (.inl rfl)
 have hI : ∀ b, ¬ N b → ¬ b = a.p := fun b e e2 => e (by rw [e2]; exact hq0)
 exact h.setOwn hg (vq := vq) (blk_set 6 vq h1) (hq.keep hg hI (fun _ _ _ h => h.keep hg hI)) rfl rfl rfl h.bd
theorem setParts (h : KerB N w k a) (hg : Chg (fun b => a.vp.ownBlock = some b) w w') {ps : List Pt} (hp : OwnL (ptV (fun b => ¬ N b)) 0 69 14 w' a.vp ps) (hl : ∀ g, a.vp.ownBlock = some g → N g) : KerB N w' { k with s := { k.s with parts := ps } } a := by
 have hI : ∀ b, ¬ N b → ¬ a.vp.ownBlock = some b := fun b e e2 => e (hl b e2)
 obtain ⟨⟨vq, h1, h2⟩, h3, h4, h5, h6, h7, h8, ⟨m, h9, h10⟩, h11⟩ := h
 exact ⟨⟨vq, blk_keep h1 hg h4.2.1, h2.keep hg hI (fun _ _ _ h => h.keep hg hI)⟩, h3, h4, h5.keep hg hI (fun _ _ _ h => h), h6.keep hg hI (fun _ _ _ h => h.keep hg hI), h7.keep hg hI (fun _ _ _ h => h), hp, ⟨m, h9.keep hg h4.2.2, h10.keep hg hI⟩, h11⟩
theorem ownN (h : KerB N w k a) : ∀ g, a.vp.ownBlock = some g → N g := fun g e => h.sub g (.inr (.inr e))
end KerB
end
end Go.Proofs.YtmnaleaghfbclaaGreatDoor
