/- KernelApart, part 10 of 27: contracts of the functions that it reaches, and the laws that they need, merged and shortened (from my texts XVmC, XVmD, XVmE, XVmF, XVmH, XVmI). -/
import Derived.Test.YtmnaleaghfbclaaGreatDoorMgKernelApartA
import Derived.Test.YtmnaleaghfbclaaGreatDoorMgKernelApartD
import Derived.Test.YtmnaleaghfbclaaGreatDoorMgKernelApartE
import Derived.Test.YtmnaleaghfbclaaGreatDoorMgKernelApartI
import Derived.Deep.RegionHeld3
import Derived.Laws.BitsAllLaws
import Derived.StillTailTactics
namespace Go.Proofs.YtmnaleaghfbclaaGreatDoor
set_option linter.unusedVariables false
set_option linter.unusedSimpArgs false
set_option maxHeartbeats 8000000
section
open Go.RowKit
theorem there_no {l : List UInt8} {a n : Nat} (h : there l a n = false) : 512 < l.length ∨ (l.length ≤ 512 ∧ l.length < a + n) := by
 unfold there at h
 simp at h
 omega
theorem there_yes {l : List UInt8} {a n : Nat} (h : there l a n = true) : l.length ≤ 512 ∧ a + n ≤ l.length := (there_iff _ _ _).1 h
theorem rd_cut {w : World} {b o : Nat} {l : List UInt8} (h : Rd w (some ⟨b, o, none⟩) l) (a n : Nat) : Rd w (some ⟨b, o + a, none⟩) (cut l a n) := (h.drop a).take n
theorem cut_len {l : List UInt8} {a n : Nat} (h : a + n ≤ l.length) : (cut l a n).length = n := by
 unfold cut
 rw [List.length_take, List.length_drop]
 omega
theorem u8_cell {w : World} {b o : Nat} {l : List UInt8} (h : Rd w (some ⟨b, o, none⟩) l) (i : Nat) (hi : i < l.length) : w.cell? ⟨b, o + i, none⟩ = some (.int .u8 ((l.getD i 0).toNat : Nat)) := by
 obtain ⟨b', o', e, hc⟩ := h i l[i] (List.getElem?_eq_getElem hi)
 injection e with e
 injection e with e1 e2 _
 subst e1 e2
 rw [hc, List.getD_eq_getElem?_getD, List.getElem?_eq_getElem hi]
 rfl
set_option maxRecDepth 100000 in
theorem within_read (b o : Nat) (l : List UInt8) (c a n : Nat) (w : World) (hr : Rd w (some ⟨b, o, none⟩) l) (hc : l.length ≤ c) (hcm : c ≤ maxLen) (hn : 0 < n) (ht : there l a n = true)  :
  Calls Tryz.prog 91 #[.slice (some ⟨b, o, none⟩) l.length c, .int .i64 a, .int .i64 n, .func (.func 82) #[] #[]] w fun e w' => ∃ A2 c2, e = .returned (.tuple #[.slice A2 n c2, .int .i64 0]) ∧ n ≤ c2 ∧ c2 ≤ maxLen ∧ Own w.heap.size w' A2 (cut l a n) ∧ Chg Non w w' := by
 obtain ⟨h1, h2⟩ := there_yes ht
 have HR := Lib.hid hr
 have hk := cut_len h2
 have HK := Lib.hid hk
 have b1 : decide ((l.length : Int) > 512) = false := by simp; omega
 have b2 : decide ((a : Int) > (l.length : Int)) = false := by simp; omega
 have b3 : decide ((n : Int) > (l.length : Int) - (a : Int)) = false := by simp; omega
 clear hr ht hk
 go_enter Tryz.func91, Tryz.ntmps91
 go_wp2_with fail
 have hcl := SlClone_ok (some ⟨b, o + a, none⟩) (cut l a n) n w (rd_cut HR.out a n) (by have := HK.out; omega)
 rw [HK.out] at hcl
 refine hcl.mono ?_
 rintro e w1 ⟨A2, c2, rfl, q1, q2, q3, q4⟩
 rw [HK.out] at q1 ⊢
 have Q3 := Lib.hid q3
 have Q4 := Lib.hid q4
 clear q3 q4 hcl
 go_wp2_with fail
 go_ret2
 exact ⟨A2, c2, rfl, q1, q2, Q3.out, Q4.out⟩
set_option maxRecDepth 100000 in
theorem within_write (b o : Nat) (l : List UInt8) (c a n : Nat) (w : World) (hr : Rd w (some ⟨b, o, none⟩) l) (hc : l.length ≤ c) (hcm : c ≤ maxLen) (hn : 0 < n) (ht : there l a n = true) (z : List UInt8) (p1 p2 p3 : Value) (hF : ∀ v W, Chg Non w W → Calls Tryz.prog 92 #[v, p1, p2, p3] W (RetB W z)) :
  Calls Tryz.prog 91 #[.slice (some ⟨b, o, none⟩) l.length c, .int .i64 a, .int .i64 n, .func (.func 92) #[] #[p1, p2, p3]] w fun e w' => ∃ A2 c2, e = .returned (.tuple #[.slice A2 z.length c2, .int .i64 0]) ∧ z.length ≤ c2 ∧ c2 ≤ maxLen ∧ Own w.heap.size w' A2 z ∧ Chg Non w w' := by
 obtain ⟨h1, h2⟩ := there_yes ht
 have HR := Lib.hid hr
 have hk := cut_len h2
 have HK := Lib.hid hk
 have b1 : decide ((l.length : Int) > 512) = false := by simp; omega
 have b2 : decide ((a : Int) > (l.length : Int)) = false := by simp; omega
 have b3 : decide ((n : Int) > (l.length : Int) - (a : Int)) = false := by simp; omega
 have HF := Lib.hid hF
 clear hr ht hk hF
 go_enter Tryz.func91, Tryz.ntmps91
 go_wp2_with fail
 refine (HF.out _ _ (Chg.refl _ _)).mono ?_
 rintro e w1 ⟨A2, c2, rfl, q1, q2, q3, q4⟩
 have Q3 := Lib.hid q3
 have Q4 := Lib.hid q4
 clear q3 q4
 go_wp2_with fail
 go_ret2
 exact ⟨A2, c2, rfl, q1, q2, Q3.out, Q4.out⟩
set_option maxRecDepth 100000 in
theorem within_byte (b o : Nat) (l : List UInt8) (c a n : Nat) (w : World) (hr : Rd w (some ⟨b, o, none⟩) l) (hc : l.length ≤ c) (hcm : c ≤ maxLen) (hn : 0 < n) (ht : there l a n = true) (z : Value) (hF : Calls Tryz.prog 274 #[.slice (some ⟨b, o + a, none⟩) n n] w fun e w' => e = .returned z ∧ w = w') :
  Calls Tryz.prog 273 #[.slice (some ⟨b, o, none⟩) l.length c, .int .i64 a, .int .i64 n, .func (.func 274) #[] #[]] w fun e w' => e = .returned (.tuple #[z, .int .i64 0]) ∧ w = w' := by
 obtain ⟨h1, h2⟩ := there_yes ht
 have HR := Lib.hid hr
 have hk := cut_len h2
 have HK := Lib.hid hk
 have b1 : decide ((l.length : Int) > 512) = false := by simp; omega
 have b2 : decide ((a : Int) > (l.length : Int)) = false := by simp; omega
 have b3 : decide ((n : Int) > (l.length : Int) - (a : Int)) = false := by simp; omega
 have HF := Lib.hid hF
 clear hr ht hk hF
 go_enter Tryz.func273, Tryz.ntmps273
 go_wp2_with fail
 refine HF.out.mono ?_
 rintro e w1 ⟨rfl, rfl⟩
 go_wp2_with fail
 go_ret2
 exact ⟨rfl, rfl⟩
set_option maxRecDepth 100000 in
theorem within_no_slice (A : Option Addr) (l : List UInt8) (c a n : Nat) (F : Value) (w : World) (ha : (a : Int) ≤ 4294967295 * 3) (hn : (n : Int) ≤ 4294967295 * 3) (ht : there l a n = false) :
  Calls Tryz.prog 91 #[.slice A l.length c, .int .i64 a, .int .i64 n, F] w fun e w' => ∃ er : Int, (er == 0) = false ∧ e = .returned (.tuple #[.slice none 0 0, .int .i64 er]) ∧ w = w' := by
 rcases there_no ht with h | ⟨h1, h2⟩
 ·have b1 : decide ((l.length : Int) > 512) = true := by simp; omega
  clear ht
  go_enter Tryz.func91, Tryz.ntmps91
  go_wp2_with fail
  go_ret2
  exact ⟨3, rfl, rfl, rfl⟩
 ·have b1 : decide ((l.length : Int) > 512) = false := by simp; omega
  clear ht
  by_cases hb2 : l.length < a
  ·have b2 : decide ((a : Int) > (l.length : Int)) = true := by simp; omega
   go_enter Tryz.func91, Tryz.ntmps91
   go_wp2_with fail
   go_ret2
   exact ⟨180, rfl, rfl, rfl⟩
  ·have b2 : decide ((a : Int) > (l.length : Int)) = false := by simp; omega
   have b3 : decide ((n : Int) > (l.length : Int) - (a : Int)) = true := by simp; omega
   go_enter Tryz.func91, Tryz.ntmps91
   go_wp2_with fail
   go_ret2
   exact ⟨180, rfl, rfl, rfl⟩
set_option maxRecDepth 100000 in
theorem within_no_byte (A : Option Addr) (l : List UInt8) (c a n : Nat) (F : Value) (w : World) (ha : (a : Int) ≤ 4294967295 * 3) (hn : (n : Int) ≤ 4294967295 * 3) (ht : there l a n = false) :
  Calls Tryz.prog 273 #[.slice A l.length c, .int .i64 a, .int .i64 n, F] w fun e w' => ∃ er : Int, (er == 0) = false ∧ e = .returned (.tuple #[.int .u8 0, .int .i64 er]) ∧ w = w' := by
 rcases there_no ht with h | ⟨h1, h2⟩
 ·have b1 : decide ((l.length : Int) > 512) = true := by simp; omega
  clear ht
  go_enter Tryz.func273, Tryz.ntmps273
  go_wp2_with fail
  go_ret2
  exact ⟨3, rfl, rfl, rfl⟩
 ·have b1 : decide ((l.length : Int) > 512) = false := by simp; omega
  clear ht
  by_cases hb2 : l.length < a
  ·have b2 : decide ((a : Int) > (l.length : Int)) = true := by simp; omega
   go_enter Tryz.func273, Tryz.ntmps273
   go_wp2_with fail
   go_ret2
   exact ⟨180, rfl, rfl, rfl⟩
  ·have b2 : decide ((a : Int) > (l.length : Int)) = false := by simp; omega
   have b3 : decide ((n : Int) > (l.length : Int) - (a : Int)) = true := by simp; omega
   go_enter Tryz.func273, Tryz.ntmps273
   go_wp2_with fail
   go_ret2
   exact ⟨180, rfl, rfl, rfl⟩
set_option maxRecDepth 100000 in
theorem within_no_word (A : Option Addr) (l : List UInt8) (c a n : Nat) (F : Value) (w : World) (ha : (a : Int) ≤ 4294967295 * 3) (hn : (n : Int) ≤ 4294967295 * 3) (ht : there l a n = false) :
  Calls Tryz.prog 275 #[.slice A l.length c, .int .i64 a, .int .i64 n, F] w fun e w' => ∃ er : Int, (er == 0) = false ∧ e = .returned (.tuple #[.int .u32 0, .int .i64 er]) ∧ w = w' := by
 rcases there_no ht with h | ⟨h1, h2⟩
 ·have b1 : decide ((l.length : Int) > 512) = true := by simp; omega
  clear ht
  go_enter Tryz.func275, Tryz.ntmps275
  go_wp2_with fail
  go_ret2
  exact ⟨3, rfl, rfl, rfl⟩
 ·have b1 : decide ((l.length : Int) > 512) = false := by simp; omega
  clear ht
  by_cases hb2 : l.length < a
  ·have b2 : decide ((a : Int) > (l.length : Int)) = true := by simp; omega
   go_enter Tryz.func275, Tryz.ntmps275
   go_wp2_with fail
   go_ret2
   exact ⟨180, rfl, rfl, rfl⟩
  ·have b2 : decide ((a : Int) > (l.length : Int)) = false := by simp; omega
   have b3 : decide ((n : Int) > (l.length : Int) - (a : Int)) = true := by simp; omega
   go_enter Tryz.func275, Tryz.ntmps275
   go_wp2_with fail
   go_ret2
   exact ⟨180, rfl, rfl, rfl⟩
set_option maxRecDepth 100000 in
theorem load1_ok (b o : Nat) (x : Nat) (w : World) (hc : w.cell? ⟨b, o, none⟩ = some (.int .u8 x)) :
  Calls Tryz.prog 274 #[.slice (some ⟨b, o, none⟩) 1 1] w fun e w' => e = .returned (.int .u8 x) ∧ w = w' := by
 go_enter Tryz.func274, Tryz.ntmps274
 go_wp2_with fail
 go_ret
 exact ⟨rfl, rfl⟩
set_option maxRecDepth 100000 in
theorem write1_ok (b o : Nat) (l : List UInt8) (c a : Nat) (B : Option Addr) (y : List UInt8) (cy p1 p2 p3 : Nat) (v : Value) (w : World) (hr : Rd w (some ⟨b, o, none⟩) l) (hry : Rd w B y) (hc : l.length ≤ c) (hcm : c ≤ maxLen)
  (h1 : l.length ≤ 512) (h2 : a + y.length ≤ l.length) (e1 : w.cell? ⟨p1, 0, none⟩ = some (.slice (some ⟨b, o, none⟩) l.length c)) (e2 : w.cell? ⟨p2, 0, none⟩ = some (.int .i64 a)) (e3 : w.cell? ⟨p3, 0, none⟩ = some (.slice B y.length cy)) :
  Calls Tryz.prog 92 #[v, .pointer (some ⟨p1, 0, none⟩), .pointer (some ⟨p2, 0, none⟩), .pointer (some ⟨p3, 0, none⟩)] w (RetB w (put l a y)) := by
 have HR := Lib.hid hr
 have HRy := Lib.hid hry
 clear hr hry
 have g1 : (a : Int) + (y.length : Int) ≤ (l.length : Int) := by omega
 obtain ⟨q, hq⟩ : ∃ q, a + y.length = q := ⟨_, rfl⟩
 obtain ⟨A3, hA3⟩ : ∃ A3 : Option Addr, (if c = q then some ⟨b, o, none⟩ else some ⟨b, o + q, none⟩) = A3 := ⟨_, rfl⟩
 have hql : q ≤ l.length := by omega
 have hqi : (q : Int) ≤ (l.length : Int) := by omega
 have hR3 : Hid (Rd w A3 (l.drop q)) := Lib.hid (by
   rw [← hA3]
   split
   · rw [List.drop_eq_nil_of_le (by omega)]
     exact Rd.nil _ _
   · exact HR.out.drop q)
 go_enter Tryz.func92, Tryz.ntmps92
 go_wp2_with fail
 refine wp_region_held_drew (S := fun W => W.cell? ⟨p1, 0, none⟩ = some (.slice (some ⟨b, o, none⟩) l.length c) ∧ W.cell? ⟨p2, 0, none⟩ = some (.int .i64 a) ∧ W.cell? ⟨p3, 0, none⟩ = some (.slice B y.length cy)) (by kernel_rfl) ⟨e1, e2, e3⟩ (fun hHeld => ?_)
 refine hp 0 6 (.slice (some ⟨b, o, none⟩) l.length c) rfl hHeld ?_ (he := (fun W hW => by obtain ⟨e1, e2, e3⟩ := hW; go_simp))
 refine hp 1 7 (.int .i64 a) rfl hHeld ?_ (he := (fun W hW => by obtain ⟨e1, e2, e3⟩ := hW; go_simp))
 refine hp 3 9 (.slice B y.length cy) rfl hHeld ?_ (he := (fun W hW => by obtain ⟨e1, e2, e3⟩ := hW; go_simp))
 refine hp 4 10 (.slice (some ⟨b, o, none⟩) l.length c) rfl hHeld ?_ (he := (fun W hW => by obtain ⟨e1, e2, e3⟩ := hW; go_simp))
 refine hp 5 11 (.int .i64 a) rfl hHeld ?_ (he := (fun W hW => by obtain ⟨e1, e2, e3⟩ := hW; go_simp))
 refine hp 6 12 (.slice B y.length cy) rfl hHeld ?_ (he := (fun W hW => by obtain ⟨e1, e2, e3⟩ := hW; go_simp))
 refine hp 2 8 (.slice (some ⟨b, o, none⟩) a c) rfl hHeld ?_ (he := (fun W hW => by obtain ⟨e1, e2, e3⟩ := hW; go_simp; intro h; omega))
 refine hp 7 13 (.int .i64 y.length) rfl hHeld ?_ (he := (fun W hW => by obtain ⟨e1, e2, e3⟩ := hW; go_simp))
 refine hp 8 14 (.int .i64 (q : Nat)) rfl hHeld ?_ (he := (fun W hW => by obtain ⟨e1, e2, e3⟩ := hW; go_simp; rw [Go.IntWalk.i64_in _ (by omega)]; omega))
 refine hp 9 15 (.slice A3 (l.length - q) (c - q)) rfl hHeld ?_ (he := (fun W hW => by rw [← hA3]; go_simp))
 refine h_one 10 (by kernel_rfl) rfl (by kernel_rfl) ?_
 intro K hK
 go_simp
 have hps : PartsV (w.drew.alloc (.cells #[.slice (some ⟨b, o, none⟩) a c, .slice B y.length cy, .slice A3 (l.length - q) (c - q)] 50)) w.heap.size [(some ⟨b, o, none⟩, l.take a, c), (B, y, cy), (A3, l.drop q, c - q)] := by
  have hg : Chg Non w (w.drew.alloc (.cells #[.slice (some ⟨b, o, none⟩) a c, .slice B y.length cy, .slice A3 (l.length - q) (c - q)] 50)) := ((Chg.refl Non w).drew).alloc _
  have hb := heap_alloc_new w.drew (.cells #[.slice (some ⟨b, o, none⟩) a c, .slice B y.length cy, .slice A3 (l.length - q) (c - q)] 50)
  intro i p hp
  have hi : i = 0 ∨ i = 1 ∨ i = 2 := by have := (List.getElem?_eq_some_iff.1 hp).1; simp at this; omega
  rcases hi with rfl | rfl | rfl
  ·simp at hp
   subst hp
   refine ⟨row_cell hb ?_, (HR.out.take a).non hg⟩
   simp
   omega
  ·simp at hp
   subst hp
   exact ⟨row_cell hb (by simp), HRy.out.non hg⟩
  ·simp at hp
   subst hp
   exact ⟨row_cell hb (by simp), hR3.out.non hg⟩
 have HPs := Lib.hid hps
 have hcv : catV [(some ⟨b, o, none⟩, l.take a, c), (B, y, cy), (A3, l.drop q, c - q)] = put l a y := by simp [catV, put, hq]
 have HCv := Lib.hid hcv
 have hS2 : (w.drew.alloc (.cells #[.slice (some ⟨b, o, none⟩) a c, .slice B y.length cy, .slice A3 (l.length - q) (c - q)] 50)).cell? ⟨p1, 0, none⟩ = some (.slice (some ⟨b, o, none⟩) l.length c) ∧ (w.drew.alloc (.cells #[.slice (some ⟨b, o, none⟩) a c, .slice B y.length cy, .slice A3 (l.length - q) (c - q)] 50)).cell? ⟨p2, 0, none⟩ = some (.int .i64 a) ∧ (w.drew.alloc (.cells #[.slice (some ⟨b, o, none⟩) a c, .slice B y.length cy, .slice A3 (l.length - q) (c - q)] 50)).cell? ⟨p3, 0, none⟩ = some (.slice B y.length cy) := ⟨(((Chg.refl Non w).drew).alloc _).cell_some e1 (fun e => e), (((Chg.refl Non w).drew).alloc _).cell_some e2 (fun e => e), (((Chg.refl Non w).drew).alloc _).cell_some e3 (fun e => e)⟩
 refine hK.out _ _ hS2 (fun _ => ?_)
 clear hK K hps hcv
 refine h_one 11 (by kernel_rfl) rfl (by kernel_rfl) ?_
 intro K hK
 go_simp
 have hpl : (put l a y).length = l.length := put_len (by omega)
 refine (cat_ok w.heap.size [(some ⟨b, o, none⟩, l.take a, c), (B, y, cy), (A3, l.drop q, c - q)] 3 _ HPs.out (by rw [HCv.out, hpl]; omega) (by simp)).mono ?_
 rintro e w1 ⟨A4, c4, rfl, q1, q2, q3, q4⟩
 rw [HCv.out] at q1 q3 ⊢
 have Q3 := Lib.hid (q3.mono (show w.heap.size ≤ _ by simp))
 have Q4 := Lib.hid ((((Chg.refl Non w).drew).alloc _).then_non q4)
 refine hK.out _ _ ⟨Q4.out.cell_some e1 (fun e => e), Q4.out.cell_some e2 (fun e => e), Q4.out.cell_some e3 (fun e => e)⟩ (fun _ => ?_)
 clear hK K q3 q4
 refine h_one 12 (by kernel_rfl) rfl (by kernel_rfl) ?_
 intro K hK
 go_simp
 refine hK.out _ _ ⟨Q4.out.cell_some e1 (fun e => e), Q4.out.cell_some e2 (fun e => e), Q4.out.cell_some e3 (fun e => e)⟩ (fun _ => ?_)
 clear hK K
 refine wpAnyH_done (by kernel_rfl) ?_ _
 go_wp2_with fail
 go_ret
 exact ⟨A4, c4, by rw [hpl]; rfl, q1, q2, Q3.out, Q4.out⟩
end
section
open Go.RowKit
theorem or_ok (a b m i : Nat) (ha : a = 2 ^ i * m) (hb : b < 2 ^ i) (hs : a + b < 4294967296) : bits .or .u32 (a : Int) (b : Int) = (a : Int) + (b : Int) := by
 rw [u32_or_nat a b (by omega) (by omega), ha, ← Nat.two_pow_add_eq_or_of_lt hb]
 simp
set_option maxRecDepth 100000 in
theorem load32_1_ok (b o : Nat) (x0 x1 x2 x3 : Nat) (w : World) (h0 : x0 < 256) (h1 : x1 < 256) (h2 : x2 < 256) (h3 : x3 < 256) (c0 : w.cell? ⟨b, o, none⟩ = some (.int .u8 x0)) (c1 : w.cell? ⟨b, o + 1, none⟩ = some (.int .u8 x1)) (c2 : w.cell? ⟨b, o + 2, none⟩ = some (.int .u8 x2)) (c3 : w.cell? ⟨b, o + 3, none⟩ = some (.int .u8 x3)) :
  Calls Tryz.prog 276 #[.slice (some ⟨b, o, none⟩) 4 4] w fun e w' => e = .returned (.int .u32 ((x0 * 16777216 + x1 * 65536 + x2 * 256 + x3 : Nat) : Int)) ∧ Chg Non w w' := by
 go_enter Tryz.func276, Tryz.ntmps276
 go_wp2_with fail
 refine wp_region_held_drew (S := fun W => W.cell? ⟨b, o, none⟩ = some (.int .u8 x0) ∧ W.cell? ⟨b, o + 1, none⟩ = some (.int .u8 x1) ∧ W.cell? ⟨b, o + 2, none⟩ = some (.int .u8 x2) ∧ W.cell? ⟨b, o + 3, none⟩ = some (.int .u8 x3)) (by kernel_rfl) ⟨c0, c1, c2, c3⟩ (fun hHeld => ?_)
 refine hp 0 3 (.slice (some ⟨b, o, none⟩) 4 4) rfl hHeld ?_ (he := (fun W hW => by obtain ⟨e0, e1, e2, e3⟩ := hW; go_simp))
 refine hp 1 4 (.pointer (some ⟨b, o, none⟩)) rfl hHeld ?_ (he := (fun W hW => by obtain ⟨e0, e1, e2, e3⟩ := hW; go_simp))
 refine hp 2 5 (.int .u8 x0) rfl hHeld ?_ (he := (fun W hW => by obtain ⟨e0, e1, e2, e3⟩ := hW; go_simp))
 refine hp 3 6 (.int .u32 ((x0 : Nat) : Int)) rfl hHeld ?_ (he := (fun W hW => by obtain ⟨e0, e1, e2, e3⟩ := hW; go_simp; exact Go.IntWalk.u32_in _ (by omega)))
 refine hp 4 7 (.int .u32 ((x0 * 16777216 : Nat) : Int)) rfl hHeld ?_ (he := (fun W hW => by go_simp; exact Go.IntWalk.u32_in _ (by omega)))
 refine hp 5 8 (.slice (some ⟨b, o, none⟩) 4 4) rfl hHeld ?_ (he := (fun W hW => by obtain ⟨e0, e1, e2, e3⟩ := hW; go_simp))
 refine hp 6 9 (.pointer (some ⟨b, o + 1, none⟩)) rfl hHeld ?_ (he := (fun W hW => by obtain ⟨e0, e1, e2, e3⟩ := hW; go_simp))
 refine hp 7 10 (.int .u8 x1) rfl hHeld ?_ (he := (fun W hW => by obtain ⟨e0, e1, e2, e3⟩ := hW; go_simp))
 refine hp 8 11 (.int .u32 ((x1 : Nat) : Int)) rfl hHeld ?_ (he := (fun W hW => by obtain ⟨e0, e1, e2, e3⟩ := hW; go_simp; exact Go.IntWalk.u32_in _ (by omega)))
 refine hp 9 12 (.int .u32 ((x1 * 65536 : Nat) : Int)) rfl hHeld ?_ (he := (fun W hW => by go_simp; exact Go.IntWalk.u32_in _ (by omega)))
 refine hp 10 13 (.int .u32 ((x0 * 16777216 + x1 * 65536 : Nat) : Int)) rfl hHeld ?_ (he := (fun W hW => by go_simp; have h := or_ok (x0 * 16777216) (x1 * 65536) x0 24 (by omega) (by omega) (by omega); simpa using h))
 refine hp 11 14 (.slice (some ⟨b, o, none⟩) 4 4) rfl hHeld ?_ (he := (fun W hW => by obtain ⟨e0, e1, e2, e3⟩ := hW; go_simp))
 refine hp 12 15 (.pointer (some ⟨b, o + 2, none⟩)) rfl hHeld ?_ (he := (fun W hW => by obtain ⟨e0, e1, e2, e3⟩ := hW; go_simp))
 refine hp 13 16 (.int .u8 x2) rfl hHeld ?_ (he := (fun W hW => by obtain ⟨e0, e1, e2, e3⟩ := hW; go_simp))
 refine hp 14 17 (.int .u32 ((x2 : Nat) : Int)) rfl hHeld ?_ (he := (fun W hW => by obtain ⟨e0, e1, e2, e3⟩ := hW; go_simp; exact Go.IntWalk.u32_in _ (by omega)))
 refine hp 15 18 (.int .u32 ((x2 * 256 : Nat) : Int)) rfl hHeld ?_ (he := (fun W hW => by go_simp; exact Go.IntWalk.u32_in _ (by omega)))
 refine hp 16 19 (.int .u32 ((x0 * 16777216 + x1 * 65536 + x2 * 256 : Nat) : Int)) rfl hHeld ?_ (he := (fun W hW => by go_simp; have h := or_ok (x0 * 16777216 + x1 * 65536) (x2 * 256) (x0 * 256 + x1) 16 (by omega) (by omega) (by omega); simpa using h))
 refine hp 17 20 (.slice (some ⟨b, o, none⟩) 4 4) rfl hHeld ?_ (he := (fun W hW => by obtain ⟨e0, e1, e2, e3⟩ := hW; go_simp))
 refine hp 18 21 (.pointer (some ⟨b, o + 3, none⟩)) rfl hHeld ?_ (he := (fun W hW => by obtain ⟨e0, e1, e2, e3⟩ := hW; go_simp))
 refine hp 19 22 (.int .u8 x3) rfl hHeld ?_ (he := (fun W hW => by obtain ⟨e0, e1, e2, e3⟩ := hW; go_simp))
 refine hp 20 23 (.int .u32 ((x3 : Nat) : Int)) rfl hHeld ?_ (he := (fun W hW => by obtain ⟨e0, e1, e2, e3⟩ := hW; go_simp; exact Go.IntWalk.u32_in _ (by omega)))
 refine hp 21 24 (.int .u32 ((x0 * 16777216 + x1 * 65536 + x2 * 256 + x3 : Nat) : Int)) rfl hHeld ?_ (he := (fun W hW => by go_simp; have h := or_ok (x0 * 16777216 + x1 * 65536 + x2 * 256) x3 (x0 * 65536 + x1 * 256 + x2) 8 (by omega) (by omega) (by omega); simpa using h))
 refine hp 22 2 (.int .u32 ((x0 * 16777216 + x1 * 65536 + x2 * 256 + x3 : Nat) : Int)) rfl hHeld ?_ (he := (fun W hW => by obtain ⟨e0, e1, e2, e3⟩ := hW; go_simp))
 refine wpAnyH_done (by kernel_rfl) ?_ _
 go_wp2_with fail
 go_ret
 exact ⟨rfl, (Chg.refl Non _).drew⟩
set_option maxRecDepth 100000 in
theorem within_load32 (b o : Nat) (l : List UInt8) (c a : Nat) (w : World) (hr : Rd w (some ⟨b, o, none⟩) l) (hc : l.length ≤ c) (hcm : c ≤ maxLen) (ht : there l a 4 = true) (q r s t : Nat) (hq : q < 256) (hrr : r < 256) (hs : s < 256) (htt : t < 256) (hcut : (cut l a 4).map UInt8.toNat = [q, r, s, t]) :
  Calls Tryz.prog 275 #[.slice (some ⟨b, o, none⟩) l.length c, .int .i64 a, .int .i64 (4 : Nat), .func (.func 276) #[] #[]] w fun e w' => e = .returned (.tuple #[.int .u32 ((q * 16777216 + r * 65536 + s * 256 + t : Nat) : Int), .int .i64 0]) ∧ Chg Non w w' := by
 obtain ⟨h1, h2⟩ := there_yes ht
 have hk := cut_len h2
 have b1 : decide ((l.length : Int) > 512) = false := by simp; omega
 have b2 : decide ((a : Int) > (l.length : Int)) = false := by simp; omega
 have b3 : decide ((4 : Int) > (l.length : Int) - (a : Int)) = false := by simp; omega
 have hrc := rd_cut hr a 4
 have hcell : ∀ i, i < 4 → w.cell? ⟨b, o + a + i, none⟩ = some (.int .u8 (([q, r, s, t].getD i 0 : Nat))) := by
  intro i hi
  rw [u8_cell hrc i (by omega), ← hcut]
  congr 3
  rw [List.getD_eq_getElem?_getD, List.getD_eq_getElem?_getD, List.getElem?_map, List.getElem?_eq_getElem (by omega)]
  rfl
 have c0 := hcell 0 (by omega)
 have c1 := hcell 1 (by omega)
 have c2 := hcell 2 (by omega)
 have c3 := hcell 3 (by omega)
 simp only [Nat.add_zero] at c0
 have HL := Lib.hid (load32_1_ok b (o + a) q r s t w hq hrr hs htt c0 c1 c2 c3)
 have g1 : (a : Int) + 4 ≤ (l.length : Int) := by omega
 clear hr ht hk hrc hcell c0 c1 c2 c3 hcut
 go_enter Tryz.func275, Tryz.ntmps275
 go_wp2_with fail
 refine HL.out.mono ?_
 rintro e w1 ⟨rfl, hg⟩
 have HG := Lib.hid hg
 clear hg
 go_wp2_with fail
 go_ret2
 exact ⟨rfl, HG.out⟩
theorem cut_four (l : List UInt8) (a : Nat) (h : a + 4 ≤ l.length) : ∃ q r s t : Nat, q < 256 ∧ r < 256 ∧ s < 256 ∧ t < 256 ∧ (cut l a 4).map UInt8.toNat = [q, r, s, t] ∧ num32 (cut l a 4) = q * 16777216 + r * 65536 + s * 256 + t := by
 have hl := cut_len h
 match hq : cut l a 4, hl with
 | [x0, x1, x2, x3], _ =>
  refine ⟨x0.toNat, x1.toNat, x2.toNat, x3.toNat, x0.toNat_lt, x1.toNat_lt, x2.toNat_lt, x3.toNat_lt, rfl, ?_⟩
  simp only [num32, List.foldl]
  omega
theorem cut_one (l : List UInt8) (a : Nat) (h : a + 1 ≤ l.length) : ∃ x : UInt8, cut l a 1 = [x] := by
 have hl := cut_len h
 match hq : cut l a 1, hl with
 | [x], _ => exact ⟨x, rfl⟩
set_option maxRecDepth 100000 in
theorem Read_yes (A : Option Addr) (l : List UInt8) (c a n : Nat) (w : World) (hr : Rd w A l) (hc : l.length ≤ c) (hcm : c ≤ maxLen) (hn : 0 < n) (ht : there l a n = true) :
  Calls Tryz.prog 232 #[.slice A l.length c, .int .i64 a, .int .i64 n] w fun e w' => ∃ A2 c2, e = .returned (.tuple #[.slice A2 n c2, .int .i64 0]) ∧ n ≤ c2 ∧ c2 ≤ maxLen ∧ Own w.heap.size w' A2 (cut l a n) ∧ Chg Non w w' := by
 obtain ⟨b, o, rfl, _⟩ := hr.at_ (by have := (there_yes ht).2; omega)
 have HW := Lib.hid (within_read b o l c a n w hr hc hcm hn ht)
 clear hr ht
 go_enter Tryz.func232, Tryz.ntmps232
 go_wp2_with fail
 refine HW.out.mono ?_
 rintro e w1 ⟨A2, c2, rfl, q1, q2, q3, q4⟩
 have Q3 := Lib.hid q3
 have Q4 := Lib.hid q4
 clear q3 q4
 go_wp2_with fail
 go_ret2
 exact ⟨A2, c2, rfl, q1, q2, Q3.out, Q4.out⟩
set_option maxRecDepth 100000 in
theorem Read_no (A : Option Addr) (l : List UInt8) (c a n : Nat) (w : World) (ha : (a : Int) ≤ 4294967295 * 3) (hn : (n : Int) ≤ 4294967295 * 3) (ht : there l a n = false) :
  Calls Tryz.prog 232 #[.slice A l.length c, .int .i64 a, .int .i64 n] w fun e w' => ∃ er : Int, (er == 0) = false ∧ e = .returned (.tuple #[.slice none 0 0, .int .i64 er]) ∧ w = w' := by
 have HW := Lib.hid (fun F => within_no_slice A l c a n F w ha hn ht)
 clear ht
 go_enter Tryz.func232, Tryz.ntmps232
 go_wp2_with fail
 refine (HW.out _).mono ?_
 rintro e w1 ⟨er, he, rfl, rfl⟩
 go_wp2_with fail
 go_ret2
 exact ⟨er, he, rfl, rfl⟩
set_option maxRecDepth 100000 in
theorem Load_no (A : Option Addr) (l : List UInt8) (c a : Nat) (w : World) (ha : (a : Int) ≤ 4294967295 * 3) (ht : there l a 1 = false) :
  Calls Tryz.prog 265 #[.slice A l.length c, .int .i64 a] w fun e w' => ∃ er : Int, (er == 0) = false ∧ e = .returned (.tuple #[.int .u8 0, .int .i64 er]) ∧ w = w' := by
 have HW := Lib.hid (fun F => within_no_byte A l c a 1 F w ha (by omega) ht)
 clear ht
 go_enter Tryz.func265, Tryz.ntmps265
 go_wp2_with fail
 refine (HW.out _).mono ?_
 rintro e w1 ⟨er, he, rfl, rfl⟩
 go_wp2_with fail
 go_ret2
 exact ⟨er, he, rfl, rfl⟩
set_option maxRecDepth 100000 in
theorem Load32_no (A : Option Addr) (l : List UInt8) (c a : Nat) (w : World) (ha : (a : Int) ≤ 4294967295 * 3) (ht : there l a 4 = false) :
  Calls Tryz.prog 268 #[.slice A l.length c, .int .i64 a] w fun e w' => ∃ er : Int, (er == 0) = false ∧ e = .returned (.tuple #[.int .u32 0, .int .i64 er]) ∧ w = w' := by
 have HW := Lib.hid (fun F => within_no_word A l c a 4 F w ha (by omega) ht)
 clear ht
 go_enter Tryz.func268, Tryz.ntmps268
 go_wp2_with fail
 refine (HW.out _).mono ?_
 rintro e w1 ⟨er, he, rfl, rfl⟩
 go_wp2_with fail
 go_ret2
 exact ⟨er, he, rfl, rfl⟩
set_option maxRecDepth 100000 in
theorem Load_yes (A : Option Addr) (l : List UInt8) (c a : Nat) (x : UInt8) (w : World) (hr : Rd w A l) (hc : l.length ≤ c) (hcm : c ≤ maxLen) (ht : there l a 1 = true) (hx : cut l a 1 = [x]) :
  Calls Tryz.prog 265 #[.slice A l.length c, .int .i64 a] w fun e w' => e = .returned (.tuple #[.int .u8 x.toNat, .int .i64 0]) ∧ w = w' := by
 obtain ⟨b, o, rfl, _⟩ := hr.at_ (by have := (there_yes ht).2; omega)
 have hcell := u8_cell (rd_cut hr a 1) 0 (by rw [hx]; simp)
 rw [hx, Nat.add_zero] at hcell
 have HW := Lib.hid (within_byte b o l c a 1 w hr hc hcm (by omega) ht (.int .u8 x.toNat) (load1_ok b (o + a) x.toNat w hcell))
 clear hr ht hcell
 go_enter Tryz.func265, Tryz.ntmps265
 go_wp2_with fail
 refine HW.out.mono ?_
 rintro e w1 ⟨rfl, rfl⟩
 go_wp2_with fail
 go_ret2
 exact ⟨rfl, rfl⟩
set_option maxRecDepth 100000 in
theorem Load32_yes (A : Option Addr) (l : List UInt8) (c a : Nat) (w : World) (hr : Rd w A l) (hc : l.length ≤ c) (hcm : c ≤ maxLen) (ht : there l a 4 = true) :
  Calls Tryz.prog 268 #[.slice A l.length c, .int .i64 a] w fun e w' => e = .returned (.tuple #[.int .u32 ((num32 (cut l a 4) : Nat) : Int), .int .i64 0]) ∧ Chg Non w w' := by
 obtain ⟨b, o, rfl, _⟩ := hr.at_ (by have := (there_yes ht).2; omega)
 obtain ⟨q, r, s, t, hq, hrr, hs, htt, hcut, hnum⟩ := cut_four l a (there_yes ht).2
 rw [hnum]
 have HW := Lib.hid (within_load32 b o l c a w hr hc hcm ht q r s t hq hrr hs htt hcut)
 clear hr ht hcut hnum
 go_enter Tryz.func268, Tryz.ntmps268
 go_wp2_with fail
 refine HW.out.mono ?_
 rintro e w1 ⟨rfl, hg⟩
 have HG := Lib.hid hg
 clear hg
 go_wp2_with fail
 go_ret2
 exact ⟨rfl, HG.out⟩
end
section
open Go.RowKit
set_option maxRecDepth 100000 in
theorem Write_yes (A : Option Addr) (l : List UInt8) (c a : Nat) (B : Option Addr) (y : List UInt8) (cy : Nat) (w : World) (hr : Rd w A l) (hry : Rd w B y) (hc : l.length ≤ c) (hcm : c ≤ maxLen) (hn : 0 < y.length) (ht : there l a y.length = true) :
  Calls Tryz.prog 52 #[.slice A l.length c, .int .i64 a, .slice B y.length cy] w fun e w' => ∃ A2 c2, e = .returned (.tuple #[.slice A2 l.length c2, .int .i64 0]) ∧ l.length ≤ c2 ∧ c2 ≤ maxLen ∧ Own w.heap.size w' A2 (put l a y) ∧ Chg Non w w' := by
 obtain ⟨h1, h2⟩ := there_yes ht
 obtain ⟨b, o, rfl, _⟩ := hr.at_ (by omega)
 have HR := Lib.hid hr
 have HRy := Lib.hid hry
 have hpl : (put l a y).length = l.length := put_len h2
 have HPl := Lib.hid hpl
 have HT := Lib.hid ht
 clear hr hry ht hpl
 go_enter Tryz.func52, Tryz.ntmps52
 go_wp2_with fail
 have hg0 : Chg Non w (((w.alloc (.cells #[.slice (some ⟨b, o, none⟩) l.length c] 50)).alloc (.cells #[.int .i64 a] 3)).alloc (.cells #[.slice B y.length cy] 50)) := (((Chg.refl Non w).alloc _).alloc _).alloc _
 have HG0 := Lib.hid hg0
 have hw := within_write b o l c a y.length _ (HR.out.non hg0) hc hcm hn HT.out (put l a y) (.pointer (some ⟨w.heap.size, 0, none⟩)) (.pointer (some ⟨w.heap.size + 1, 0, none⟩)) (.pointer (some ⟨w.heap.size + 1 + 1, 0, none⟩)) (fun v W hg => write1_ok b o l c a B y cy w.heap.size (w.heap.size + 1) (w.heap.size + 1 + 1) v W ((HR.out.non HG0.out).non hg) ((HRy.out.non HG0.out).non hg) hc hcm h1 h2 (hg.cell_some (row_cell (al_3_0 w _ _ _) rfl) (fun e => e)) (hg.cell_some (row_cell (al_3_1 w _ _ _) rfl) (fun e => e)) (hg.cell_some (row_cell (al_3_2 w _ _ _) rfl) (fun e => e)))
 rw [HPl.out] at hw
 have HW := Lib.hid hw
 clear hg0 hw
 refine HW.out.mono ?_
 rintro e w1 ⟨A2, c2, rfl, q1, q2, q3, q4⟩
 have Q3 := Lib.hid (q3.mono (show w.heap.size ≤ _ by simp; omega))
 have Q4 := Lib.hid (HG0.out.then_non q4)
 clear q3 q4
 go_wp2_with fail
 go_ret2
 exact ⟨A2, c2, rfl, q1, q2, Q3.out, Q4.out⟩
set_option maxRecDepth 100000 in
theorem Write_no (A : Option Addr) (l : List UInt8) (c a : Nat) (B : Option Addr) (n cy : Nat) (w : World) (ha : (a : Int) ≤ 4294967295 * 3) (hn : (n : Int) ≤ 4294967295 * 3) (ht : there l a n = false) :
  Calls Tryz.prog 52 #[.slice A l.length c, .int .i64 a, .slice B n cy] w fun e w' => ∃ er : Int, (er == 0) = false ∧ e = .returned (.tuple #[.slice none 0 0, .int .i64 er]) ∧ Chg Non w w' := by
 have HW := Lib.hid (fun F W => within_no_slice A l c a n F W ha hn ht)
 clear ht
 go_enter Tryz.func52, Tryz.ntmps52
 go_wp2_with fail
 refine (HW.out _ _).mono ?_
 rintro e w1 ⟨er, he, rfl, rfl⟩
 go_wp2_with fail
 go_ret2
 exact ⟨er, he, rfl, (((Chg.refl Non w).alloc _).alloc _).alloc _⟩
set_option maxRecDepth 100000 in
theorem Store_yes (A : Option Addr) (l : List UInt8) (c a x : Nat) (w : World) (hx : x < 256) (hr : Rd w A l) (hc : l.length ≤ c) (hcm : c ≤ maxLen) (ht : there l a 1 = true) :
  Calls Tryz.prog 267 #[.slice A l.length c, .int .i64 a, .int .u8 x] w fun e w' => ∃ A2 c2, e = .returned (.tuple #[.slice A2 l.length c2, .int .i64 0]) ∧ l.length ≤ c2 ∧ c2 ≤ maxLen ∧ Own w.heap.size w' A2 (put l a [UInt8.ofNat x]) ∧ Chg Non w w' := by
 have hb : Rd (w.alloc (.cells #[.int .u8 x] 5)) (some ⟨w.heap.size, 0, none⟩) [UInt8.ofNat x] := by
  intro i y hy
  refine ⟨_, _, rfl, ?_⟩
  have hi : i = 0 := by have := (List.getElem?_eq_some_iff.1 hy).1; simp at this; omega
  subst hi
  simp at hy
  subst hy
  rw [cell_of_one (heap_alloc_new _ _), UInt8.toNat_ofNat']
  congr 2
  omega
 have HW := Lib.hid (Write_yes A l c a (some ⟨w.heap.size, 0, none⟩) [UInt8.ofNat x] 1 (w.alloc (.cells #[.int .u8 x] 5)) (hr.non ((Chg.refl Non w).alloc _)) hb hc hcm (by simp) ht)
 clear hr hb ht
 go_enter Tryz.func267, Tryz.ntmps267
 go_wp2_with fail
 refine HW.out.mono ?_
 rintro e w1 ⟨A2, c2, rfl, q1, q2, q3, q4⟩
 have Q3 := Lib.hid (q3.mono (show w.heap.size ≤ _ by simp))
 have Q4 := Lib.hid (((Chg.refl Non w).alloc _).then_non q4)
 clear q3 q4
 go_wp2_with fail
 go_ret2
 exact ⟨A2, c2, rfl, q1, q2, Q3.out, Q4.out⟩
set_option maxRecDepth 100000 in
theorem Store_no (A : Option Addr) (l : List UInt8) (c a x : Nat) (w : World) (ha : (a : Int) ≤ 4294967295 * 3) (ht : there l a 1 = false) :
  Calls Tryz.prog 267 #[.slice A l.length c, .int .i64 a, .int .u8 x] w fun e w' => ∃ er : Int, (er == 0) = false ∧ e = .returned (.tuple #[.slice none 0 0, .int .i64 er]) ∧ Chg Non w w' := by
 have HW := Lib.hid (fun B cy W => Write_no A l c a B 1 cy W ha (by omega) ht)
 clear ht
 go_enter Tryz.func267, Tryz.ntmps267
 go_wp2_with fail
 refine (HW.out _ _ _).mono ?_
 rintro e w1 ⟨er, he, rfl, q4⟩
 have Q4 := Lib.hid (((Chg.refl Non w).alloc _).then_non q4)
 clear q4
 go_wp2_with fail
 go_ret2
 exact ⟨er, he, rfl, Q4.out⟩
end
section
open Go.RowKit
def wcells (x : Nat) : Array Value := #[.int .u8 ((x : Int) / 16777216), .int .u8 ((x : Int) / 65536 % 256), .int .u8 ((x : Int) / 256 % 256), .int .u8 ((x : Int) % 256)]
theorem rd_word32 (w : World) (x : Nat) (hx : x < 4294967296) : Rd (w.alloc (.cells (wcells x) 5)) (some ⟨w.heap.size, 0, none⟩) (word32 x) := by
 intro i y hy
 refine ⟨_, _, rfl, ?_⟩
 have hi : i = 0 ∨ i = 1 ∨ i = 2 ∨ i = 3 := by have := (List.getElem?_eq_some_iff.1 hy).1; simp [word32] at this; omega
 rw [Nat.zero_add]
 refine row_cell (heap_alloc_new _ _) ?_
 rcases hi with rfl | rfl | rfl | rfl
 all_goals
  simp [word32] at hy
  subst hy
  simp only [wcells, UInt8.toNat_ofNat']
  first
   | (show some (Value.int .u8 ((x : Int) / 16777216)) = _; congr 2; omega)
   | (show some (Value.int .u8 ((x : Int) / 65536 % 256)) = _; congr 2)
   | (show some (Value.int .u8 ((x : Int) / 256 % 256)) = _; congr 2)
   | (show some (Value.int .u8 ((x : Int) % 256)) = _; congr 2)
set_option maxRecDepth 100000 in
theorem Store32_yes (A : Option Addr) (l : List UInt8) (c a x : Nat) (w : World) (hx : x < 4294967296) (hr : Rd w A l) (hc : l.length ≤ c) (hcm : c ≤ maxLen) (ht : there l a 4 = true) :
  Calls Tryz.prog 269 #[.slice A l.length c, .int .i64 a, .int .u32 x] w fun e w' => ∃ A2 c2, e = .returned (.tuple #[.slice A2 l.length c2, .int .i64 0]) ∧ l.length ≤ c2 ∧ c2 ≤ maxLen ∧ Own w.heap.size w' A2 (put l a (word32 x)) ∧ Chg Non w w' := by
 have HW := Lib.hid (Write_yes A l c a (some ⟨w.heap.size, 0, none⟩) (word32 x) 4 (w.alloc (.cells (wcells x) 5)) (hr.non ((Chg.refl Non w).alloc _)) (rd_word32 w x hx) hc hcm (by simp [word32]) ht)
 clear hr ht
 go_enter Tryz.func269, Tryz.ntmps269
 go_wp2_with fail
 refine HW.out.mono ?_
 rintro e w1 ⟨A2, c2, rfl, q1, q2, q3, q4⟩
 have Q3 := Lib.hid (q3.mono (show w.heap.size ≤ _ by simp))
 have Q4 := Lib.hid (((Chg.refl Non w).alloc _).then_non q4)
 clear q3 q4
 go_wp2_with fail
 go_ret2
 exact ⟨A2, c2, rfl, q1, q2, Q3.out, Q4.out⟩
set_option maxRecDepth 100000 in
theorem Store32_no (A : Option Addr) (l : List UInt8) (c a x : Nat) (w : World) (hx : x < 4294967296) (ha : (a : Int) ≤ 4294967295 * 3) (ht : there l a 4 = false) :
  Calls Tryz.prog 269 #[.slice A l.length c, .int .i64 a, .int .u32 x] w fun e w' => ∃ er : Int, (er == 0) = false ∧ e = .returned (.tuple #[.slice none 0 0, .int .i64 er]) ∧ Chg Non w w' := by
 have HW := Lib.hid (fun B cy W => Write_no A l c a B 4 cy W ha (by omega) ht)
 clear ht
 go_enter Tryz.func269, Tryz.ntmps269
 go_wp2_with fail
 refine (HW.out _ _ _).mono ?_
 rintro e w1 ⟨er, he, rfl, q4⟩
 have Q4 := Lib.hid (((Chg.refl Non w).alloc _).then_non q4)
 clear q4
 go_wp2_with fail
 go_ret2
 exact ⟨er, he, rfl, Q4.out⟩
end
section
open Go.RowKit
set_option maxRecDepth 100000 in
theorem set_ok (b : Nat) (p : Pt) (m : Value) (op a b2 c n : Nat) (w : World) (hp : PartB w b p m) (ha : a < 8) (hn : n < 65536) :
  Calls Tryz.prog 241 #[.pointer (some ⟨b, 0, none⟩), .agg #[.int .u8 op, .int .u8 a, .int .u8 b2, .int .u8 c, .int .i64 n]] w fun e w' => e = .returned (.bool true) ∧ PartB w' b (p.set a (n)) m ∧ Chg (fun k => k = b) w w' := by
 have hai : (a : Int) < 8 := by omega
 have hlt0 := hp.lt
 have hg : Chg Non w (w.alloc (.cells #[.int .u8 op, .int .u8 a, .int .u8 b2, .int .u8 c, .int .i64 n] 143)).drew := ((Chg.refl Non w).alloc _).drew
 have hp2 := hp.non hg
 obtain ⟨⟨z, c0, c1, c2, c3, c4⟩, _⟩ := (Blk5.mk (blockN ((Chg.refl Non _).drew) (heap_alloc_new w (.cells #[.int .u8 op, .int .u8 a, .int .u8 b2, .int .u8 c, .int .i64 n] 143)))).all
 clear hp
 go_enter Tryz.func241, Tryz.ntmps241
 go_wp2_with fail
 refine wp_region_still_tail 9 (by kernel_rfl) (by kernel_rfl) ?_
 simp only [List.take_succ_cons, List.take_zero, List.drop_succ_cons, List.drop_zero]
 change wpStill _ _ (w.alloc (.cells #[.int .u8 op, .int .u8 a, .int .u8 b2, .int .u8 c, .int .i64 n] 143)).drew (fun a' => wpList _ _ _ _ a' (w.alloc (.cells #[.int .u8 op, .int .u8 a, .int .u8 b2, .int .u8 c, .int .i64 n] 143)).drew) _ _
 generalize (w.alloc (.cells #[.int .u8 op, .int .u8 a, .int .u8 b2, .int .u8 c, .int .i64 n] 143)).drew = w2 at hg hp2 z c0 c1 c2 c3 c4 ⊢
 have HP := Lib.hid hp2
 have HG := Lib.hid hg
 have hlt := hp2.lt
 have hf := hp2.frozen (3 + a)
 have hca := hp2.reg a ha
 clear hp2 hg
 repeat still_step
 refine wpStill_nil ?_
 go_wp2_with fail
 go_ret
 exact ⟨rfl, HP.out.setReg a n ha, HG.out.non_then (setAt w2 b (3 + a) _)⟩
set_option maxRecDepth 100000 in
theorem high_ok (b : Nat) (p : Pt) (m : Value) (op a b2 c n : Nat) (w : World) (hp : PartB w b p m) (ha : a < 8) (hn : n < 65536) (r : Nat) (hr : p.g a = r) (hb : r < 4294967296) :
  Calls Tryz.prog 242 #[.pointer (some ⟨b, 0, none⟩), .agg #[.int .u8 op, .int .u8 a, .int .u8 b2, .int .u8 c, .int .i64 n]] w fun e w' => e = .returned (.bool true) ∧ PartB w' b (p.set a ((r * 65536 % 4294967296) ||| n)) m ∧ Chg (fun k => k = b) w w' := by
 have hai : (a : Int) < 8 := by omega
 have hlt0 := hp.lt
 have hg : Chg Non w (w.alloc (.cells #[.int .u8 op, .int .u8 a, .int .u8 b2, .int .u8 c, .int .i64 n] 143)).drew := ((Chg.refl Non w).alloc _).drew
 have hp2 := hp.non hg
 obtain ⟨⟨z, c0, c1, c2, c3, c4⟩, _⟩ := (Blk5.mk (blockN ((Chg.refl Non _).drew) (heap_alloc_new w (.cells #[.int .u8 op, .int .u8 a, .int .u8 b2, .int .u8 c, .int .i64 n] 143)))).all
 clear hp
 go_enter Tryz.func242, Tryz.ntmps242
 go_wp2_with fail
 refine wp_region_still_tail 18 (by kernel_rfl) (by kernel_rfl) ?_
 simp only [List.take_succ_cons, List.take_zero, List.drop_succ_cons, List.drop_zero]
 change wpStill _ _ (w.alloc (.cells #[.int .u8 op, .int .u8 a, .int .u8 b2, .int .u8 c, .int .i64 n] 143)).drew (fun a' => wpList _ _ _ _ a' (w.alloc (.cells #[.int .u8 op, .int .u8 a, .int .u8 b2, .int .u8 c, .int .i64 n] 143)).drew) _ _
 generalize (w.alloc (.cells #[.int .u8 op, .int .u8 a, .int .u8 b2, .int .u8 c, .int .i64 n] 143)).drew = w2 at hg hp2 z c0 c1 c2 c3 c4 ⊢
 have HP := Lib.hid hp2
 have HG := Lib.hid hg
 have hlt := hp2.lt
 have hf := hp2.frozen (3 + a)
 have hca := hp2.reg a ha
 rw [hr] at hca
 have hor : bits .or .u32 ((r : Int) * 65536 % 4294967296) (n : Int) = (((r * 65536 % 4294967296) ||| n : Nat) : Int) := by have := u32_or_nat (r * 65536 % 4294967296) n (by omega) (by omega); simpa using this
 clear hp2 hg
 repeat still_step
 refine wpStill_nil ?_
 go_wp2_with fail
 go_ret
 exact ⟨rfl, by rw [hor]; exact HP.out.setReg a _ ha, HG.out.non_then (setAt w2 b (3 + a) _)⟩
set_option maxRecDepth 100000 in
theorem move_ok (b : Nat) (p : Pt) (m : Value) (op a b2 c n : Nat) (w : World) (hp : PartB w b p m) (ha : a < 8) (hb2 : b2 < 8) :
  Calls Tryz.prog 247 #[.pointer (some ⟨b, 0, none⟩), .agg #[.int .u8 op, .int .u8 a, .int .u8 b2, .int .u8 c, .int .i64 n]] w fun e w' => e = .returned (.bool true) ∧ PartB w' b (p.set a (p.g b2)) m ∧ Chg (fun k => k = b) w w' := by
 have hai : (a : Int) < 8 := by omega
 have hlt0 := hp.lt
 have hg : Chg Non w (w.alloc (.cells #[.int .u8 op, .int .u8 a, .int .u8 b2, .int .u8 c, .int .i64 n] 143)).drew := ((Chg.refl Non w).alloc _).drew
 have hp2 := hp.non hg
 obtain ⟨⟨z, c0, c1, c2, c3, c4⟩, _⟩ := (Blk5.mk (blockN ((Chg.refl Non _).drew) (heap_alloc_new w (.cells #[.int .u8 op, .int .u8 a, .int .u8 b2, .int .u8 c, .int .i64 n] 143)))).all
 clear hp
 go_enter Tryz.func247, Tryz.ntmps247
 go_wp2_with fail
 refine wp_region_still_tail 13 (by kernel_rfl) (by kernel_rfl) ?_
 simp only [List.take_succ_cons, List.take_zero, List.drop_succ_cons, List.drop_zero]
 change wpStill _ _ (w.alloc (.cells #[.int .u8 op, .int .u8 a, .int .u8 b2, .int .u8 c, .int .i64 n] 143)).drew (fun a' => wpList _ _ _ _ a' (w.alloc (.cells #[.int .u8 op, .int .u8 a, .int .u8 b2, .int .u8 c, .int .i64 n] 143)).drew) _ _
 generalize (w.alloc (.cells #[.int .u8 op, .int .u8 a, .int .u8 b2, .int .u8 c, .int .i64 n] 143)).drew = w2 at hg hp2 z c0 c1 c2 c3 c4 ⊢
 have HP := Lib.hid hp2
 have HG := Lib.hid hg
 have hlt := hp2.lt
 have hf := hp2.frozen (3 + a)
 have hca := hp2.reg a ha
 have hbi : (b2 : Int) < 8 := by omega
 have hcb := hp2.reg b2 hb2
 clear hp2 hg
 repeat still_step
 refine wpStill_nil ?_
 go_wp2_with fail
 go_ret
 exact ⟨rfl, HP.out.setReg a _ ha, HG.out.non_then (setAt w2 b (3 + a) _)⟩
set_option maxRecDepth 100000 in
theorem address_ok (b : Nat) (p : Pt) (m : Value) (op a b2 c n : Nat) (w : World) (hp : PartB w b p m) (hb2 : b2 < 8) (r : Nat) (hr : p.g b2 = r) (hn : n < 65536) (hb : r < 4294967296) :
  Calls Tryz.prog 266 #[.pointer (some ⟨b, 0, none⟩), .agg #[.int .u8 op, .int .u8 a, .int .u8 b2, .int .u8 c, .int .i64 n]] w fun e w' => e = .returned (.int .i64 ((r + n : Nat) : Int)) ∧ Chg Non w w' := by
 have hbi : (b2 : Int) < 8 := by omega
 have hg : Chg Non w (w.alloc (.cells #[.int .u8 op, .int .u8 a, .int .u8 b2, .int .u8 c, .int .i64 n] 143)).drew := ((Chg.refl Non w).alloc _).drew
 have hp2 := hp.non hg
 have hc := hp2.reg b2 hb2
 rw [hr] at hc
 obtain ⟨⟨z, c0, c1, c2, c3, c4⟩, _⟩ := (Blk5.mk (blockN ((Chg.refl Non _).drew) (heap_alloc_new w (.cells #[.int .u8 op, .int .u8 a, .int .u8 b2, .int .u8 c, .int .i64 n] 143)))).all
 have HG := Lib.hid hg
 clear hp hp2 hg
 go_enter Tryz.func266, Tryz.ntmps266
 go_wp2_with fail
 refine wp_region_held_drew (S := fun W => W.cell? ⟨b, 3 + b2, none⟩ = some (.int .u32 r) ∧ W.cell? ⟨w.heap.size, 2, none⟩ = some (.int .u8 b2) ∧ W.cell? ⟨w.heap.size, 4, none⟩ = some (.int .i64 n)) (by kernel_rfl) ⟨hc, c2, c4⟩ (fun hHeld => ?_)
 refine hp 0 5 (.pointer (some ⟨b, 0, none⟩)) rfl hHeld ?_ (he := (fun W hW => by obtain ⟨e1, e2, e3⟩ := hW; go_simp))
 refine hp 1 6 (.pointer (some ⟨w.heap.size, 2, none⟩)) rfl hHeld ?_ (he := (fun W hW => by obtain ⟨e1, e2, e3⟩ := hW; go_simp))
 refine hp 2 7 (.int .u8 b2) rfl hHeld ?_ (he := (fun W hW => by obtain ⟨e1, e2, e3⟩ := hW; go_simp))
 refine hp 3 8 (.pointer (some ⟨b, 0, none⟩)) rfl hHeld ?_ (he := (fun W hW => by obtain ⟨e1, e2, e3⟩ := hW; go_simp))
 refine hp 4 9 (.pointer (some ⟨b, 3, none⟩)) rfl hHeld ?_ (he := (fun W hW => by obtain ⟨e1, e2, e3⟩ := hW; go_simp))
 refine hp 5 10 (.pointer (some ⟨b, 3 + b2, none⟩)) rfl hHeld ?_ (he := (fun W hW => by obtain ⟨e1, e2, e3⟩ := hW; go_simp))
 refine hp 6 11 (.int .u32 r) rfl hHeld ?_ (he := (fun W hW => by obtain ⟨e1, e2, e3⟩ := hW; go_simp))
 refine hp 7 12 (.int .i64 r) rfl hHeld ?_ (he := (fun W hW => by obtain ⟨e1, e2, e3⟩ := hW; go_simp; exact Go.IntWalk.i64_in _ (by omega)))
 refine hp 8 13 (.pointer (some ⟨w.heap.size, 4, none⟩)) rfl hHeld ?_ (he := (fun W hW => by obtain ⟨e1, e2, e3⟩ := hW; go_simp))
 refine hp 9 14 (.int .i64 n) rfl hHeld ?_ (he := (fun W hW => by obtain ⟨e1, e2, e3⟩ := hW; go_simp))
 refine hp 10 15 (.int .i64 ((r + n : Nat) : Int)) rfl hHeld ?_ (he := (fun W hW => by obtain ⟨e1, e2, e3⟩ := hW; go_simp; exact Go.IntWalk.i64_in _ (by omega)))
 refine hp 11 4 (.int .i64 ((r + n : Nat) : Int)) rfl hHeld ?_ (he := (fun W hW => by obtain ⟨e1, e2, e3⟩ := hW; go_simp))
 refine wpAnyH_done (by kernel_rfl) ?_ _
 go_wp2_with fail
 go_ret
 exact ⟨rfl, HG.out⟩
end
section
open Go.RowKit
theorem mk2_4 (x y : Nat) : mk2 4 x y = (x + y) % 4294967296 := by unfold mk2; rw [if_pos rfl]
theorem mk2_5 (x y : Nat) : mk2 5 x y = (x + 4294967296 - y) % 4294967296 := by unfold mk2; rw [if_neg (by decide), if_pos rfl]
theorem mk2_6 (x y : Nat) : mk2 6 x y = x * y % 4294967296 := by unfold mk2; rw [if_neg (by decide), if_neg (by decide), if_pos rfl]
theorem mk2_7 (x y : Nat) : mk2 7 x y = x &&& y := by unfold mk2; rw [if_neg (by decide), if_neg (by decide), if_neg (by decide), if_pos rfl]
theorem mk2_8 (x y : Nat) : mk2 8 x y = x ||| y := by unfold mk2; rw [if_neg (by decide), if_neg (by decide), if_neg (by decide), if_neg (by decide), if_pos rfl]
theorem mk2_9 (x y : Nat) : mk2 9 x y = x ^^^ y := by unfold mk2; rw [if_neg (by decide), if_neg (by decide), if_neg (by decide), if_neg (by decide), if_neg (by decide), if_pos rfl]
theorem mk2_10 (x y : Nat) : mk2 10 x y = x * 2 ^ (y % 32) % 4294967296 := by unfold mk2; rw [if_neg (by decide), if_neg (by decide), if_neg (by decide), if_neg (by decide), if_neg (by decide), if_neg (by decide), if_pos rfl]
theorem mk2_11 (x y : Nat) : mk2 11 x y = x / 2 ^ (y % 32) := by unfold mk2; rw [if_neg (by decide), if_neg (by decide), if_neg (by decide), if_neg (by decide), if_neg (by decide), if_neg (by decide), if_neg (by decide), if_pos rfl]
theorem mk2_12 (x y : Nat) : mk2 12 x y = if x < y then 1 else 0 := by unfold mk2; rw [if_neg (by decide), if_neg (by decide), if_neg (by decide), if_neg (by decide), if_neg (by decide), if_neg (by decide), if_neg (by decide), if_neg (by decide), if_pos rfl]
set_option maxRecDepth 100000 in
theorem mk_add (x y : Nat) (w : World) (hx : x < 4294967296) (hy : y < 4294967296) :
  Calls Tryz.prog 248 #[.int .u32 x, .int .u32 y] w fun e w' => e = .returned (.int .u32 ((mk2 4 x y : Nat) : Int)) ∧ w = w' := by
 go_enter Tryz.func248, Tryz.ntmps248
 go_wp2_with fail
 go_ret
 refine ⟨?_, rfl⟩
 show Ending.returned (Value.int .u32 (((x : Int) + y) % 4294967296)) = _
 rw [mk2_4, show ((x : Int) + y) % 4294967296 = (((x + y) % 4294967296 : Nat) : Int) from by omega]
set_option maxRecDepth 100000 in
theorem mk_sub (x y : Nat) (w : World) (hx : x < 4294967296) (hy : y < 4294967296) :
  Calls Tryz.prog 249 #[.int .u32 x, .int .u32 y] w fun e w' => e = .returned (.int .u32 ((mk2 5 x y : Nat) : Int)) ∧ w = w' := by
 go_enter Tryz.func249, Tryz.ntmps249
 go_wp2_with fail
 go_ret
 refine ⟨?_, rfl⟩
 show Ending.returned (Value.int .u32 (((x : Int) - y) % 4294967296)) = _
 rw [mk2_5, show ((x : Int) - y) % 4294967296 = (((x + 4294967296 - y) % 4294967296 : Nat) : Int) from by omega]
set_option maxRecDepth 100000 in
theorem mk_mul (x y : Nat) (w : World) (hx : x < 4294967296) (hy : y < 4294967296) :
  Calls Tryz.prog 250 #[.int .u32 x, .int .u32 y] w fun e w' => e = .returned (.int .u32 ((mk2 6 x y : Nat) : Int)) ∧ w = w' := by
 go_enter Tryz.func250, Tryz.ntmps250
 go_wp2_with fail
 go_ret
 refine ⟨?_, rfl⟩
 show Ending.returned (Value.int .u32 (((x : Int) * y) % 4294967296)) = _
 rw [mk2_6, show ((x : Int) * y) % 4294967296 = ((x * y % 4294967296 : Nat) : Int) from by rw [Int.natCast_emod, Int.natCast_mul]; rfl]
set_option maxRecDepth 100000 in
theorem mk_and (x y : Nat) (w : World) (hx : x < 4294967296) (hy : y < 4294967296) :
  Calls Tryz.prog 251 #[.int .u32 x, .int .u32 y] w fun e w' => e = .returned (.int .u32 ((mk2 7 x y : Nat) : Int)) ∧ w = w' := by
 go_enter Tryz.func251, Tryz.ntmps251
 go_wp2_with fail
 go_ret
 refine ⟨?_, rfl⟩
 show Ending.returned (Value.int .u32 (bits .and .u32 (x : Int) (y : Int))) = _
 rw [mk2_7, show bits .and .u32 (x : Int) (y : Int) = ((x &&& y : Nat) : Int) from u32_and_nat x y hx hy]
set_option maxRecDepth 100000 in
theorem mk_or (x y : Nat) (w : World) (hx : x < 4294967296) (hy : y < 4294967296) :
  Calls Tryz.prog 252 #[.int .u32 x, .int .u32 y] w fun e w' => e = .returned (.int .u32 ((mk2 8 x y : Nat) : Int)) ∧ w = w' := by
 go_enter Tryz.func252, Tryz.ntmps252
 go_wp2_with fail
 go_ret
 refine ⟨?_, rfl⟩
 show Ending.returned (Value.int .u32 (bits .or .u32 (x : Int) (y : Int))) = _
 rw [mk2_8, show bits .or .u32 (x : Int) (y : Int) = ((x ||| y : Nat) : Int) from u32_or_nat x y hx hy]
set_option maxRecDepth 100000 in
theorem mk_xor (x y : Nat) (w : World) (hx : x < 4294967296) (hy : y < 4294967296) :
  Calls Tryz.prog 253 #[.int .u32 x, .int .u32 y] w fun e w' => e = .returned (.int .u32 ((mk2 9 x y : Nat) : Int)) ∧ w = w' := by
 go_enter Tryz.func253, Tryz.ntmps253
 go_wp2_with fail
 go_ret
 refine ⟨?_, rfl⟩
 show Ending.returned (Value.int .u32 (bits .xor .u32 (x : Int) (y : Int))) = _
 rw [mk2_9, show bits .xor .u32 (x : Int) (y : Int) = ((x ^^^ y : Nat) : Int) from u32_xor_nat x y hx hy]
set_option maxRecDepth 100000 in
theorem mk_shl (x y : Nat) (w : World) (hx : x < 4294967296) (hy : y < 4294967296) :
  Calls Tryz.prog 254 #[.int .u32 x, .int .u32 y] w fun e w' => e = .returned (.int .u32 ((mk2 10 x y : Nat) : Int)) ∧ w = w' := by
 go_enter Tryz.func254, Tryz.ntmps254
 go_wp2_with fail
 go_ret
 refine ⟨?_, rfl⟩
 show Ending.returned (Value.int .u32 ((x : Int) * 2 ^ (y % 32) % 4294967296)) = _
 rw [mk2_10, show (x : Int) * 2 ^ (y % 32) % 4294967296 = ((x * 2 ^ (y % 32) % 4294967296 : Nat) : Int) from by rw [Int.natCast_emod, Int.natCast_mul, Int.natCast_pow]; rfl]
set_option maxRecDepth 100000 in
theorem mk_shr (x y : Nat) (w : World) (hx : x < 4294967296) (hy : y < 4294967296) :
  Calls Tryz.prog 255 #[.int .u32 x, .int .u32 y] w fun e w' => e = .returned (.int .u32 ((mk2 11 x y : Nat) : Int)) ∧ w = w' := by
 go_enter Tryz.func255, Tryz.ntmps255
 go_wp2_with fail
 go_ret
 refine ⟨?_, rfl⟩
 show Ending.returned (Value.int .u32 ((x : Int) / 2 ^ (y % 32))) = _
 rw [mk2_11, show (x : Int) / 2 ^ (y % 32) = ((x / 2 ^ (y % 32) : Nat) : Int) from by rw [Int.natCast_ediv, Int.natCast_pow]; rfl]
set_option maxRecDepth 100000 in
theorem mk_less (x y : Nat) (w : World) :
  Calls Tryz.prog 256 #[.int .u32 x, .int .u32 y] w fun e w' => e = .returned (.int .u32 ((mk2 12 x y : Nat) : Int)) ∧ w = w' := by
 by_cases h : x < y
 ·have hb : decide ((x : Int) < (y : Int)) = true := by simp; omega
  rw [show mk2 12 x y = 1 by rw [mk2_12, if_pos h]]
  go_enter Tryz.func256, Tryz.ntmps256
  go_wp2_with fail
  go_ret
  exact ⟨rfl, rfl⟩
 ·have hb : decide ((x : Int) < (y : Int)) = false := by simp; omega
  rw [show mk2 12 x y = 0 by rw [mk2_12, if_neg h]]
  go_enter Tryz.func256, Tryz.ntmps256
  go_wp2_with fail
  go_ret
  exact ⟨rfl, rfl⟩
end
end Go.Proofs.YtmnaleaghfbclaaGreatDoor
