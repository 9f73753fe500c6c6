/- BootNil, part 2 of 14: contracts of the functions that it reaches, and the laws that they need, merged and shortened (from my texts XCrcW, XCrcP, XFrame, XFrame2, XReader, XSeal, XAny, XHeld, XMini, XGen). -/
import Derived.Test.YtajkajgifigmbaaGreatMgBootNilA
import Derived.Deep.MidRow
import Derived.Laws.EntriesVeiled
import Derived.RegionTactic
import Derived.Deep.RegionHeld3
namespace Go.Proofs.YtajkajgifigmbaaGreat
set_option linter.unusedVariables false
set_option linter.unusedSimpArgs false
set_option maxHeartbeats 8000000
set_option maxRecDepth 100000
section
open Go.RowKit
def tabA (k : Nat) : Array Value := ((List.range 16).map fun j => if j < k then .int .u32 (tw 4 j : Nat) else .int .u32 0).toArray
theorem tabA_zero : tabA 0 = #[.int .u32 0, .int .u32 0, .int .u32 0, .int .u32 0, .int .u32 0, .int .u32 0, .int .u32 0, .int .u32 0, .int .u32 0, .int .u32 0, .int .u32 0, .int .u32 0, .int .u32 0, .int .u32 0, .int .u32 0, .int .u32 0] := rfl
theorem tabA_size (k : Nat) : (tabA k).size = 16 := by simp [tabA]
theorem tabA_at (k j : Nat) (h : j < 16) : (tabA k)[j]? = some (if j < k then .int .u32 (tw 4 j : Nat) else .int .u32 0) := by simp [tabA, h]
theorem tabA_set (k : Nat) (h : k < 16) : (tabA k).setIfInBounds k (.int .u32 (tw 4 k : Nat)) = tabA (k + 1) := by
 apply Array.ext_getElem?
 intro i
 rw [Array.getElem?_setIfInBounds]
 by_cases hi : i < 16
 ·rw [tabA_at k i hi, tabA_at (k + 1) i hi]
  by_cases e : k = i
  ·subst e; simp [tabA_size, h]
  ·have : (i < k + 1) ↔ i < k := by omega
   simp only [e, if_false, this]
 ·have h1 : (tabA k)[i]? = none := Array.getElem?_eq_none (by rw [tabA_size]; omega)
  have h2 : (tabA (k + 1))[i]? = none := Array.getElem?_eq_none (by rw [tabA_size]; omega)
  have : k ≠ i := by omega
  simp [h1, h2, this]
theorem tabA_get (k : Nat) (h : k < 16) : (tabA k)[k]? = some (.int .u32 0) := by rw [tabA_at k k h]; simp
theorem tabA_full (k : Nat) (h : k < 16) : (tabA 16)[k]? = some (.int .u32 (tw 4 k : Nat)) := by rw [tabA_at 16 k h]; simp [h]
theorem tabA_lit : tabA 16 = #[.int .u32 (tw 4 0 : Nat), .int .u32 (tw 4 1 : Nat), .int .u32 (tw 4 2 : Nat), .int .u32 (tw 4 3 : Nat), .int .u32 (tw 4 4 : Nat), .int .u32 (tw 4 5 : Nat), .int .u32 (tw 4 6 : Nat), .int .u32 (tw 4 7 : Nat), .int .u32 (tw 4 8 : Nat), .int .u32 (tw 4 9 : Nat), .int .u32 (tw 4 10 : Nat), .int .u32 (tw 4 11 : Nat), .int .u32 (tw 4 12 : Nat), .int .u32 (tw 4 13 : Nat), .int .u32 (tw 4 14 : Nat), .int .u32 (tw 4 15 : Nat)] := rfl
theorem tabA_one : (tabA 16).all (·.oneCell') = true := by rw [tabA_lit]; simp [Value.oneCell']
theorem table_any (w : World) :
  Calls Tryz.prog 370 #[] w fun e w' => e = .returned (.agg (tabA 16)) ∧ Chg Non w w' := by
 go_enter Tryz.func370, Tryz.ntmps370
 go_wp2
 go_loopw [5] (fun i wr => ∃ k : Nat, k ≤ 16 ∧ i = .int .i64 k ∧ wr.heap[w.heap.size + 1]? = some (.cells (tabA k) 389 (0, 0)) ∧ wr.heap[w.heap.size]? = some (.cells (tabA 0) 389 (0, 0)) ∧ Chg Non w wr) (fun i _ => 16 - (intOf i).toNat)
 case atStart => 
  refine ⟨0, by omega, rfl, ?_, ?_, ((Chg.refl _ _).alloc _).alloc _⟩
  ·rw [tabA_zero]
   have h := fun o o' => (MapKept.heap_alloc (w.alloc o) o').1
   simp only [World.size_alloc] at h
   exact h _ _
  ·rw [tabA_zero]
   refine (Below.heap_alloc _ _ _ (by simp)).trans (MapKept.heap_alloc _ _).1
 case round =>
  obtain ⟨k, hk, rfl, hb, hb0, hg⟩ := hrel
  by_cases hlt : k < 16
  ·obtain ⟨wo, rfl⟩ : ∃ wo : World, wo = wr := ⟨_, rfl⟩
   have HB := Lib.hid hb
   have HB0 := Lib.hid hb0
   clear hb hb0
   go_wp2
   go_loop [3, 10] (fun c j => ∃ i : Nat, i ≤ 4 ∧ j = .int .i64 i ∧ c = .int .u32 (tw i k : Nat)) (fun _ j => 4 - (intOf j).toNat)
   case atStart => exact ⟨0, by omega, rfl, rfl⟩
   case round =>
    obtain ⟨i, hi, rfl, rfl⟩ := hrel
    have hc := tw_lt i k (by omega)
    have hs : tw (i + 1) k = tst (tw i k) := rfl
    have HS := Lib.hid hs
    clear hs
    by_cases hi4 : i < 4
    ·obtain ⟨c, hcc⟩ : ∃ c, tw i k = c := ⟨_, rfl⟩
     rw [hcc] at hc HS ⊢
     clear hcc
     have h1 : bits .and .u32 (c : Int) 1 = ((c % 2 : Nat) : Int) := by
      have := u32_and_nat c 1 hc (by omega)
      rw [nat_mask1] at this
      exact this
     have h2 : ((c % 2 : Nat) : Int) ≤ 1 := by omega
     have h2' : (0 : Int) ≤ ((c % 2 : Nat) : Int) := by omega
     have h3 : bits .xor .u32 ((c : Int) / 2) (3988292384 * ((c % 2 : Nat) : Int)) = (tst c : Int) := by
      have := u32_xor_nat (c / 2) (3988292384 * (c % 2)) (by omega) (by omega)
      unfold tst
      rw [← this]
      simp
     obtain ⟨d, hd⟩ : ∃ d, c % 2 = d := ⟨_, rfl⟩
     rw [hd] at h1 h2 h2' h3
     clear hd
     go_wp2
     go_round
     case rel => exact ⟨i + 1, by omega, by go_num, by rw [HS.out]⟩
     case measure => simp [intOf]; omega
    ·obtain rfl : i = 4 := by omega
     have hcell : wo.cell? ⟨w.heap.size + 1, k, none⟩ = some (.int .u32 0) := by
      simp only [World.cell?]; rw [HB.out]; exact tabA_get k hlt
     have hfr : wo.frozen? ⟨w.heap.size + 1, k, none⟩ = false := by
      simp only [World.frozen?]; rw [HB.out]; simp
     have hset := tabA_set k hlt
     obtain ⟨v, hv⟩ : ∃ v : Value, (Value.int .u32 (tw 4 k : Nat)) = v := ⟨_, rfl⟩
     obtain ⟨c, hcc⟩ : ∃ c, tw 4 k = c := ⟨_, rfl⟩
     rw [hcc] at hc hv hset ⊢
     clear hcc HS
     have HSet := Lib.hid hset
     clear hset hv
     go_wp2
     go_roundw
     case rel =>
      refine ⟨k + 1, by omega, by go_num, ?_, ?_, hg.setCell (.inr (by simp)) _⟩
      ·rw [heap_setCell_same _ _ _ _ _ _ HB.out, HSet.out]
      ·rw [heap_setCell_other _ _ _ _ (by simp)]
       exact HB0.out
     case measure => simp [intOf]; omega
  ·obtain rfl : k = 16 := by omega
   have HB := Lib.hid hb
   have HB0 := Lib.hid hb0
   clear hb hb0
   go_wp2_with (first
     | (refine wpList_load_row (o := ⟨some 24, _, _, _, _, _⟩) rfl 389 (.tmp 1) rfl (w.heap.size + 1) rfl 389 (tabA 16) (0, 0) _ HB.out Tryz.underlying389 rfl (by kernel_rfl) ?_)
     | (refine wpList_store_row (o := ⟨none, .store 389 (.tmp 0) (.tmp 24), _, _, _, _⟩) rfl 389 (.tmp 0) (.tmp 24) rfl w.heap.size (tabA 16) rfl rfl 389 (tabA 0) HB0.out (by kernel_rfl) rfl tabA_one ?_))
   refine bodyPost_ret (results_cell_row Tryz.results370 _ _ w.heap.size 389 (tabA 16) (0, 0) _ rfl (setRow_heap _ _ _ _ _ _ HB0.out) Tryz.underlying389 rfl (by kernel_rfl)) rfl ⟨rfl, hg.setRow (.inr (Nat.le_refl _)) _⟩
theorem ones_xor (x : Nat) (h : x < 4294967296) : 4294967295 ^^^ x = 4294967295 - x := by
 have h1 : (4294967295 : Nat) = 2 ^ 32 - 1 := rfl
 have e : BitVec.allOnes 32 ^^^ BitVec.ofNat 32 x = ~~~ (BitVec.ofNat 32 x) := BitVec.allOnes_xor
 have := congrArg BitVec.toNat e
 rw [BitVec.toNat_xor, BitVec.toNat_not, BitVec.toNat_ofNat, BitVec.toNat_allOnes, Nat.mod_eq_of_lt (by omega)] at this
 exact this
theorem Add_any (A : Option Addr) (l : List UInt8) (cap : Nat) (w : World) (hr : Rd w A l) (hl : l.length ≤ 9223372036854775807) :
  Calls Tryz.prog 346 #[.int .u32 0, .slice A l.length cap] w fun e w' => e = .returned (.int .u32 (crcSum l : Nat)) ∧ Chg Non w w' := by
 go_enter Tryz.func346, Tryz.ntmps346
 go_wp2_with (first
   | (go_at_call 370; refine (table_any _).mono ?_; rintro e w1 ⟨rfl, hg1⟩)
   | (refine wpList_store_row (o := ⟨none, .store 389 (.tmp 5) (.tmp 8), _, _, _, _⟩) rfl 389 (.tmp 5) (.tmp 8) rfl w1.heap.size (tabA 16) rfl rfl 389 (tabA 0) (heap_alloc_new _ _) (by kernel_rfl) rfl tabA_one ?_))
 obtain ⟨W, hW⟩ : ∃ W, (w1.alloc (.cells (tabA 0) 389)).setRow w1.heap.size (tabA 16) = W := ⟨_, rfl⟩
 have HB := Lib.hid (show W.heap[w1.heap.size]? = some (.cells (tabA 16) 389 (0, 0)) from by rw [← hW]; exact setRow_heap _ _ _ _ _ _ (heap_alloc_new _ _))
 have hg : Chg Non w W := by
  rw [← hW]
  exact (hg1.alloc _).setRow (.inr hg1.size) _
 have HR := Lib.hid (hr.non hg)
 rw [show (w1.alloc (.cells #[.int .u32 0, .int .u32 0, .int .u32 0, .int .u32 0, .int .u32 0, .int .u32 0, .int .u32 0, .int .u32 0, .int .u32 0, .int .u32 0, .int .u32 0, .int .u32 0, .int .u32 0, .int .u32 0, .int .u32 0, .int .u32 0] 389)).setRow w1.heap.size (tabA 16) = W from hW]
 clear hW hr hg1
 go_loop [0, 13] (fun c i => ∃ k : Nat, k ≤ l.length ∧ i = .int .i64 k ∧ c = .int .u32 (crcL 4294967295 (l.take k) : Nat)) (fun _ i => l.length - (intOf i).toNat)
 case atStart => exact ⟨0, by omega, rfl, rfl⟩
 case round =>
  obtain ⟨k, hk, rfl, rfl⟩ := hrel
  have hc := crcL_lt 4294967295 (l.take k) (by omega)
  by_cases hlt : k < l.length
  ·obtain ⟨b, o, rfl, hb, hcell⟩ := HR.out.at_ (by omega)
   have HC := Lib.hid hcell
   clear hcell
   have hcell := HC.out k hlt
   have hs := crcL_take_snoc 4294967295 l k hlt
   obtain ⟨c, hcc⟩ : ∃ c, crcL 4294967295 (l.take k) = c := ⟨_, rfl⟩
   rw [hcc] at hc hs ⊢
   clear hcc
   obtain ⟨x, hx⟩ : ∃ x, l[k]'hlt = x := ⟨_, rfl⟩
   rw [hx] at hcell hs
   clear hx
   have hx1 := crcX_lt c x hc
   have hx2 : bits .xor .u32 (c : Int) (x.toNat : Int) = ((c ^^^ x.toNat : Nat) : Int) := u32_xor_nat _ _ hc (by have := x.toNat_lt; omega)
   have hxl := x.toNat_lt
   have HS := Lib.hid hs
   clear hs
   have hd1 := half_lt _ hx1
   have HT : ∀ d : Nat, d < 4294967296 → W.cell? ⟨w1.heap.size, d % 16, none⟩ = some (.int .u32 (tw 4 (d % 16) : Nat)) := fun d hd => by
    simp only [World.cell?]; rw [HB.out]; exact tabA_full (d % 16) (by omega)
   have HH : ∀ d : Nat, d < 4294967296 → bits .xor .u32 ((d : Int) / 16) ((tw 4 (d % 16) : Nat) : Int) = ((half d : Nat) : Int) := fun d hd => by
    have := u32_xor_nat (d / 16) (tw 4 (d % 16)) (by omega) (tw_lt 4 _ (by omega))
    unfold half
    rw [← this]
    simp
   have t1 := HT _ hx1
   have t2 := HT _ hd1
   have a1 := HH _ hx1
   have a2 := HH _ hd1
   have hd2 := half_lt _ hd1
   have b1 := tw_lt 4 ((c ^^^ x.toNat) % 16) (by omega)
   have b2 := tw_lt 4 (half (c ^^^ x.toNat) % 16) (by omega)
   clear HT HH
   replace HS : Hid (crcL 4294967295 (l.take (k + 1)) = half (half (c ^^^ x.toNat))) := HS
   go_wp2
   refine wp_loop_rounds 3 ?_
   rw [rounds_succ]
   go_wp2
   rw [rounds_succ]
   go_wp2
   rw [rounds_succ]
   go_wp2
   go_round
   case rel => exact ⟨k + 1, by omega, by go_num, by rw [HS.out]⟩
   case measure => simp [intOf]; omega
  ·have e : l.take k = l := List.take_of_length_le (by omega)
   rw [e] at hc ⊢
   have hf : bits .xor .u32 IntKind.u32.max (crcL 4294967295 l : Nat) = (crcSum l : Nat) := by
    have := u32_xor_nat 4294967295 (crcL 4294967295 l) (by omega) hc
    have e2 : (IntKind.u32.max : Int) = ((4294967295 : Nat) : Int) := rfl
    rw [e2, this, crcSum]
    congr 1
    exact ones_xor _ hc
   go_wp2
   go_ret
   exact ⟨rfl, hg⟩
theorem Sum_any (A : Option Addr) (l : List UInt8) (cap : Nat) (w : World) (hr : Rd w A l) (hl : l.length ≤ 9223372036854775807) :
  Calls Tryz.prog 319 #[.slice A l.length cap] w fun e w' => e = .returned (.int .u32 (crcSum l : Nat)) ∧ Chg Non w w' := by
 go_enter Tryz.func319, Tryz.ntmps319
 go_wp2_with (go_at_call 346; refine (Add_any _ _ _ _ hr hl).mono ?_; rintro e w1 ⟨rfl, hg1⟩)
 go_ret
 exact ⟨rfl, hg1⟩
end
section
open Go.RowKit
def crcPut (l : List UInt8) : List UInt8 := l ++ be (crcSum l) 4
theorem crcPut_any (A : Option Addr) (l : List UInt8) (cap : Nat) (w : World) (hr : Rd w A l) (hl : l.length ≤ 1000000) :
  Calls Tryz.prog 252 #[.slice A l.length cap] w (RetB w (crcPut l)) := by
 go_enter Tryz.func252, Tryz.ntmps252
 go_wp2_with fail
 refine (Sum_any A l cap w hr (by omega)).mono ?_
 rintro e w1 ⟨rfl, hg1⟩
 go_wp2_with fail
 refine (Put32 _ _ (crcSum_lt l)).mono ?_
 rintro e w2 ⟨A2, c2, rfl, hc2, hm2, ho2, hg2⟩
 go_wp2_with fail
 have h1 := (hr.non hg1).non hg2
 refine (Cat2 A A2 l (be (crcSum l) 4) cap c2 _ w2 _ rfl h1 ho2.rd (by rw [be_length]; omega) (crcPut l) rfl).mono ?_
 rintro e w3 ⟨A3, c3, rfl, hr3⟩
 go_wp2
 go_ret
 exact RetB.from ⟨A3, c3, rfl, hr3⟩ (hg1.then_non hg2)
def crcOk (b : List UInt8) : Bool := decide (4 ≤ b.length ∧ crcPut (b.take (b.length - 4)) = b)
theorem Check_any (A : Option Addr) (l : List UInt8) (cap : Nat) (w : World) (hr : Rd w A l) (h4 : 4 ≤ l.length) (hl : l.length ≤ 1000000) (hcap : l.length ≤ cap) (hm : cap ≤ maxLen) :
  Calls Tryz.prog 349 #[.slice A l.length cap] w fun e w' => (∃ v, e = .returned (.tuple #[v, .bool (crcOk l)])) ∧ Chg Non w w' := by
 unfold maxLen at hm
 have hlt : (l.take (l.length - 4)).length = l.length - 4 := by rw [List.length_take]; omega
 have hp := crcPut_any A (l.take (l.length - 4)) cap
 have hcut := fun W h => Cat1 A (l.take (l.length - 4)) cap 32 W _ rfl h (by omega)
 rw [hlt] at hp hcut
 have HP := Lib.hid hp
 have HK := Lib.hid hcut
 clear hp hcut
 have hok : crcOk l = decide (crcPut (l.take (l.length - 4)) = l) := by
  unfold crcOk
  simp [h4]
 have HOK := Lib.hid hok
 clear hok hlt
 by_cases he : crcPut (l.take (l.length - 4)) = l
 ·have hd : decide (crcPut (l.take (l.length - 4)) = l) = true := by simpa using he
  have HE := Lib.hid he
  clear he
  go_enter Tryz.func349, Tryz.ntmps349
  go_wp2_with fail
  refine (HP.out w (hr.take (l.length - 4)) (by omega)).mono ?_
  rintro e w2 ⟨A2, c2, rfl, hc2, hm2, ho2, hg2⟩
  go_wp2_with fail
  refine (Same_any A2 A (crcPut (l.take (l.length - 4))) l c2 cap w2 ho2.rd (hr.non hg2)).mono ?_
  rintro e w3 ⟨rfl, rfl⟩
  go_wp2_with fail
  refine (HK.out w2 ((hr.take (l.length - 4)).non hg2)).mono ?_
  rintro e w4 ⟨A4, c4, rfl, hc4, hm4, ho4, hg4⟩
  go_wp2
  go_ret2
  exact ⟨⟨_, by rw [HOK.out, hd]; rfl⟩, hg2.then_non hg4⟩
 ·have hd : decide (crcPut (l.take (l.length - 4)) = l) = false := by simpa using he
  have HE := Lib.hid he
  clear he
  go_enter Tryz.func349, Tryz.ntmps349
  go_wp2_with fail
  refine (HP.out w (hr.take (l.length - 4)) (by omega)).mono ?_
  rintro e w2 ⟨A2, c2, rfl, hc2, hm2, ho2, hg2⟩
  go_wp2_with fail
  refine (Same_any A2 A (crcPut (l.take (l.length - 4))) l c2 cap w2 ho2.rd (hr.non hg2)).mono ?_
  rintro e w3 ⟨rfl, rfl⟩
  go_wp2
  go_ret2
  exact ⟨⟨_, by rw [HOK.out, hd]; rfl⟩, hg2⟩
end
section
open Go.RowKit
def sizeL (s : List UInt8) : Nat := (s.getD 1 0).toNat
def wholeL (s : List UInt8) : Bool :=
 decide (s.length = 64) && (crcOk s && (decide (sizeL s ≤ 58) && decide ((s.drop (2 + sizeL s)).take (60 - (2 + sizeL s)) = List.replicate (60 - (2 + sizeL s)) 0)))
def RetB2 (w : World) (l : List UInt8) (v : Value) (e : Ending) (w' : World) : Prop :=
 ∃ A c, e = .returned (.tuple #[.slice A l.length c, v]) ∧ l.length ≤ c ∧ c ≤ maxLen ∧ Own w.heap.size w' A l ∧ Chg Non w w'
theorem zeros_own (w : World) (n : Nat) (t : TypeId) : Own w.heap.size (w.alloc (.cells (Array.replicate n (.int .u8 0)) t)) (some ⟨w.heap.size, 0, none⟩) (List.replicate n 0) :=
 own_new _ _ _ _ (by simp [bv])
theorem size_any (A : Option Addr) (l : List UInt8) (cap : Nat) (w : World) (hr : Rd w A l) (hl : 2 ≤ l.length) (hm : l.length ≤ 64) :
  Calls Tryz.prog 254 #[.slice A l.length cap] w fun e w' => e = .returned (.int .i64 (sizeL l : Nat)) ∧ w = w' := by
 obtain ⟨b, o, rfl, hb, hc⟩ := hr.at_ (by omega)
 have h1 := hc 1 (by omega)
 have hs : (l[1]'(by omega)).toNat = sizeL l := by simp [sizeL, List.getD, List.getElem?_eq_getElem (show 1 < l.length by omega)]
 rw [hs] at h1
 have hlt : sizeL l < 256 := by rw [← hs]; exact UInt8.toNat_lt _
 clear hc hs
 go_enter Tryz.func254, Tryz.ntmps254
 go_wp2
 go_ret
 exact ⟨rfl, rfl⟩
theorem whole1 (p : Nat) (A : Option Addr) (l : List UInt8) (cap : Nat) (w : World) (hp : w.cell? ⟨p, 0, none⟩ = some (.slice A l.length cap)) :
  Calls Tryz.prog 347 #[.pointer (some ⟨p, 0, none⟩)] w fun e w' => e = .returned (.bool (decide (l.length = 64))) ∧ w = w' := by
 by_cases h : l.length = 64
 ·have hd : ((l.length : Int) == 64) = true := by simp; omega
  rw [decide_eq_true h]
  clear h
  go_enter Tryz.func347, Tryz.ntmps347
  go_wp2
  go_ret
  exact ⟨rfl, rfl⟩
 ·have hd : ((l.length : Int) == 64) = false := by simp; omega
  rw [decide_eq_false h]
  clear h
  go_enter Tryz.func347, Tryz.ntmps347
  go_wp2
  go_ret
  exact ⟨rfl, rfl⟩
theorem whole2 (p : Nat) (A : Option Addr) (l : List UInt8) (cap : Nat) (w : World) (hp : w.cell? ⟨p, 0, none⟩ = some (.slice A l.length cap)) (hr : Rd w A l) (h64 : 64 ≤ l.length) (hl : l.length ≤ 64)
  (hcap : l.length ≤ cap) (hm : cap ≤ maxLen) :
  Calls Tryz.prog 348 #[.pointer (some ⟨p, 0, none⟩)] w fun e w' => e = .returned (.bool (crcOk l)) ∧ Chg Non w w' := by
 go_enter Tryz.func348, Tryz.ntmps348
 go_wp2_with fail
 refine (Check_any A l cap w hr (by omega) (by omega) hcap hm).mono ?_
 rintro e w1 ⟨⟨v, rfl⟩, hg⟩
 go_wp2
 go_ret
 exact ⟨rfl, hg⟩
theorem whole3 (p : Nat) (A : Option Addr) (l : List UInt8) (cap : Nat) (w : World) (hp : w.cell? ⟨p, 0, none⟩ = some (.slice A l.length cap)) (hr : Rd w A l) (h64 : 64 ≤ l.length) (hl : l.length ≤ 64) :
  Calls Tryz.prog 350 #[.pointer (some ⟨p, 0, none⟩)] w fun e w' => e = .returned (.bool (decide (sizeL l ≤ 58))) ∧ w = w' := by
 have e : decide (sizeL l ≤ 58) = decide ((sizeL l : Int) ≤ 58) := by simp; omega
 rw [e]
 clear e
 go_enter Tryz.func350, Tryz.ntmps350
 go_wp2_with fail
 refine (size_any A l cap w hr (by omega) hl).mono ?_
 rintro e w1 ⟨rfl, rfl⟩
 go_wp2
 go_ret
 exact ⟨rfl, rfl⟩
theorem whole4 (p : Nat) (A : Option Addr) (l : List UInt8) (cap : Nat) (w : World) (hp : w.cell? ⟨p, 0, none⟩ = some (.slice A l.length cap)) (hr : Rd w A l) (h64 : 64 ≤ l.length) (hl : l.length ≤ 64)
  (hcap : l.length ≤ cap) (hm : cap ≤ maxLen) (h58 : sizeL l ≤ 58) :
  Calls Tryz.prog 351 #[.pointer (some ⟨p, 0, none⟩)] w fun e w' => e = .returned (.bool (decide ((l.drop (2 + sizeL l)).take (60 - (2 + sizeL l)) = List.replicate (60 - (2 + sizeL l)) 0))) ∧ Chg Non w w' := by
 have hs := fun W h => size_any A l cap W h (by omega) hl
 obtain ⟨z, hz⟩ : ∃ z, sizeL l = z := ⟨_, rfl⟩
 rw [hz] at hs h58 ⊢
 unfold maxLen at hm
 clear hz
 obtain ⟨b, o, rfl, hb, hcell⟩ := hr.at_ (by omega)
 clear hcell
 have i1 : IntKind.i64.wrap (2 + (z : Int)) = 2 + (z : Int) := IntWalk.i64_in _ (by omega)
 have i2 : (0 : Int) ≤ 2 + (z : Int) := by omega
 have i3 : (2 + (z : Int)).toNat = 2 + z := by omega
 have hmk := fun W => mk_bytes ((60 - (2 + z) : Nat) : Int) (by omega) (by omega) W
 simp only [Int.toNat_natCast] at hmk
 have hS := fun B d W h k => Same_any (some ⟨b, o + (2 + z), none⟩) B ((l.drop (2 + z)).take (60 - (2 + z))) (List.replicate (60 - (2 + z)) 0) (cap - (2 + z)) d W h k
 have hl1 : ((l.drop (2 + z)).take (60 - (2 + z))).length = 60 - (2 + z) := by rw [List.length_take, List.length_drop]; omega
 rw [hl1, List.length_replicate] at hS
 clear hl1
 go_enter Tryz.func351, Tryz.ntmps351
 go_wp2_with fail
 go_quiet ((go_at_call 254; exact quiet_left (hs _ hr)))
 go_wp2_with fail
 refine (hS _ _ _ (by exact (((hr.drop (2 + z)).take (60 - (2 + z))).drewN nq).non ((Chg.refl _ _).alloc _)) (by exact (zeros_own (w.drewN nq) (60 - (2 + z)) 5).rd)).mono ?_
 rintro e w2 ⟨rfl, rfl⟩
 go_wp2
 go_ret
 exact ⟨rfl, ((Chg.refl _ _).drewN nq).alloc _⟩
theorem whole_any (A : Option Addr) (l : List UInt8) (cap : Nat) (w : World) (hr : Rd w A l) (h64 : 64 ≤ l.length) (hl : l.length ≤ 64) (hcap : l.length ≤ cap) (hm : cap ≤ maxLen) :
  Calls Tryz.prog 320 #[.slice A l.length cap] w fun e w' => e = .returned (.bool (wholeL l)) ∧ Chg Non w w' := by
 have x0 : ∀ (f1 f2 f3 f4 : Value) (W : World), (Instr.index 375 (.agg #[f1, f2, f3, f4]) (.int .i64 0)).run Tryz.prog W = .ok f1 W := fun _ _ _ _ _ => by kernel_rfl
 have x1 : ∀ (f1 f2 f3 f4 : Value) (W : World), (Instr.index 375 (.agg #[f1, f2, f3, f4]) (.int .i64 1)).run Tryz.prog W = .ok f2 W := fun _ _ _ _ _ => by kernel_rfl
 have x2 : ∀ (f1 f2 f3 f4 : Value) (W : World), (Instr.index 375 (.agg #[f1, f2, f3, f4]) (.int .i64 2)).run Tryz.prog W = .ok f3 W := fun _ _ _ _ _ => by kernel_rfl
 have x3 : ∀ (f1 f2 f3 f4 : Value) (W : World), (Instr.index 375 (.agg #[f1, f2, f3, f4]) (.int .i64 3)).run Tryz.prog W = .ok f4 W := fun _ _ _ _ _ => by kernel_rfl
 have hp0 : ∀ o, ((w.alloc (.cells #[.slice A l.length cap] 32)).alloc o).cell? ⟨w.heap.size, 0, none⟩ = some (.slice A l.length cap) := fun o => by
  simp only [World.cell?]; rw [heap_alloc2_old]; rfl
 have HP := Lib.hid hp0
 clear hp0
 have hW : wholeL l = (crcOk l && (decide (sizeL l ≤ 58) && decide ((l.drop (2 + sizeL l)).take (60 - (2 + sizeL l)) = List.replicate (60 - (2 + sizeL l)) 0))) := by
  unfold wholeL
  rw [decide_eq_true (show l.length = 64 by omega)]
  rfl
 have HW := Lib.hid hW
 clear hW
 have h64d : decide (l.length = 64) = true := decide_eq_true (by omega)
 have H64 := Lib.hid h64d
 clear h64d
 have w1 := fun W h => whole1 w.heap.size A l cap W h
 rw [H64.out] at w1
 have w2 := fun W h k => whole2 w.heap.size A l cap W h k h64 hl hcap hm
 have w3 := fun W h k => whole3 w.heap.size A l cap W h k h64 hl
 have w4 := fun W h k z => whole4 w.heap.size A l cap W h k h64 hl hcap hm z
 have hsz : ∀ o, ((w.alloc (.cells #[.slice A l.length cap] 32)).alloc o).heap.size = w.heap.size + 1 + 1 := fun o => by simp
 have HSz := Lib.hid hsz
 clear hsz
 obtain ⟨zb, hz⟩ : ∃ zb, decide ((l.drop (2 + sizeL l)).take (60 - (2 + sizeL l)) = List.replicate (60 - (2 + sizeL l)) 0) = zb := ⟨_, rfl⟩
 rw [hz] at w4 HW
 clear hz
 have hs3 : decide (sizeL l ≤ 58) = true ∨ decide (sizeL l ≤ 58) = false := by cases decide (sizeL l ≤ 58) <;> simp
 have hs4 : decide (sizeL l ≤ 58) = true → sizeL l ≤ 58 := fun h => of_decide_eq_true h
 obtain ⟨sb, hs⟩ : ∃ sb, decide (sizeL l ≤ 58) = sb := ⟨_, rfl⟩
 rw [hs] at w3 HW hs3 hs4
 clear hs
 obtain ⟨cb, hc⟩ : ∃ cb, crcOk l = cb := ⟨_, rfl⟩
 rw [hc] at w2 HW
 clear hc
 rw [HW.out]
 have W1 := Lib.hid w1
 have W2 := Lib.hid w2
 have W3 := Lib.hid w3
 have W4 := Lib.hid w4
 clear w1 w2 w3 w4
 cases cb with
 | false =>
  go_enter Tryz.func320, Tryz.ntmps320
  go_wp2_with fail
  refine wp_loop_rounds 5 ?_
  rw [rounds_succ]
  go_wp2_with fail
  refine (W1.out _ (HP.out _)).mono ?_
  rintro e w' ⟨rfl, rfl⟩
  go_wp2
  rw [rounds_succ]
  go_wp2_with fail
  refine (W2.out _ (HP.out _) (hr.non (((Chg.refl _ _).alloc _).alloc _))).mono ?_
  rintro e w' ⟨rfl, hg⟩
  go_wp2
  go_ret
  exact ⟨rfl, (((Chg.refl _ _).alloc _).alloc _).then_non hg⟩
 | true =>
  rcases hs3 with rfl | rfl
  ·have hz58 := hs4 rfl
   clear hs4
   cases zb with
   | true =>
    go_enter Tryz.func320, Tryz.ntmps320
    go_wp2_with fail
    refine wp_loop_rounds 5 ?_
    rw [rounds_succ]
    go_wp2_with fail
    refine (W1.out _ (HP.out _)).mono ?_
    rintro e w' ⟨rfl, rfl⟩
    go_wp2
    rw [rounds_succ]
    go_wp2_with fail
    refine (W2.out _ (HP.out _) (hr.non (((Chg.refl _ _).alloc _).alloc _))).mono ?_
    rintro e w' ⟨rfl, hg⟩
    have hgw := (((Chg.refl Non w).alloc (.cells #[.slice A l.length cap] 32)).alloc _).then_non hg
    have hcw := hg.cell_some (HP.out _) (fun e => e)
    clear hg
    go_wp2
    rw [rounds_succ]
    go_wp2_with fail
    refine (W3.out _ hcw (hr.non hgw)).mono ?_
    rintro e w'' ⟨rfl, rfl⟩
    go_wp2
    rw [rounds_succ]
    go_wp2_with fail
    refine (W4.out _ hcw (hr.non hgw) hz58).mono ?_
    rintro e w2 ⟨rfl, hg2⟩
    go_wp2
    rw [rounds_succ]
    go_wp2
    go_ret
    exact ⟨rfl, hgw.then_non hg2⟩
   | false =>
    go_enter Tryz.func320, Tryz.ntmps320
    go_wp2_with fail
    refine wp_loop_rounds 5 ?_
    rw [rounds_succ]
    go_wp2_with fail
    refine (W1.out _ (HP.out _)).mono ?_
    rintro e w' ⟨rfl, rfl⟩
    go_wp2
    rw [rounds_succ]
    go_wp2_with fail
    refine (W2.out _ (HP.out _) (hr.non (((Chg.refl _ _).alloc _).alloc _))).mono ?_
    rintro e w' ⟨rfl, hg⟩
    have hgw := (((Chg.refl Non w).alloc (.cells #[.slice A l.length cap] 32)).alloc _).then_non hg
    have hcw := hg.cell_some (HP.out _) (fun e => e)
    clear hg
    go_wp2
    rw [rounds_succ]
    go_wp2_with fail
    refine (W3.out _ hcw (hr.non hgw)).mono ?_
    rintro e w'' ⟨rfl, rfl⟩
    go_wp2
    rw [rounds_succ]
    go_wp2_with fail
    refine (W4.out _ hcw (hr.non hgw) hz58).mono ?_
    rintro e w2 ⟨rfl, hg2⟩
    go_wp2
    go_ret
    exact ⟨rfl, hgw.then_non hg2⟩
  ·clear hs4
   go_enter Tryz.func320, Tryz.ntmps320
   go_wp2_with fail
   refine wp_loop_rounds 5 ?_
   rw [rounds_succ]
   go_wp2_with fail
   refine (W1.out _ (HP.out _)).mono ?_
   rintro e w' ⟨rfl, rfl⟩
   go_wp2
   rw [rounds_succ]
   go_wp2_with fail
   refine (W2.out _ (HP.out _) (hr.non (((Chg.refl _ _).alloc _).alloc _))).mono ?_
   rintro e w' ⟨rfl, hg⟩
   have hgw := (((Chg.refl Non w).alloc (.cells #[.slice A l.length cap] 32)).alloc _).then_non hg
   have hcw := hg.cell_some (HP.out _) (fun e => e)
   clear hg
   go_wp2
   rw [rounds_succ]
   go_wp2_with fail
   refine (W3.out _ hcw (hr.non hgw)).mono ?_
   rintro e w'' ⟨rfl, rfl⟩
   go_wp2
   go_ret
   exact ⟨rfl, hgw⟩
end
section
open Go.RowKit
def openL (kind : UInt8) (s : List UInt8) : Option (List UInt8) := if wholeL s = true ∧ s.getD 0 0 = kind then some ((s.drop 2).take (sizeL s)) else none
theorem wholeL_size {s : List UInt8} (h : wholeL s = true) : sizeL s ≤ 58 := by
 unfold wholeL at h
 simp only [Bool.and_eq_true, decide_eq_true_eq] at h
 exact h.2.2.1
theorem Kind_any (A : Option Addr) (l : List UInt8) (cap : Nat) (w : World) (hr : Rd w A l) (h64 : 64 ≤ l.length) (hl : l.length ≤ 64) (hcap : l.length ≤ cap) (hm : cap ≤ maxLen) :
  Calls Tryz.prog 253 #[.slice A l.length cap] w fun e w' => e = .returned (.tuple #[.int .u8 (if wholeL l then ((l.getD 0 0).toNat : Int) else 0), .bool (wholeL l)]) ∧ Chg Non w w' := by
 have hw := fun W h => whole_any A l cap W h h64 hl hcap hm
 have HW := Lib.hid hw
 clear hw
 obtain ⟨b, o, rfl, hb, hc⟩ := hr.at_ (by omega)
 have h0 := hc 0 (by omega)
 have hs : (l[0]'(by omega)).toNat = (l.getD 0 0).toNat := by simp [List.getD, List.getElem?_eq_getElem (show 0 < l.length by omega)]
 rw [hs, Nat.add_zero] at h0
 obtain ⟨x, hx⟩ : ∃ x, (l.getD 0 0) = x := ⟨_, rfl⟩
 rw [hx] at h0 ⊢
 clear hc hs hx
 obtain ⟨z, hz⟩ : ∃ z, wholeL l = z := ⟨_, rfl⟩
 rw [hz] at HW ⊢
 clear hz
 cases z with
 | false =>
  go_enter Tryz.func253, Tryz.ntmps253
  go_wp2_with fail
  refine (HW.out w hr).mono ?_
  rintro e w1 ⟨rfl, hg⟩
  go_wp2
  go_ret2
  exact ⟨rfl, hg⟩
 | true =>
  go_enter Tryz.func253, Tryz.ntmps253
  go_wp2_with fail
  refine (HW.out w hr).mono ?_
  rintro e w1 ⟨rfl, hg⟩
  have h1 := hg.cell_some h0 (fun e => e)
  go_wp2
  go_ret2
  exact ⟨rfl, hg⟩
theorem Open_some (kind : UInt8) (A : Option Addr) (l m : List UInt8) (cap : Nat) (w : World) (hr : Rd w A l) (h64 : 64 ≤ l.length) (hl : l.length ≤ 64) (hcap : l.length ≤ cap) (hm : cap ≤ maxLen) (ho : openL kind l = some m) :
  Calls Tryz.prog 189 #[.int .u8 (kind.toNat : Int), .slice A l.length cap] w (RetB2 w m (.int .i64 0)) := by
 have hk := fun W h => Kind_any A l cap W h h64 hl hcap hm
 unfold openL at ho
 by_cases hq : wholeL l = true ∧ l.getD 0 0 = kind
 ·rw [if_pos hq] at ho
  obtain ⟨hq1, hq2⟩ := hq
  injection ho with ho
  have h58 := wholeL_size hq1
  simp only [hq1, if_true, hq2] at hk
  have HK := Lib.hid hk
  have hsz := fun W h => size_any A l cap W h (by omega) hl
  have hml : m.length = sizeL l := by rw [← ho, List.length_take, List.length_drop]; omega
  obtain ⟨z, hz⟩ : ∃ z, sizeL l = z := ⟨_, rfl⟩
  rw [hz] at hsz h58 ho hml
  have HZ := Lib.hid hsz
  clear hk hsz hz hq1 hq2
  subst hml
  have HO := Lib.hid ho
  clear ho
  obtain ⟨b, o, rfl, hb, hc⟩ := hr.at_ (by omega)
  clear hc
  unfold maxLen at hm
  have hr2 : Rd w (some ⟨b, o + 2, none⟩) m := by
   have := (hr.drop 2).take m.length
   rw [HO.out] at this
   exact this
  have h58' : (m.length : Int) ≤ 58 := by omega
  have hkk := kind.toNat_lt
  have hkx : (((kind.toNat : Int)) != (kind.toNat : Int)) = false := by simp
  go_enter Tryz.func189, Tryz.ntmps189
  go_wp2_with fail
  refine (HK.out w hr).mono ?_
  rintro e w1 ⟨rfl, hg⟩
  go_wp2_with fail
  refine (HZ.out w1 (hr.non hg)).mono ?_
  rintro e w2 ⟨rfl, rfl⟩
  go_wp2_with fail
  refine (Cat1 (some ⟨b, o + 2, none⟩) m (cap - 2) _ w1 _ rfl (hr2.non hg) (by omega)).mono ?_
  rintro e w3 ⟨A3, c3, rfl, hc3, hm3, ho3, hg3⟩
  go_wp2
  go_ret2
  exact ⟨A3, c3, rfl, hc3, hm3, ho3.mono hg.size, hg.then_non hg3⟩
 ·rw [if_neg hq] at ho
  cases ho
theorem Open_none (kind : UInt8) (A : Option Addr) (l : List UInt8) (cap : Nat) (w : World) (hr : Rd w A l) (h64 : 64 ≤ l.length) (hl : l.length ≤ 64) (hcap : l.length ≤ cap) (hm : cap ≤ maxLen) (ho : openL kind l = none) :
  Calls Tryz.prog 189 #[.int .u8 (kind.toNat : Int), .slice A l.length cap] w fun e w' => e = .returned (.tuple #[.slice none 0 0, .int .i64 70]) ∧ Chg Non w w' := by
 have hk := fun W h => Kind_any A l cap W h h64 hl hcap hm
 unfold openL at ho
 cases hz : wholeL l with
 | false =>
  rw [hz] at hk
  have HK := Lib.hid hk
  clear hk hz ho
  go_enter Tryz.func189, Tryz.ntmps189
  go_wp2_with fail
  refine (HK.out w hr).mono ?_
  rintro e w1 ⟨rfl, hg⟩
  go_wp2
  go_ret2
  exact ⟨rfl, hg⟩
 | true =>
  rw [hz] at hk ho
  have hne : l.getD 0 0 ≠ kind := by
   intro h
   simp only [h, and_self, if_true] at ho
   cases ho
  obtain ⟨x, hx⟩ : ∃ x, l.getD 0 0 = x := ⟨_, rfl⟩
  rw [hx] at hk hne
  have hd : ((x.toNat : Int) != (kind.toNat : Int)) = true := by
   rw [bne_iff_ne]
   intro h
   exact hne (UInt8.toNat_inj.1 (by omega))
  simp only [if_true] at hk
  have HK := Lib.hid hk
  clear hk hz ho hx hne
  go_enter Tryz.func189, Tryz.ntmps189
  go_wp2_with fail
  refine (HK.out w hr).mono ?_
  rintro e w1 ⟨rfl, hg⟩
  go_wp2
  go_ret2
  exact ⟨rfl, hg⟩
end
section
open Go.RowKit
def IsR (w : World) (p : Nat) (l : List UInt8) (er : Int) : Prop :=
 ∃ A c, w.heap[p]? = some (.cells #[.slice A l.length c, .bool true, .int .i64 er] 302 (0, 0)) ∧ Rd w A l ∧ l.length ≤ c ∧ c ≤ maxLen
def At (p : Nat) : Nat → Prop := fun k => k = p
theorem rd_ne {w : World} {p : Nat} {A : Option Addr} {l : List UInt8} {v : Value} {er : Int} {t : TypeId} {fr : Nat × Nat} (hb : w.heap[p]? = some (.cells #[v, .bool true, .int .i64 er] t fr)) (hv : ∀ x : UInt8, v ≠ .int .u8 (x.toNat : Int)) (h : Rd w A l) :
  ∀ b o, A = some ⟨b, o, none⟩ → l ≠ [] → ¬ At p b := by
 rintro b o rfl hne rfl
 obtain ⟨x, r, rfl⟩ := List.exists_cons_of_ne_nil hne
 obtain ⟨b', o', e, hc⟩ := h 0 x rfl
 injection e with e
 injection e with e1 e2
 subst e1 e2
 rw [cell_of_row _ _ _ _ _ _ hb] at hc
 have hn := hv x
 match h' : o + 0, hc with
 | 0, hc => simp at hc; exact hn hc
 | 1, hc => simp at hc
 | 2, hc => simp at hc
 | n + 3, hc => simp at hc
theorem rwhole_any (p : Nat) (l : List UInt8) (er : Int) (w : World) (hR : IsR w p l er) :
  Calls Tryz.prog 274 #[.pointer (some ⟨p, 0, none⟩)] w fun e w' => e = .returned (.bool (er == 0)) ∧ w = w' := by
 obtain ⟨A, c, hb, hr, hc⟩ := hR
 have h1 : w.cell? ⟨p, 1, none⟩ = some (.bool true) := by rw [cell_of_row _ _ _ _ _ _ hb]; rfl
 have h2 : w.cell? ⟨p, 2, none⟩ = some (.int .i64 er) := by rw [cell_of_row _ _ _ _ _ _ hb]; rfl
 clear hb
 go_enter Tryz.func274, Tryz.ntmps274
 go_wp2
 go_ret
 exact ⟨rfl, rfl⟩
theorem breaks_ok (p : Nat) (l : List UInt8) (w : World) (hR : IsR w p l 0) :
  Calls Tryz.prog 322 #[.pointer (some ⟨p, 0, none⟩)] w fun e w' => e = .returned (.tuple #[]) ∧ IsR w' p [] 50 ∧ Chg (At p) w w' := by
 have hw := rwhole_any p l 0 w hR
 obtain ⟨A, c, hb, hr, hc⟩ := hR
 have h0 : w.cell? ⟨p, 0, none⟩ = some (.slice A l.length c) := by rw [cell_of_row _ _ _ _ _ _ hb]; rfl
 have h2 : w.cell? ⟨p, 2, none⟩ = some (.int .i64 0) := by rw [cell_of_row _ _ _ _ _ _ hb]; rfl
 have f0 : w.frozen? ⟨p, 0, none⟩ = false := frozen_of_row _ _ _ _ _ hb
 have f2 : w.frozen? ⟨p, 2, none⟩ = false := frozen_of_row _ _ _ _ _ hb
 have HB := Lib.hid hb
 have HW := Lib.hid hw
 clear hb hw
 go_enter Tryz.func322, Tryz.ntmps322
 go_wp2_with fail
 refine HW.out.mono ?_
 rintro e w' ⟨rfl, rfl⟩
 go_wp2
 go_end0
 refine ⟨rfl, ⟨none, 0, ?_, Rd.nil _ _, by simp, by simp⟩, ((Chg.refl (At p) _).setCell (p := ⟨p, 0, none⟩) (.inl rfl) _).setCell (p := ⟨p, 2, none⟩) (.inl rfl) _⟩
 rw [heap_setCell_same _ _ _ _ _ _ (heap_setCell_same _ _ _ _ _ _ HB.out)]
 rfl
theorem breaks_no (p : Nat) (l : List UInt8) (er : Int) (w : World) (hR : IsR w p l er) (he : er ≠ 0) :
  Calls Tryz.prog 322 #[.pointer (some ⟨p, 0, none⟩)] w fun e w' => e = .returned (.tuple #[]) ∧ w = w' := by
 have hw := rwhole_any p l er w hR
 rw [show (er == 0) = false by simpa using he] at hw
 have HW := Lib.hid hw
 clear hw
 go_enter Tryz.func322, Tryz.ntmps322
 go_wp2_with fail
 refine HW.out.mono ?_
 rintro e w' ⟨rfl, rfl⟩
 go_wp2
 go_end0
 exact ⟨rfl, rfl⟩
theorem take_ne {l : List UInt8} {n : Nat} (h : l.take n ≠ []) : l ≠ [] := by rintro rfl; simp at h
theorem take_close {w : World} {p n c : Nat} {A : Option Addr} {l : List UInt8} (hb : w.heap[p]? = some (.cells #[.slice A l.length c, .bool true, .int .i64 0] 302 (0, 0))) (hr : Rd w A l) (hn : n ≤ l.length)
  (hc : l.length ≤ c) (hm : c ≤ maxLen) (X : Option Addr) (hX : l.drop n ≠ [] → X = A.map (·.add n)) (d : Nat) (hd1 : l.length - n ≤ d) (hd2 : d ≤ maxLen) :
  IsR (w.setCell ⟨p, 0, none⟩ (.slice X (l.length - n) d)) p (l.drop n) 0 ∧ Chg (At p) w (w.setCell ⟨p, 0, none⟩ (.slice X (l.length - n) d)) := by
 have hne := rd_ne hb (fun x => by simp) hr
 have hg : Chg (At p) w (w.setCell ⟨p, 0, none⟩ (.slice X (l.length - n) d)) := (Chg.refl (At p) _).setCell (p := ⟨p, 0, none⟩) (.inl rfl) _
 have hrd : Rd w X (l.drop n) := by
  by_cases h : l.drop n = []
  ·rw [h]; exact Rd.nil _ _
  ·rw [hX h]
   have h0 : 0 < l.length := by
    rcases Nat.eq_zero_or_pos l.length with h0 | h0
    ·exact absurd (List.drop_of_length_le (by omega)) h
    ·exact h0
   obtain ⟨b, o, rfl, _, _⟩ := hr.at_ h0
   simp only [Option.map_some, add_plain]
   exact hr.drop n
 refine ⟨⟨X, d, ?_, hrd.keep hg ?_, by rw [List.length_drop]; exact hd1, hd2⟩, hg⟩
 ·rw [heap_setCell_same _ _ _ _ _ _ hb, List.length_drop]; rfl
 ·intro b o e h
  rw [hX h] at e
  obtain ⟨a, ha, e'⟩ := Option.map_eq_some_iff.1 e
  have h0 : l ≠ [] := by rintro rfl; simp at h
  obtain ⟨b', o', rfl, _, _⟩ := hr.at_ (List.length_pos_iff.2 h0)
  injection ha with ha
  subst ha
  rw [add_plain] at e'
  injection e' with e1 e2
  subst e1
  exact hne _ _ rfl h0
theorem take_ok (p n : Nat) (l : List UInt8) (w : World) (hR : IsR w p l 0) (hn : n ≤ l.length) :
  Calls Tryz.prog 321 #[.pointer (some ⟨p, 0, none⟩), .int .i64 n] w fun e w' => ∃ A, e = .returned (.tuple #[.slice A n n, .bool true]) ∧ Rd w' A (l.take n) ∧ IsR w' p (l.drop n) 0 ∧ Chg (At p) w w' := by
 have hw := rwhole_any p l 0 w hR
 obtain ⟨A, c, hb, hr, hc, hm⟩ := hR
 have h0 : w.cell? ⟨p, 0, none⟩ = some (.slice A l.length c) := by rw [cell_of_row _ _ _ _ _ _ hb]; rfl
 have f0 : w.frozen? ⟨p, 0, none⟩ = false := frozen_of_row _ _ _ _ _ hb
 have hne := rd_ne hb (fun x => by simp) hr
 have HB := Lib.hid hb
 have HW := Lib.hid hw
 clear hb hw
 unfold maxLen at hm
 have hd : decide ((n : Int) > l.length) = false := by simp; omega
 go_enter Tryz.func321, Tryz.ntmps321
 go_wp2_with fail
 refine HW.out.mono ?_
 rintro e w' ⟨rfl, rfl⟩
 by_cases hnl : n < l.length
 ·have hcn : ¬ c = n := by omega
  go_wp2
  go_ret2
  have hcl := take_close HB.out hr hn hc (by unfold maxLen; omega) (A.map (·.add n)) (fun _ => rfl) (c - n) (by omega) (by unfold maxLen; omega)
  exact ⟨A, rfl, (hr.take n).keep hcl.2 (fun b o e h => hne b o e (take_ne h)), hcl⟩
 ·have hcl := fun X d h1 h2 => take_close HB.out hr hn hc (by unfold maxLen; omega) X (fun h => absurd (List.drop_of_length_le (by omega)) h) d h1 h2
  have HCl := Lib.hid hcl
  clear hcl
  go_wp2
  all_goals
   go_ret2
   refine ⟨A, rfl, (hr.take n).keep ?_ (fun b o e h => hne b o e (take_ne h)), HCl.out _ _ (by omega) (by unfold maxLen; omega)⟩
   exact (Chg.refl (At p) _).setCell (p := ⟨p, 0, none⟩) (.inl rfl) _
theorem take_short (p n : Nat) (l : List UInt8) (w : World) (hR : IsR w p l 0) (hn : l.length < n) :
  Calls Tryz.prog 321 #[.pointer (some ⟨p, 0, none⟩), .int .i64 n] w fun e w' => e = .returned (.tuple #[.slice none 0 0, .bool false]) ∧ IsR w' p [] 50 ∧ Chg (At p) w w' := by
 have hw := rwhole_any p l 0 w hR
 have hbr := breaks_ok p l w hR
 obtain ⟨A, c, hb, hr, hc, hm⟩ := hR
 have h0 : w.cell? ⟨p, 0, none⟩ = some (.slice A l.length c) := by rw [cell_of_row _ _ _ _ _ _ hb]; rfl
 have HB := Lib.hid hb
 have HW := Lib.hid hw
 have HBr := Lib.hid hbr
 clear hb hw hbr
 have hd : decide ((n : Int) > l.length) = true := by simp; omega
 go_enter Tryz.func321, Tryz.ntmps321
 go_wp2_with fail
 refine HW.out.mono ?_
 rintro e w' ⟨rfl, rfl⟩
 go_wp2_with fail
 refine HBr.out.mono ?_
 rintro e w' ⟨rfl, hR, hg⟩
 go_wp2
 go_ret2
 exact ⟨rfl, hR, hg⟩
theorem take_broken (p : Nat) (n : Int) (l : List UInt8) (er : Int) (w : World) (hR : IsR w p l er) (he : er ≠ 0) :
  Calls Tryz.prog 321 #[.pointer (some ⟨p, 0, none⟩), .int .i64 n] w fun e w' => e = .returned (.tuple #[.slice none 0 0, .bool false]) ∧ w = w' := by
 have hw := rwhole_any p l er w hR
 rw [show (er == 0) = false by simpa using he] at hw
 have hbr := breaks_no p l er w hR he
 have HW := Lib.hid hw
 have HBr := Lib.hid hbr
 clear hw hbr
 go_enter Tryz.func321, Tryz.ntmps321
 go_wp2_with fail
 refine HW.out.mono ?_
 rintro e w' ⟨rfl, rfl⟩
 go_wp2_with fail
 refine HBr.out.mono ?_
 rintro e w' ⟨rfl, rfl⟩
 go_wp2
 go_ret2
 exact ⟨rfl, rfl⟩
def i64 (n : Nat) : Int := wrap64 n
theorem Int1_ok (A : Option Addr) (l : List UInt8) (w : World) (hr : Rd w A l) (hl : l.length = 8) :
  Calls Tryz.prog 256 #[.slice A 8 8] w fun e w' => e = .returned (.tuple #[.int .i64 (i64 (num l)), .bool true]) ∧ w = w' := by
 have hld := Load64_ok A l 8 w hr hl (by omega) (by omega)
 have e : i64 (num l) = wrap64 (num l : Nat) := rfl
 have HL := Lib.hid hld
 have HE := Lib.hid e
 clear hld e
 obtain ⟨x, hx⟩ : ∃ x, num l = x := ⟨_, rfl⟩
 rw [hx] at HL HE ⊢
 clear hx
 go_enter Tryz.func256, Tryz.ntmps256
 go_wp2_with fail
 refine HL.out.mono ?_
 rintro e w' ⟨rfl, rfl⟩
 go_wp2
 go_ret2
 rw [HE.out]
 exact ⟨rfl, rfl⟩
theorem fieldInt_ok (p : Nat) (l : List UInt8) (w : World) (hR : IsR w p l 0) (hn : 8 ≤ l.length) :
  Calls Tryz.prog 255 #[.pointer (some ⟨p, 0, none⟩), .int .i64 8, .func (.func 256) #[] #[]] w fun e w' => e = .returned (.int .i64 (i64 (num (l.take 8)))) ∧ IsR w' p (l.drop 8) 0 ∧ Chg (At p) w w' := by
 have ht := take_ok p 8 l w hR hn
 have HT := Lib.hid ht
 clear ht
 have hl8 : (l.take 8).length = 8 := by rw [List.length_take]; omega
 have HI := Lib.hid (fun A W h => Int1_ok A (l.take 8) W h hl8)
 clear hl8
 go_enter Tryz.func255, Tryz.ntmps255
 go_wp2_with fail
 refine HT.out.mono ?_
 rintro e w1 ⟨A, rfl, hr, hR1, hg⟩
 go_wp2_with fail
 refine (HI.out A w1 hr).mono ?_
 rintro e w2 ⟨rfl, rfl⟩
 go_wp2
 go_ret
 exact ⟨rfl, hR1, hg⟩
theorem fieldInt_short (p : Nat) (l : List UInt8) (w : World) (hR : IsR w p l 0) (hn : l.length < 8) :
  Calls Tryz.prog 255 #[.pointer (some ⟨p, 0, none⟩), .int .i64 8, .func (.func 256) #[] #[]] w fun e w' => e = .returned (.int .i64 0) ∧ IsR w' p [] 50 ∧ Chg (At p) w w' := by
 have ht := take_short p 8 l w hR hn
 have HT := Lib.hid ht
 clear ht
 go_enter Tryz.func255, Tryz.ntmps255
 go_wp2_with fail
 refine HT.out.mono ?_
 rintro e w1 ⟨rfl, hR1, hg⟩
 go_wp2
 go_ret
 exact ⟨rfl, hR1, hg⟩
theorem fieldInt_broken (p : Nat) (l : List UInt8) (er : Int) (w : World) (hR : IsR w p l er) (he : er ≠ 0) :
  Calls Tryz.prog 255 #[.pointer (some ⟨p, 0, none⟩), .int .i64 8, .func (.func 256) #[] #[]] w fun e w' => e = .returned (.int .i64 0) ∧ w = w' := by
 have ht := take_broken p 8 l er w hR he
 have HT := Lib.hid ht
 clear ht
 go_enter Tryz.func255, Tryz.ntmps255
 go_wp2_with fail
 refine HT.out.mono ?_
 rintro e w1 ⟨rfl, rfl⟩
 go_wp2
 go_ret
 exact ⟨rfl, rfl⟩
def rdInt (l : List UInt8) (er : Int) : Int × List UInt8 × Int :=
 if er = 0 then (if 8 ≤ l.length then (i64 (num (l.take 8)), l.drop 8, 0) else (0, [], 50)) else (0, l, er)
theorem RInt_any (p : Nat) (l : List UInt8) (er : Int) (w : World) (hR : IsR w p l er) :
  Calls Tryz.prog 191 #[.pointer (some ⟨p, 0, none⟩)] w fun e w' => e = .returned (.int .i64 (rdInt l er).1) ∧ IsR w' p (rdInt l er).2.1 (rdInt l er).2.2 ∧ Chg (At p) w w' := by
 have hf : Calls Tryz.prog 255 #[.pointer (some ⟨p, 0, none⟩), .int .i64 8, .func (.func 256) #[] #[]] w fun e w' => e = .returned (.int .i64 (rdInt l er).1) ∧ IsR w' p (rdInt l er).2.1 (rdInt l er).2.2 ∧ Chg (At p) w w' := by
  unfold rdInt
  by_cases he : er = 0
  ·subst he
   by_cases hl : 8 ≤ l.length
   ·simp only [hl, if_true]
    exact fieldInt_ok p l w hR hl
   ·simp only [hl, if_true, if_false]
    exact fieldInt_short p l w hR (by omega)
  ·simp only [he, if_false]
   refine (fieldInt_broken p l er w hR he).mono ?_
   rintro e w' ⟨rfl, rfl⟩
   exact ⟨rfl, hR, Chg.refl _ _⟩
 have HF := Lib.hid hf
 clear hf
 obtain ⟨⟨x, l', er'⟩, hq⟩ : ∃ q, rdInt l er = q := ⟨_, rfl⟩
 rw [hq] at HF ⊢
 clear hq
 go_enter Tryz.func191, Tryz.ntmps191
 go_wp2_with fail
 refine HF.out.mono ?_
 rintro e w1 ⟨rfl, hR1, hg⟩
 go_wp2
 go_ret
 exact ⟨rfl, hR1, hg⟩
theorem End_any (p : Nat) (l : List UInt8) (er : Int) (w : World) (hR : IsR w p l er) :
  Calls Tryz.prog 195 #[.pointer (some ⟨p, 0, none⟩)] w fun e w' => e = .returned (.int .i64 (if er = 0 ∧ l ≠ [] then 50 else er)) ∧ w = w' := by
 have hw := rwhole_any p l er w hR
 obtain ⟨A, c, hb, hr, hc, hm⟩ := hR
 have h0 : w.cell? ⟨p, 0, none⟩ = some (.slice A l.length c) := by rw [cell_of_row _ _ _ _ _ _ hb]; rfl
 have h1 : w.cell? ⟨p, 1, none⟩ = some (.bool true) := by rw [cell_of_row _ _ _ _ _ _ hb]; rfl
 have h2 : w.cell? ⟨p, 2, none⟩ = some (.int .i64 er) := by rw [cell_of_row _ _ _ _ _ _ hb]; rfl
 clear hb
 unfold maxLen at hm
 have HW := Lib.hid hw
 clear hw
 -- Left
 have hleft : Calls Tryz.prog 264 #[.pointer (some ⟨p, 0, none⟩)] w fun e w' => e = .returned (.int .i64 (if er = 0 then (l.length : Int) else 0)) ∧ w = w' := by
  by_cases he : er = 0
  ·subst he
   go_enter Tryz.func264, Tryz.ntmps264
   go_wp2_with fail
   refine HW.out.mono ?_
   rintro e w1 ⟨rfl, rfl⟩
   go_wp2
   go_ret
   exact ⟨rfl, rfl⟩
  ·have hd : (er == 0) = false := by simpa using he
   simp only [he, if_false]
   go_enter Tryz.func264, Tryz.ntmps264
   go_wp2_with fail
   refine HW.out.mono ?_
   rintro e w1 ⟨rfl, rfl⟩
   go_wp2
   go_ret
   exact ⟨rfl, rfl⟩
 have herr : Calls Tryz.prog 265 #[.pointer (some ⟨p, 0, none⟩)] w fun e w' => e = .returned (.int .i64 er) ∧ w = w' := by
  go_enter Tryz.func265, Tryz.ntmps265
  go_wp2
  go_ret
  exact ⟨rfl, rfl⟩
 have HL := Lib.hid hleft
 have HE := Lib.hid herr
 clear hleft herr
 by_cases hq : er = 0 ∧ l ≠ []
 ·rw [if_pos hq]
  obtain ⟨rfl, hne⟩ := hq
  have hpos : 0 < l.length := List.length_pos_iff.2 hne
  simp only [if_true] at HL
  go_enter Tryz.func195, Tryz.ntmps195
  go_wp2_with fail
  refine HL.out.mono ?_
  rintro e w1 ⟨rfl, rfl⟩
  go_wp2
  go_ret
  exact ⟨rfl, rfl⟩
 ·rw [if_neg hq]
  have hz : (if er = 0 then (l.length : Int) else 0) = 0 := by
   by_cases he : er = 0
   ·subst he
    have : l = [] := by
     rcases l with _ | ⟨x, r⟩
     ·rfl
     ·exact absurd ⟨rfl, by simp⟩ hq
    subst this
    rfl
   ·simp [he]
  rw [hz] at HL
  clear hq hz
  go_enter Tryz.func195, Tryz.ntmps195
  go_wp2_with fail
  refine HL.out.mono ?_
  rintro e w1 ⟨rfl, rfl⟩
  go_wp2_with fail
  refine HE.out.mono ?_
  rintro e w1 ⟨rfl, rfl⟩
  go_wp2
  go_ret
  exact ⟨rfl, rfl⟩
theorem NewReader_ok (A : Option Addr) (l : List UInt8) (c : Nat) (w : World) (hr : Rd w A l) (hl : l.length ≤ 65536) :
  Calls Tryz.prog 190 #[.slice A l.length c] w fun e w' => e = .returned (.pointer (some ⟨w.heap.size, 0, none⟩)) ∧ IsR w' w.heap.size l 0 ∧ Chg Non w w' := by
 have hd : decide ((l.length : Int) > 65536) = false := by simp; omega
 go_enter Tryz.func190, Tryz.ntmps190
 go_wp2_with fail
 refine (Cat1 A l c _ _ _ (by simp) (hr.non ((Chg.refl _ _).alloc _)) (by omega)).mono ?_
 rintro e w1 ⟨A1, c1, rfl, hc1, hm1, ho1, hg1⟩
 have hb1 : w1.heap[w.heap.size]? = some (.cells #[.slice none 0 0, .bool true, .int .i64 0] 302 (0, 0)) := (hg1.block _ (by simp) (fun e => e)).trans (heap_alloc_new _ _)
 have h0 : w1.cell? ⟨w.heap.size, 0, none⟩ = some (.slice none 0 0) := by rw [cell_of_row _ _ _ _ _ _ hb1]; rfl
 have f0 : w1.frozen? ⟨w.heap.size, 0, none⟩ = false := frozen_of_row _ _ _ _ _ hb1
 have HB := Lib.hid hb1
 clear hb1
 have hsz : w.heap.size < w1.heap.size := by have := hg1.size; simp at this; omega
 go_wp2
 go_ret
 have hgs : Chg (At w.heap.size) w1 (w1.setCell ⟨w.heap.size, 0, none⟩ (.slice A1 l.length c1)) := (Chg.refl (At w.heap.size) _).setCell (p := ⟨w.heap.size, 0, none⟩) (.inl rfl) _
 refine ⟨rfl, ⟨A1, c1, ?_, ho1.rd.keep hgs ?_, hc1, hm1⟩, ?_⟩
 ·rw [heap_setCell_same _ _ _ _ _ _ HB.out]; rfl
 ·rintro b o rfl hne h
  have := ho1.ge hne
  simp at this
  unfold At at h
  omega
 ·exact (((Chg.refl Non w).alloc _).then_non hg1).setCell (.inr (Nat.le_refl _)) _
end
section
open Go.RowKit
end
section
open Go.RowKit
section
variable {P : Program} {md : Region.Mode} {ops : Array Oper} {Q : Exit → Act → World → Prop} {fuel : Nat} {listed : Array Bool} {a : Act} {w : World} {K : Act → World → Prop} {i : Nat}
theorem g_one (i : Nat) (hr : Region.ready md ops listed = [i]) (h : wpOp P ops Q i (wpAny P md ops Q fuel (listed.setIfInBounds i true)) a w) : wpAny P md ops Q (fuel + 1) listed a w := by
 refine ⟨fun h0 => ?_, fun j hj => ?_⟩
 ·rw [hr] at h0; cases h0
 ·rw [hr, List.mem_singleton] at hj
  subst hj
  exact h
theorem g_two (i j : Nat) (hr : Region.ready md ops listed = [i, j]) (h : wpOp P ops Q i (wpAny P md ops Q fuel (listed.setIfInBounds i true)) a w) (h' : wpOp P ops Q j (wpAny P md ops Q fuel (listed.setIfInBounds j true)) a w) : wpAny P md ops Q (fuel + 1) listed a w := by
 refine ⟨fun h0 => ?_, fun k hk => ?_⟩
 ·rw [hr] at h0; cases h0
 ·rw [hr, List.mem_cons, List.mem_singleton] at hk
  rcases hk with rfl | rfl
  ·exact h
  ·exact h'
theorem g_pure (d : Option Tmp) (v : Value) {oi : Oper} (hi : ops[i]? = some oi) (hdst : oi.dst = d) (hw : Region.wanted oi (yielded ops a.tmps) = true) (he : (execOp a.eval oi).run P w = .ok (.value v) w) (h : K (a.put d v) w) : wpOp P ops Q i K a w := by
 subst hdst
 unfold wpOp
 simp only [hi, hw, if_true, Oper.wp, he, Oper.upon]
 exact .inl h
theorem g_any {oi : Oper} (hi : ops[i]? = some oi) (hw : Region.wanted oi (yielded ops a.tmps) = true) (h : ∀ K' : Act → World → Prop, (∀ a w, K a w → K' a w) → Oper.wp P oi a w K' Q) : wpOp P ops Q i K a w :=
 wpOp_step hi (fun K' hK => by rw [if_pos hw]; exact h K' hK)
theorem g_load (d : Option Tmp) (ty : TypeId) (x : Operand) (b o : Nat) (C : Array Value) (td : TypeDesc) {oi : Oper} (hi : ops[i]? = some oi) (hdst : oi.dst = d) (ho : oi.op = .load ty x) (hw : Region.wanted oi (yielded ops a.tmps) = true)
  (hx : a.eval x = .pointer (some ⟨b, o, none⟩)) (hR : w.rangeAt b o C.toList) (hu : P.underlying ty = some td) (hd : td.isRow = true) (hz : (P.info? ty).map (·.size) = some C.size) (h : K (a.put d (.agg C)) w) : wpOp P ops Q i K a w := by
 subst hdst
 exact g_any hi hw (fun K' hK => wp_load_mid ty x ho b o hx C.toList td hR hu hd (by rw [hz, Array.length_toList]) (hK _ _ h))
theorem g_store (ty : TypeId) (x y : Operand) (g : Nat) (C : Array Value) {oi : Oper} (hi : ops[i]? = some oi) (hdst : oi.dst = none) (ho : oi.op = .store ty x y) (hw : Region.wanted oi (yielded ops a.tmps) = true)
  (hx : a.eval x = .pointer (some ⟨g, 0, none⟩)) (hy : a.eval y = .agg C) (t : TypeId) (hold : ∃ old : Array Value, w.heap[g]? = some (.cells old t (0, 0)) ∧ old.size = C.size) (hz : (P.info? ty).map (·.size) = some C.size)
  (h1 : C.all (·.oneCell') = true) (h : ∀ W, Chg (fun k => k = g) w W → W.heap[g]? = some (.cells C t (0, 0)) → K a W) : wpOp P ops Q i K a w := by
 obtain ⟨old, hg, hold⟩ := hold
 have hput : a.put oi.dst undef = a := by rw [hdst]; rfl
 exact g_any hi hw (fun K' hK => wp_store_row ty x y ho g C hx hy t old hg hz hold h1 (by
   rw [hput]
   exact hK _ _ (h _ ((Chg.refl (fun k => k = g) _).setRow (.inl rfl) _) (setRow_heap w g old C t (0, 0) hg))))
theorem wp_cutB {id : Nat} {b : Bool} {α : Type} (f : α → Act → Act) (R : α → World → Prop) (h : (Code.region id ops b).wp P (fun e x v => e = .normal ∧ ∃ y, x = f y a ∧ R y v) a w) (hk : ∀ y v, R y v → Q .normal (f y a) v) : (Code.region id ops b).wp P Q a w :=
 Code.wp_mono (fun e x v ⟨he, y, hx, hr⟩ => by subst he; subst hx; exact hk y v hr) h
theorem wpList_wanted {rest : List Oper} {o : Oper} (hw : Region.wanted o (yielded ops a.tmps) = true) (h : ∀ K : Act → World → Prop, (∀ a w, wpList P ops Q rest a w → K a w) → o.wp P a w K Q) : wpList P ops Q (o :: rest) a w :=
 wpList_step fun K hK => by rw [if_pos hw]; exact h K hK
theorem wpList_pureW {rest : List Oper} {o : Oper} (d : Option Tmp) (v : Value) (hdst : o.dst = d) (hw : Region.wanted o (yielded ops a.tmps) = true) (he : (execOp a.eval o).run P w = .ok (.value v) w) (h : wpList P ops Q rest (a.put d v) w) : wpList P ops Q (o :: rest) a w := by
 subst hdst
 refine wpList_wanted hw fun K hK => ?_
 simp only [Oper.wp, he, Oper.upon]
 exact hK _ _ h
theorem wpList_loadW {rest : List Oper} {o : Oper} (d : Option Tmp) (ty : TypeId) (x : Operand) (b off : Nat) (C : Array Value) (td : TypeDesc) (hdst : o.dst = d) (ho : o.op = .load ty x) (hw : Region.wanted o (yielded ops a.tmps) = true)
  (hx : a.eval x = .pointer (some ⟨b, off, none⟩)) (hR : w.rangeAt b off C.toList) (hu : P.underlying ty = some td) (hd : td.isRow = true) (hz : (P.info? ty).map (·.size) = some C.size) (h : wpList P ops Q rest (a.put d (.agg C)) w) : wpList P ops Q (o :: rest) a w := by
 subst hdst
 exact wpList_wanted hw fun K hK => wp_load_mid ty x ho b off hx C.toList td hR hu hd (by rw [hz, Array.length_toList]) (hK _ _ h)
end
end
section
open Go.RowKit
section
variable {P : Program} {md : Region.Mode} {ops : Array Oper} {Q : Exit → Act → World → Prop} {S : World → Prop} {fuel : Nat} {listed : Array Bool} {a : Act} {w : World}
theorem h_pure (i : Nat) (d : Option Tmp) (v : Value) {oi : Oper} (hi : ops[i]? = some oi) (hs : Region.noSelect ops = true) (hf : Region.free md ops listed i = true) (hr : (Region.ready md ops listed).contains i = true)
  (hdst : oi.dst = d) (hQ : ∀ c a w, Q (.panic c) (a.put d v) w → Q (.panic c) a w) (hw : Region.wanted oi (yielded ops a.tmps) = true) (he : ∀ w, S w → (execOp a.eval oi).run P w = .ok (.value v) w) (hS : S w)
  (h : wpAnyH P md ops Q S fuel (listed.setIfInBounds i true) (a.put d v) w) : wpAnyH P md ops Q S (fuel + 1) listed a w := by
 subst hdst
 exact wpAnyH_take hi hs hf hr hQ (.inl ⟨hw, he⟩) hS h
theorem h_skip (i : Nat) (d : Option Tmp) {oi : Oper} (hi : ops[i]? = some oi) (hs : Region.noSelect ops = true) (hf : Region.free md ops listed i = true) (hr : (Region.ready md ops listed).contains i = true)
  (hdst : oi.dst = d) (hQ : ∀ c a w, Q (.panic c) (a.put d undef) w → Q (.panic c) a w) (hw : Region.wanted oi (yielded ops a.tmps) = false) (hS : S w)
  (h : wpAnyH P md ops Q S fuel (listed.setIfInBounds i true) (a.put d undef) w) : wpAnyH P md ops Q S (fuel + 1) listed a w := by
 subst hdst
 exact wpAnyH_take hi hs hf hr hQ (.inr ⟨hw, rfl⟩) hS h
theorem h_one (i : Nat) {oi : Oper} (hr : Region.ready md ops listed = [i]) (hi : ops[i]? = some oi) (hw : Region.wanted oi (yielded ops a.tmps) = true)
  (h : ∀ K : Act → World → Prop, Shut (∀ a w, S w → (S w → wpAnyH P md ops Q S fuel (listed.setIfInBounds i true) a w) → K a w) → Oper.wp P oi a w K Q) : wpAnyH P md ops Q S (fuel + 1) listed a w :=
 wpAnyH_ready hr (by simp) (AllReadyH.cons hi (fun K hK => by rw [if_pos hw]; exact h K hK) AllReadyH.nil)
theorem h_load (i : Nat) (dd : Option Tmp) {oi : Oper} (ty : TypeId) (x : Operand) (b o : Nat) (C : Array Value) (d : TypeDesc) (hi : ops[i]? = some oi) (hs : Region.noSelect ops = true) (hf : Region.free md ops listed i = true) (hr : (Region.ready md ops listed).contains i = true)
  (hdst : oi.dst = dd) (ho : oi.op = .load ty x) (hQ : ∀ c a w, Q (.panic c) (a.put dd (.agg C)) w → Q (.panic c) a w) (hw : Region.wanted oi (yielded ops a.tmps) = true)
  (hx : a.eval x = .pointer (some ⟨b, o, none⟩)) (hR : ∀ w, S w → w.rangeAt b o C.toList) (hu : P.underlying ty = some d) (hd : d.isRow = true) (hz : (P.info? ty).map (·.size) = some C.size) (hS : S w)
  (h : wpAnyH P md ops Q S fuel (listed.setIfInBounds i true) (a.put dd (.agg C)) w) : wpAnyH P md ops Q S (fuel + 1) listed a w := by
 subst hdst
 exact wpAnyH_take hi hs hf hr hQ (yieldsIf_load_mid hw ty x ho b o hx C.toList d hR hu hd (by rw [hz, Array.length_toList])) hS h
theorem h_store (i : Nat) {oi : Oper} (ty : TypeId) (x y : Operand) (g : Nat) (C : Array Value) (hr : Region.ready md ops listed = [i]) (hi : ops[i]? = some oi) (hw : Region.wanted oi (yielded ops a.tmps) = true)
  (hdst : oi.dst = none) (ho : oi.op = .store ty x y) (hx : a.eval x = .pointer (some ⟨g, 0, none⟩)) (hy : a.eval y = .agg C) (t : TypeId) (hold : ∃ old : Array Value, w.heap[g]? = some (.cells old t (0, 0)) ∧ old.size = C.size) (hz : (P.info? ty).map (·.size) = some C.size)
  (h1 : C.all (·.oneCell') = true) (hS : ∀ W, Chg (fun k => k = g) w W → W.heap[g]? = some (.cells C t (0, 0)) → S W)
  (h : ∀ W, Chg (fun k => k = g) w W → W.heap[g]? = some (.cells C t (0, 0)) → wpAnyH P md ops Q S fuel (listed.setIfInBounds i true) a W) : wpAnyH P md ops Q S (fuel + 1) listed a w := by
 obtain ⟨old, hg, hold⟩ := hold
 have hput : a.put oi.dst undef = a := by rw [hdst]; rfl
 have k1 : Chg (fun k => k = g) w (w.setRow g C) := (Chg.refl (fun k => k = g) _).setRow (.inl rfl) _
 have k2 := setRow_heap w g old C t (0, 0) hg
 exact h_one i hr hi hw (fun K hK => wp_store_row ty x y ho g C hx hy t old hg hz hold h1 (by rw [hput]; exact hK.out _ _ (hS _ k1 k2) (fun _ => h _ k1 k2)))
end
end
section
open Go.RowKit
theorem sA {α : Type _} (l : List α) (i : Nat) (a : α) : l.toArray.setIfInBounds i a = (l.set i a).toArray := List.setIfInBounds_toArray ..
theorem sB {α : Type _} {x a : α} {xs : List α} : (x :: xs).set 0 a = a :: xs := rfl
theorem sC {α : Type _} {x a : α} {xs : List α} {i : Nat} : (x :: xs).set (i + 1) a = x :: xs.set i a := rfl
section
variable {P : Program} {md : Region.Mode} {ops : Array Oper} {Q : Exit → Act → World → Prop} {S : World → Prop} {fuel : Nat} {listed listed' : Array Bool} {a a' : Act} {w : World}
theorem hp (i : Nat) (d : Tmp) (v : Value) {oi : Oper} (hi : ops[i]? = some oi) (hS : S w)
  (h : wpAnyH P md ops Q S fuel listed' a' w)
  (he : ∀ w, S w → (execOp a.eval oi).run P w = .ok (.value v) w := by intro W hW; go_simp)
  (ha : a.put (some d) v = a' := by first | (simp only [Act.put, List.setIfInBounds_toArray, List.set_cons_zero, List.set_cons_succ] <;> rfl) | rfl)
  (hl : listed.setIfInBounds i true = listed' := by first | (simp only [List.setIfInBounds_toArray, List.set_cons_zero, List.set_cons_succ] <;> rfl) | rfl)
  (hQ : ∀ c a w, Q (.panic c) (a.put (some d) v) w → Q (.panic c) a w := by exact fun _ _ _ h => h)
  (hs : Region.noSelect ops = true := by kernel_rfl) (hf : Region.free md ops listed i = true := by kernel_rfl) (hr : (Region.ready md ops listed).contains i = true := by kernel_rfl)
  (hdst : oi.dst = some d := by kernel_rfl) (hw : Region.wanted oi (yielded ops a.tmps) = true := by kernel_rfl) : wpAnyH P md ops Q S (fuel + 1) listed a w :=
 h_pure i (some d) v hi hs hf hr hdst hQ hw he hS (by rw [ha, hl]; exact h)
theorem hs (i : Nat) (d : Tmp) {oi : Oper} (hi : ops[i]? = some oi) (hS : S w)
  (h : wpAnyH P md ops Q S fuel listed' a' w)
  (ha : a.put (some d) undef = a' := by first | (simp only [Act.put, List.setIfInBounds_toArray, List.set_cons_zero, List.set_cons_succ] <;> rfl) | rfl)
  (hl : listed.setIfInBounds i true = listed' := by first | (simp only [List.setIfInBounds_toArray, List.set_cons_zero, List.set_cons_succ] <;> rfl) | rfl)
  (hQ : ∀ c a w, Q (.panic c) (a.put (some d) undef) w → Q (.panic c) a w := by exact fun _ _ _ h => h)
  (hs : Region.noSelect ops = true := by kernel_rfl) (hf : Region.free md ops listed i = true := by kernel_rfl) (hr : (Region.ready md ops listed).contains i = true := by kernel_rfl)
  (hdst : oi.dst = some d := by kernel_rfl) (hw : Region.wanted oi (yielded ops a.tmps) = false := by kernel_rfl) : wpAnyH P md ops Q S (fuel + 1) listed a w :=
 h_skip i (some d) hi hs hf hr hdst hQ hw hS (by rw [ha, hl]; exact h)
theorem h1o (i : Nat) {oi : Oper} (hi : ops[i]? = some oi) (h : ∀ K : Act → World → Prop, Shut (∀ a w, S w → (S w → wpAnyH P md ops Q S fuel (listed.setIfInBounds i true) a w) → K a w) → Oper.wp P oi a w K Q)
  (hr : Region.ready md ops listed = [i] := by kernel_rfl) (hw : Region.wanted oi (yielded ops a.tmps) = true := by kernel_rfl) : wpAnyH P md ops Q S (fuel + 1) listed a w := h_one i hr hi hw h
theorem hdn (h : Q .normal a w) (n : Nat) (hr : Region.ready md ops listed = [] := by kernel_rfl) : wpAnyH P md ops Q S n listed a w := wpAnyH_done hr h n
end
theorem Lh {p : Prop} (h : p) : Hid p := Lib.hid h
end
section
open Go.RowKit
theorem sel {P : Program} {ops : Array Oper} {rest : List Oper} {a : Act} {w : World} {Q : Exit → Act → World → Prop} (d : Option Tmp) (op : Op) {ty : TypeId} {pos : String} {af : Array Edge} {g : Option (Nat × Bool)}
  (h : wpList P ops Q (⟨d, op, ty, pos, af, g⟩ :: rest) a w) : wpList P ops Q (⟨d, op, ty, pos, af, g⟩ :: rest) a w := h
theorem wpList_store_rowA {P : Program} {w : World} {ops : Array Oper} {rest : List Oper} {o : Oper} {a : Act} {Q : Exit → Act → World → Prop} (hgd : o.guard = none) (ty : TypeId) (x y : Operand) (ho : o.op = .store ty x y)
  (g : Nat) (cells : Array Value) (hx : a.eval x = .pointer (some ⟨g, 0, none⟩)) (hy : a.eval y = .agg cells)
  (t : TypeId) (old : Array Value) (hg : w.heap[g]? = some (.cells old t (0, 0))) (hi : (P.info? ty).map (·.size) = some cells.size)
  (hold : old.size = cells.size) (h1 : cells.all (·.oneCell') = true)
  (h : ∀ W, Chg (fun k => k = g) w W → W.heap[g]? = some (.cells cells t (0, 0)) → wpList P ops Q rest (a.put o.dst undef) W) : wpList P ops Q (o :: rest) a w :=
 wpList_store_row hgd ty x y ho g cells hx hy t old hg hi hold h1 (h _ ((Chg.refl (fun k => k = g) _).setRow (.inl rfl) _) (setRow_heap _ _ _ _ _ _ hg))
theorem row_range {w : World} {b : Nat} {C : Array Value} {t : TypeId} {fr : Nat × Nat} (h : w.heap[b]? = some (.cells C t fr)) : w.rangeAt b 0 C.toList := fun j v hv => by
 rw [cell_of_row _ _ _ _ _ _ h, Nat.zero_add]
 simpa using hv
theorem blockN {w W : World} {b : Nat} {x : Obj} (hg : Chg Non w W) (h : w.heap[b]? = some x) : W.heap[b]? = some x :=
 (hg.block b (Array.getElem?_eq_some_iff.1 h).1 (fun e => e)).trans h
theorem results_ct {P : Program} {fn : Func} {p q : Tmp} {ty : TypeId} (h : fn.results = #[.cell p ty, .tmp q]) (tmps : Array Value) (w : World) (g : Nat) (t : TypeId) (cs : Array Value) (fr : Nat × Nat) (d : TypeDesc) (v : Value)
  (hp : tmps.getD p undef = .pointer (some ⟨g, 0, none⟩)) (hv : tmps.getD q undef = v) (hg : w.heap[g]? = some (.cells cs t fr))
  (hu : P.underlying ty = some d) (hd : (match d with | .struct _ | .array _ _ => true | _ => false) = true) (hi : (P.info? ty).map (·.size) = some cs.size) :
  (results fn tmps).run P w = .ok (.tuple #[.agg cs, v]) w := by
 have hp' : tmps[p]?.getD undef = .pointer (some ⟨g, 0, none⟩) := by simpa using hp
 have hv' : tmps[q]?.getD undef = v := by simpa using hv
 simp [results, h, hp', hv', asAddr, run_loadVar_row w g t ty cs fr d hg hu hd hi]
end
end Go.Proofs.YtajkajgifigmbaaGreat
