/- CheckPlays, part 5 of 27: contracts of the functions that it reaches, and the laws that they need, merged and shortened (from my texts XCrcW, XCrcP, XFrame, XFrame2, XDiskR, XRef01, XRef01b). -/
import Derived.Test.YtkgnlobabknkcaaGreatMgCheckPlaysA
import Derived.Test.YtkgnlobabknkcaaGreatMgCheckPlaysD
import Derived.Deep.MidRow
import Derived.Laws.EntriesVeiled
namespace Go.Proofs.YtkgnlobabknkcaaGreat
set_option linter.unusedVariables false
set_option linter.unusedSimpArgs false
set_option maxHeartbeats 8000000
set_option maxRecDepth 100000
section
open Go.RowKit
def tabA (k : Nat) : Array Value := ((List.range 16).map fun j => if j < k then .int .u32 (tw 4 j : Nat) else .int .u32 0).toArray
theorem tabA_zero : tabA 0 = #[.int .u32 0, .int .u32 0, .int .u32 0, .int .u32 0, .int .u32 0, .int .u32 0, .int .u32 0, .int .u32 0, .int .u32 0, .int .u32 0, .int .u32 0, .int .u32 0, .int .u32 0, .int .u32 0, .int .u32 0, .int .u32 0] := rfl
theorem tabA_size (k : Nat) : (tabA k).size = 16 := by simp [tabA]
theorem tabA_at (k j : Nat) (h : j < 16) : (tabA k)[j]? = some (if j < k then .int .u32 (tw 4 j : Nat) else .int .u32 0) := by simp [tabA, h]
theorem tabA_set (k : Nat) (h : k < 16) : (tabA k).setIfInBounds k (.int .u32 (tw 4 k : Nat)) = tabA (k + 1) := by
 apply Array.ext_getElem?
 intro i
 rw [Array.getElem?_setIfInBounds]
 by_cases hi : i < 16
 ·rw [tabA_at k i hi, tabA_at (k + 1) i hi]
  by_cases e : k = i
  ·subst e; simp [tabA_size, h]
  ·have : (i < k + 1) ↔ i < k := by omega
   simp only [e, if_false, this]
 ·have h1 : (tabA k)[i]? = none := Array.getElem?_eq_none (by rw [tabA_size]; omega)
  have h2 : (tabA (k + 1))[i]? = none := Array.getElem?_eq_none (by rw [tabA_size]; omega)
  have : k ≠ i := by omega
  simp [h1, h2, this]
theorem tabA_get (k : Nat) (h : k < 16) : (tabA k)[k]? = some (.int .u32 0) := by rw [tabA_at k k h]; simp
theorem tabA_full (k : Nat) (h : k < 16) : (tabA 16)[k]? = some (.int .u32 (tw 4 k : Nat)) := by rw [tabA_at 16 k h]; simp [h]
theorem tabA_lit : tabA 16 = #[.int .u32 (tw 4 0 : Nat), .int .u32 (tw 4 1 : Nat), .int .u32 (tw 4 2 : Nat), .int .u32 (tw 4 3 : Nat), .int .u32 (tw 4 4 : Nat), .int .u32 (tw 4 5 : Nat), .int .u32 (tw 4 6 : Nat), .int .u32 (tw 4 7 : Nat), .int .u32 (tw 4 8 : Nat), .int .u32 (tw 4 9 : Nat), .int .u32 (tw 4 10 : Nat), .int .u32 (tw 4 11 : Nat), .int .u32 (tw 4 12 : Nat), .int .u32 (tw 4 13 : Nat), .int .u32 (tw 4 14 : Nat), .int .u32 (tw 4 15 : Nat)] := rfl
theorem tabA_one : (tabA 16).all (·.oneCell') = true := by rw [tabA_lit]; simp [Value.oneCell']
theorem table_any (w : World) :
  Calls Tryz.prog 116 #[] w fun e w' => e = .returned (.agg (tabA 16)) ∧ Chg Non w w' := by
 go_enter Tryz.func116, Tryz.ntmps116
 go_wp2
 go_loopw [5] (fun i wr => ∃ k : Nat, k ≤ 16 ∧ i = .int .i64 k ∧ wr.heap[w.heap.size + 1]? = some (.cells (tabA k) 180 (0, 0)) ∧ wr.heap[w.heap.size]? = some (.cells (tabA 0) 180 (0, 0)) ∧ Chg Non w wr) (fun i _ => 16 - (intOf i).toNat)
 case atStart => 
  refine ⟨0, by omega, rfl, ?_, ?_, ((Chg.refl _ _).alloc _).alloc _⟩
  ·rw [tabA_zero]
   have h := fun o o' => (MapKept.heap_alloc (w.alloc o) o').1
   simp only [World.size_alloc] at h
   exact h _ _
  ·rw [tabA_zero]
   refine (Below.heap_alloc _ _ _ (by simp)).trans (MapKept.heap_alloc _ _).1
 case round =>
  obtain ⟨k, hk, rfl, hb, hb0, hg⟩ := hrel
  by_cases hlt : k < 16
  ·obtain ⟨wo, rfl⟩ : ∃ wo : World, wo = wr := ⟨_, rfl⟩
   have HB := Lh hb
   have HB0 := Lh hb0
   clear hb hb0
   go_wp2
   go_loop [3, 10] (fun c j => ∃ i : Nat, i ≤ 4 ∧ j = .int .i64 i ∧ c = .int .u32 (tw i k : Nat)) (fun _ j => 4 - (intOf j).toNat)
   case atStart => exact ⟨0, by omega, rfl, rfl⟩
   case round =>
    obtain ⟨i, hi, rfl, rfl⟩ := hrel
    have hc := tw_lt i k (by omega)
    have hs : tw (i + 1) k = tst (tw i k) := rfl
    have HS := Lh hs
    clear hs
    by_cases hi4 : i < 4
    ·obtain ⟨c, hcc⟩ : ∃ c, tw i k = c := ⟨_, rfl⟩
     rw [hcc] at hc HS ⊢
     clear hcc
     have h1 : bits .and .u32 (c : Int) 1 = ((c % 2 : Nat) : Int) := by
      have := u32_and_nat c 1 hc (by omega)
      rw [nat_mask1] at this
      exact this
     have h2 : ((c % 2 : Nat) : Int) ≤ 1 := by omega
     have h2' : (0 : Int) ≤ ((c % 2 : Nat) : Int) := by omega
     have h3 : bits .xor .u32 ((c : Int) / 2) (3988292384 * ((c % 2 : Nat) : Int)) = (tst c : Int) := by
      have := u32_xor_nat (c / 2) (3988292384 * (c % 2)) (by omega) (by omega)
      unfold tst
      rw [← this]
      simp
     obtain ⟨d, hd⟩ : ∃ d, c % 2 = d := ⟨_, rfl⟩
     rw [hd] at h1 h2 h2' h3
     clear hd
     go_wp2
     go_round
     case rel => exact ⟨i + 1, by omega, by go_num, by rw [HS.out]⟩
     case measure => simp [intOf]; omega
    ·obtain rfl : i = 4 := by omega
     have hcell : wo.cell? ⟨w.heap.size + 1, k, none⟩ = some (.int .u32 0) := by
      simp only [World.cell?]; rw [HB.out]; exact tabA_get k hlt
     have hfr : wo.frozen? ⟨w.heap.size + 1, k, none⟩ = false := by
      simp only [World.frozen?]; rw [HB.out]; simp
     have hset := tabA_set k hlt
     obtain ⟨v, hv⟩ : ∃ v : Value, (Value.int .u32 (tw 4 k : Nat)) = v := ⟨_, rfl⟩
     obtain ⟨c, hcc⟩ : ∃ c, tw 4 k = c := ⟨_, rfl⟩
     rw [hcc] at hc hv hset ⊢
     clear hcc HS
     have HSet := Lh hset
     clear hset hv
     go_wp2
     go_roundw
     case rel =>
      refine ⟨k + 1, by omega, by go_num, ?_, ?_, hg.setCell (.inr (by simp)) _⟩
      ·rw [heap_setCell_same _ _ _ _ _ _ HB.out, HSet.out]
      ·rw [heap_setCell_other _ _ _ _ (by simp)]
       exact HB0.out
     case measure => simp [intOf]; omega
  ·obtain rfl : k = 16 := by omega
   have HB := Lh hb
   have HB0 := Lh hb0
   clear hb hb0
   go_wp2_with (first
     | (refine wpList_load_row (o := ⟨some 24, _, _, _, _, _⟩) rfl 180 (.tmp 1) rfl (w.heap.size + 1) rfl 180 (tabA 16) (0, 0) _ HB.out Tryz.underlying180 rfl (by kernel_rfl) ?_)
     | (refine wpList_store_row (o := ⟨none, .store 180 (.tmp 0) (.tmp 24), _, _, _, _⟩) rfl 180 (.tmp 0) (.tmp 24) rfl w.heap.size (tabA 16) rfl rfl 180 (tabA 0) HB0.out (by kernel_rfl) rfl tabA_one ?_))
   refine bodyPost_ret (results_cell_row Tryz.results116 _ _ w.heap.size 180 (tabA 16) (0, 0) _ rfl (setRow_heap _ _ _ _ _ _ HB0.out) Tryz.underlying180 rfl (by kernel_rfl)) rfl ⟨rfl, hg.setRow (.inr (Nat.le_refl _)) _⟩
theorem ones_xor (x : Nat) (h : x < 4294967296) : 4294967295 ^^^ x = 4294967295 - x := by
 have h1 : (4294967295 : Nat) = 2 ^ 32 - 1 := rfl
 have e : BitVec.allOnes 32 ^^^ BitVec.ofNat 32 x = ~~~ (BitVec.ofNat 32 x) := BitVec.allOnes_xor
 have := congrArg BitVec.toNat e
 rw [BitVec.toNat_xor, BitVec.toNat_not, BitVec.toNat_ofNat, BitVec.toNat_allOnes, Nat.mod_eq_of_lt (by omega)] at this
 exact this
theorem Add_any (A : Option Addr) (l : List UInt8) (cap : Nat) (w : World) (hr : Rd w A l) (hl : l.length ≤ 9223372036854775807) :
  Calls Tryz.prog 84 #[.int .u32 0, .slice A l.length cap] w fun e w' => e = .returned (.int .u32 (crcSum l : Nat)) ∧ Chg Non w w' := by
 go_enter Tryz.func84, Tryz.ntmps84
 go_wp2_with (first
   | (go_at_call 116; refine (table_any _).mono ?_; rintro e w1 ⟨rfl, hg1⟩)
   | (refine wpList_store_row (o := ⟨none, .store 180 (.tmp 5) (.tmp 8), _, _, _, _⟩) rfl 180 (.tmp 5) (.tmp 8) rfl w1.heap.size (tabA 16) rfl rfl 180 (tabA 0) (heap_alloc_new _ _) (by kernel_rfl) rfl tabA_one ?_))
 obtain ⟨W, hW⟩ : ∃ W, (w1.alloc (.cells (tabA 0) 180)).setRow w1.heap.size (tabA 16) = W := ⟨_, rfl⟩
 have HB := Lh (show W.heap[w1.heap.size]? = some (.cells (tabA 16) 180 (0, 0)) from by rw [← hW]; exact setRow_heap _ _ _ _ _ _ (heap_alloc_new _ _))
 have hg : Chg Non w W := by
  rw [← hW]
  exact (hg1.alloc _).setRow (.inr hg1.size) _
 have HR := Lh (hr.non hg)
 rw [show (w1.alloc (.cells #[.int .u32 0, .int .u32 0, .int .u32 0, .int .u32 0, .int .u32 0, .int .u32 0, .int .u32 0, .int .u32 0, .int .u32 0, .int .u32 0, .int .u32 0, .int .u32 0, .int .u32 0, .int .u32 0, .int .u32 0, .int .u32 0] 180)).setRow w1.heap.size (tabA 16) = W from hW]
 clear hW hr hg1
 go_loop [0, 13] (fun c i => ∃ k : Nat, k ≤ l.length ∧ i = .int .i64 k ∧ c = .int .u32 (crcL 4294967295 (l.take k) : Nat)) (fun _ i => l.length - (intOf i).toNat)
 case atStart => exact ⟨0, by omega, rfl, rfl⟩
 case round =>
  obtain ⟨k, hk, rfl, rfl⟩ := hrel
  have hc := crcL_lt 4294967295 (l.take k) (by omega)
  by_cases hlt : k < l.length
  ·obtain ⟨b, o, rfl, hb, hcell⟩ := HR.out.at_ (by omega)
   have HC := Lh hcell
   clear hcell
   have hcell := HC.out k hlt
   have hs := crcL_take_snoc 4294967295 l k hlt
   obtain ⟨c, hcc⟩ : ∃ c, crcL 4294967295 (l.take k) = c := ⟨_, rfl⟩
   rw [hcc] at hc hs ⊢
   clear hcc
   obtain ⟨x, hx⟩ : ∃ x, l[k]'hlt = x := ⟨_, rfl⟩
   rw [hx] at hcell hs
   clear hx
   have hx1 := crcX_lt c x hc
   have hx2 : bits .xor .u32 (c : Int) (x.toNat : Int) = ((c ^^^ x.toNat : Nat) : Int) := u32_xor_nat _ _ hc (by have := x.toNat_lt; omega)
   have hxl := x.toNat_lt
   have HS := Lh hs
   clear hs
   have hd1 := half_lt _ hx1
   have HT : ∀ d : Nat, d < 4294967296 → W.cell? ⟨w1.heap.size, d % 16, none⟩ = some (.int .u32 (tw 4 (d % 16) : Nat)) := fun d hd => by
    simp only [World.cell?]; rw [HB.out]; exact tabA_full (d % 16) (by omega)
   have HH : ∀ d : Nat, d < 4294967296 → bits .xor .u32 ((d : Int) / 16) ((tw 4 (d % 16) : Nat) : Int) = ((half d : Nat) : Int) := fun d hd => by
    have := u32_xor_nat (d / 16) (tw 4 (d % 16)) (by omega) (tw_lt 4 _ (by omega))
    unfold half
    rw [← this]
    simp
   have t1 := HT _ hx1
   have t2 := HT _ hd1
   have a1 := HH _ hx1
   have a2 := HH _ hd1
   have hd2 := half_lt _ hd1
   have b1 := tw_lt 4 ((c ^^^ x.toNat) % 16) (by omega)
   have b2 := tw_lt 4 (half (c ^^^ x.toNat) % 16) (by omega)
   clear HT HH
   replace HS : Hid (crcL 4294967295 (l.take (k + 1)) = half (half (c ^^^ x.toNat))) := HS
   go_wp2
   refine wp_loop_rounds 3 ?_
   rw [rounds_succ]
   go_wp2
   rw [rounds_succ]
   go_wp2
   rw [rounds_succ]
   go_wp2
   go_round
   case rel => exact ⟨k + 1, by omega, by go_num, by rw [HS.out]⟩
   case measure => simp [intOf]; omega
  ·have e : l.take k = l := List.take_of_length_le (by omega)
   rw [e] at hc ⊢
   have hf : bits .xor .u32 IntKind.u32.max (crcL 4294967295 l : Nat) = (crcSum l : Nat) := by
    have := u32_xor_nat 4294967295 (crcL 4294967295 l) (by omega) hc
    have e2 : (IntKind.u32.max : Int) = ((4294967295 : Nat) : Int) := rfl
    rw [e2, this, crcSum]
    congr 1
    exact ones_xor _ hc
   go_wp2
   go_ret
   exact ⟨rfl, hg⟩
theorem Sum_any (A : Option Addr) (l : List UInt8) (cap : Nat) (w : World) (hr : Rd w A l) (hl : l.length ≤ 9223372036854775807) :
  Calls Tryz.prog 37 #[.slice A l.length cap] w fun e w' => e = .returned (.int .u32 (crcSum l : Nat)) ∧ Chg Non w w' := by
 go_enter Tryz.func37, Tryz.ntmps37
 go_wp2_with (go_at_call 84; refine (Add_any _ _ _ _ hr hl).mono ?_; rintro e w1 ⟨rfl, hg1⟩)
 go_ret
 exact ⟨rfl, hg1⟩
end
section
open Go.RowKit
def crcPut (l : List UInt8) : List UInt8 := l ++ be (crcSum l) 4
theorem crcPut_any (A : Option Addr) (l : List UInt8) (cap : Nat) (w : World) (hr : Rd w A l) (hl : l.length ≤ 1000000) :
  Calls Tryz.prog 83 #[.slice A l.length cap] w (RetB w (crcPut l)) := by
 go_enter Tryz.func83, Tryz.ntmps83
 go_wp2_with fail
 refine (Sum_any A l cap w hr (by omega)).mono ?_
 rintro e w1 ⟨rfl, hg1⟩
 go_wp2_with fail
 refine (Put32 _ _ (crcSum_lt l)).mono ?_
 rintro e w2 ⟨A2, c2, rfl, hc2, hm2, ho2, hg2⟩
 go_wp2_with fail
 have h1 := (hr.non hg1).non hg2
 refine (Cat2 A A2 l (be (crcSum l) 4) cap c2 _ w2 _ rfl h1 ho2.rd (by rw [be_length]; omega) (crcPut l) rfl).mono ?_
 rintro e w3 ⟨A3, c3, rfl, hr3⟩
 go_wp2
 go_ret
 exact RetB.from ⟨A3, c3, rfl, hr3⟩ (hg1.then_non hg2)
def crcOk (b : List UInt8) : Bool := decide (4 ≤ b.length ∧ crcPut (b.take (b.length - 4)) = b)
theorem Check_any (A : Option Addr) (l : List UInt8) (cap : Nat) (w : World) (hr : Rd w A l) (h4 : 4 ≤ l.length) (hl : l.length ≤ 1000000) (hcap : l.length ≤ cap) (hm : cap ≤ maxLen) :
  Calls Tryz.prog 214 #[.slice A l.length cap] w fun e w' => (∃ v, e = .returned (.tuple #[v, .bool (crcOk l)])) ∧ Chg Non w w' := by
 unfold maxLen at hm
 have hlt : (l.take (l.length - 4)).length = l.length - 4 := by rw [List.length_take]; omega
 have hp := crcPut_any A (l.take (l.length - 4)) cap
 have hcut := fun W h => Cat1 A (l.take (l.length - 4)) cap 29 W _ rfl h (by omega)
 rw [hlt] at hp hcut
 have HP := Lh hp
 have HK := Lh hcut
 clear hp hcut
 have hok : crcOk l = decide (crcPut (l.take (l.length - 4)) = l) := by
  unfold crcOk
  simp [h4]
 have HOK := Lh hok
 clear hok hlt
 by_cases he : crcPut (l.take (l.length - 4)) = l
 ·have hd : decide (crcPut (l.take (l.length - 4)) = l) = true := by simpa using he
  have HE := Lh he
  clear he
  go_enter Tryz.func214, Tryz.ntmps214
  go_wp2_with fail
  refine (HP.out w (hr.take (l.length - 4)) (by omega)).mono ?_
  rintro e w2 ⟨A2, c2, rfl, hc2, hm2, ho2, hg2⟩
  go_wp2_with fail
  refine (Same_any A2 A (crcPut (l.take (l.length - 4))) l c2 cap w2 ho2.rd (hr.non hg2)).mono ?_
  rintro e w3 ⟨rfl, rfl⟩
  go_wp2_with fail
  refine (HK.out w2 ((hr.take (l.length - 4)).non hg2)).mono ?_
  rintro e w4 ⟨A4, c4, rfl, hc4, hm4, ho4, hg4⟩
  go_wp2
  go_ret2
  exact ⟨⟨_, by rw [HOK.out, hd]; rfl⟩, hg2.then_non hg4⟩
 ·have hd : decide (crcPut (l.take (l.length - 4)) = l) = false := by simpa using he
  have HE := Lh he
  clear he
  go_enter Tryz.func214, Tryz.ntmps214
  go_wp2_with fail
  refine (HP.out w (hr.take (l.length - 4)) (by omega)).mono ?_
  rintro e w2 ⟨A2, c2, rfl, hc2, hm2, ho2, hg2⟩
  go_wp2_with fail
  refine (Same_any A2 A (crcPut (l.take (l.length - 4))) l c2 cap w2 ho2.rd (hr.non hg2)).mono ?_
  rintro e w3 ⟨rfl, rfl⟩
  go_wp2
  go_ret2
  exact ⟨⟨_, by rw [HOK.out, hd]; rfl⟩, hg2⟩
end
section
open Go.RowKit
def sealL (kind : UInt8) (b : List UInt8) : List UInt8 := crcPut ([kind, UInt8.ofNat b.length] ++ b ++ List.replicate (58 - b.length) 0)
def sizeL (s : List UInt8) : Nat := (s.getD 1 0).toNat
def wholeL (s : List UInt8) : Bool :=
 decide (s.length = 64) && (crcOk s && (decide (sizeL s ≤ 58) && decide ((s.drop (2 + sizeL s)).take (60 - (2 + sizeL s)) = List.replicate (60 - (2 + sizeL s)) 0)))
def RetB2 (w : World) (l : List UInt8) (v : Value) (e : Ending) (w' : World) : Prop :=
 ∃ A c, e = .returned (.tuple #[.slice A l.length c, v]) ∧ l.length ≤ c ∧ c ≤ maxLen ∧ Own w.heap.size w' A l ∧ Chg Non w w'
theorem zeros_own (w : World) (n : Nat) (t : TypeId) : Own w.heap.size (w.alloc (.cells (Array.replicate n (.int .u8 0)) t)) (some ⟨w.heap.size, 0, none⟩) (List.replicate n 0) :=
 own_new _ _ _ _ (by simp [bv])
theorem Seal_any (kind : UInt8) (A : Option Addr) (l : List UInt8) (cap : Nat) (w : World) (hr : Rd w A l) (hl : l.length ≤ 58) :
  Calls Tryz.prog 36 #[.int .u8 (kind.toNat : Int), .slice A l.length cap] w (RetB2 w (sealL kind l) (.int .i64 0)) := by
 have hmk := fun W => mk_bytes (58 - (l.length : Int)) (by omega) (by omega) W
 have e1 : (58 - (l.length : Int)).toNat = 58 - l.length := by omega
 rw [e1] at hmk
 have e2 : ((58 - l.length : Nat) : Int) = 58 - (l.length : Int) := by omega
 clear e1 e2
 go_enter Tryz.func36, Tryz.ntmps36
 go_wp2_with fail
 have o1 : Own w.heap.size (w.alloc (.cells #[.int .u8 (kind.toNat : Int), .int .u8 (l.length : Int)] 5)) (some ⟨w.heap.size, 0, none⟩) [kind, UInt8.ofNat l.length] :=
  own_new _ _ _ _ (by simp [bv, Nat.mod_eq_of_lt (show l.length < 256 by omega)])
 have o3 := zeros_own (w.alloc (.cells #[.int .u8 (kind.toNat : Int), .int .u8 (l.length : Int)] 5)) (58 - l.length) 5
 simp only [World.size_alloc] at o3
 have hz : (List.replicate (58 - l.length) (0 : UInt8)).length = 58 - l.length := by simp
 have hc := fun t W g hg h1 h2 h3 => Cat3 (some ⟨w.heap.size, 0, none⟩) A (some ⟨w.heap.size + 1, 0, none⟩) [kind, UInt8.ofNat l.length] l (List.replicate (58 - l.length) 0) 2 cap (58 - l.length) t W g hg h1 h2 h3
  (by simp; omega) _ rfl
 rw [hz] at hc
 refine (hc _ _ _ (by simp) (o1.rd.non ((Chg.refl _ _).alloc _)) (hr.non (((Chg.refl _ _).alloc _).alloc _)) o3.rd).mono ?_
 clear hc o1 o3 hz hmk
 rintro e w1 h1
 have h2 := h1.from (((Chg.refl Non w).alloc _).alloc _)
 clear h1
 have hlen : ([kind, UInt8.ofNat l.length] ++ l ++ List.replicate (58 - l.length) 0).length = 60 := by simp; omega
 have hs : crcPut ([kind, UInt8.ofNat l.length] ++ l ++ List.replicate (58 - l.length) 0) = sealL kind l := rfl
 generalize [kind, UInt8.ofNat l.length] ++ l ++ List.replicate (58 - l.length) 0 = m at *
 obtain ⟨A1, c1, rfl, hc1, hm1, ho1, hg1⟩ := h2
 have HS := Lh hs
 clear hs
 have hlen' : m.length ≤ 60 := by omega
 have HL := Lh hlen
 clear hlen
 go_wp2_with fail
 refine (crcPut_any A1 m c1 w1 ho1.rd (by omega)).mono ?_
 rintro e w2 ⟨A2, c2, rfl, hc2, hm2, ho2, hg2⟩
 go_wp2
 go_ret2
 rw [← HS.out]
 exact ⟨A2, c2, rfl, hc2, hm2, ho2.mono hg1.size, hg1.then_non hg2⟩
theorem size_any (A : Option Addr) (l : List UInt8) (cap : Nat) (w : World) (hr : Rd w A l) (hl : 2 ≤ l.length) (hm : l.length ≤ 64) :
  Calls Tryz.prog 169 #[.slice A l.length cap] w fun e w' => e = .returned (.int .i64 (sizeL l : Nat)) ∧ w = w' := by
 obtain ⟨b, o, rfl, hb, hc⟩ := hr.at_ (by omega)
 have h1 := hc 1 (by omega)
 have hs : (l[1]'(by omega)).toNat = sizeL l := by simp [sizeL, List.getD, List.getElem?_eq_getElem (show 1 < l.length by omega)]
 rw [hs] at h1
 have hlt : sizeL l < 256 := by rw [← hs]; exact UInt8.toNat_lt _
 clear hc hs
 go_enter Tryz.func169, Tryz.ntmps169
 go_wp2
 go_ret
 exact ⟨rfl, rfl⟩
theorem whole1 (p : Nat) (A : Option Addr) (l : List UInt8) (cap : Nat) (w : World) (hp : w.cell? ⟨p, 0, none⟩ = some (.slice A l.length cap)) :
  Calls Tryz.prog 212 #[.pointer (some ⟨p, 0, none⟩)] w fun e w' => e = .returned (.bool (decide (l.length = 64))) ∧ w = w' := by
 by_cases h : l.length = 64
 ·have hd : ((l.length : Int) == 64) = true := by simp; omega
  rw [decide_eq_true h]
  clear h
  go_enter Tryz.func212, Tryz.ntmps212
  go_wp2
  go_ret
  exact ⟨rfl, rfl⟩
 ·have hd : ((l.length : Int) == 64) = false := by simp; omega
  rw [decide_eq_false h]
  clear h
  go_enter Tryz.func212, Tryz.ntmps212
  go_wp2
  go_ret
  exact ⟨rfl, rfl⟩
theorem whole2 (p : Nat) (A : Option Addr) (l : List UInt8) (cap : Nat) (w : World) (hp : w.cell? ⟨p, 0, none⟩ = some (.slice A l.length cap)) (hr : Rd w A l) (h64 : 64 ≤ l.length) (hl : l.length ≤ 64)
  (hcap : l.length ≤ cap) (hm : cap ≤ maxLen) :
  Calls Tryz.prog 213 #[.pointer (some ⟨p, 0, none⟩)] w fun e w' => e = .returned (.bool (crcOk l)) ∧ Chg Non w w' := by
 go_enter Tryz.func213, Tryz.ntmps213
 go_wp2_with fail
 refine (Check_any A l cap w hr (by omega) (by omega) hcap hm).mono ?_
 rintro e w1 ⟨⟨v, rfl⟩, hg⟩
 go_wp2
 go_ret
 exact ⟨rfl, hg⟩
theorem whole3 (p : Nat) (A : Option Addr) (l : List UInt8) (cap : Nat) (w : World) (hp : w.cell? ⟨p, 0, none⟩ = some (.slice A l.length cap)) (hr : Rd w A l) (h64 : 64 ≤ l.length) (hl : l.length ≤ 64) :
  Calls Tryz.prog 215 #[.pointer (some ⟨p, 0, none⟩)] w fun e w' => e = .returned (.bool (decide (sizeL l ≤ 58))) ∧ w = w' := by
 have e : decide (sizeL l ≤ 58) = decide ((sizeL l : Int) ≤ 58) := by simp; omega
 rw [e]
 clear e
 go_enter Tryz.func215, Tryz.ntmps215
 go_wp2_with fail
 refine (size_any A l cap w hr (by omega) hl).mono ?_
 rintro e w1 ⟨rfl, rfl⟩
 go_wp2
 go_ret
 exact ⟨rfl, rfl⟩
theorem whole4 (p : Nat) (A : Option Addr) (l : List UInt8) (cap : Nat) (w : World) (hp : w.cell? ⟨p, 0, none⟩ = some (.slice A l.length cap)) (hr : Rd w A l) (h64 : 64 ≤ l.length) (hl : l.length ≤ 64)
  (hcap : l.length ≤ cap) (hm : cap ≤ maxLen) (h58 : sizeL l ≤ 58) :
  Calls Tryz.prog 216 #[.pointer (some ⟨p, 0, none⟩)] w fun e w' => e = .returned (.bool (decide ((l.drop (2 + sizeL l)).take (60 - (2 + sizeL l)) = List.replicate (60 - (2 + sizeL l)) 0))) ∧ Chg Non w w' := by
 have hs := fun W h => size_any A l cap W h (by omega) hl
 obtain ⟨z, hz⟩ : ∃ z, sizeL l = z := ⟨_, rfl⟩
 rw [hz] at hs h58 ⊢
 unfold maxLen at hm
 clear hz
 obtain ⟨b, o, rfl, hb, hcell⟩ := hr.at_ (by omega)
 clear hcell
 have i1 : IntKind.i64.wrap (2 + (z : Int)) = 2 + (z : Int) := IntWalk.i64_in _ (by omega)
 have i2 : (0 : Int) ≤ 2 + (z : Int) := by omega
 have i3 : (2 + (z : Int)).toNat = 2 + z := by omega
 have hmk := fun W => mk_bytes ((60 - (2 + z) : Nat) : Int) (by omega) (by omega) W
 simp only [Int.toNat_natCast] at hmk
 have hS := fun B d W h k => Same_any (some ⟨b, o + (2 + z), none⟩) B ((l.drop (2 + z)).take (60 - (2 + z))) (List.replicate (60 - (2 + z)) 0) (cap - (2 + z)) d W h k
 have hl1 : ((l.drop (2 + z)).take (60 - (2 + z))).length = 60 - (2 + z) := by rw [List.length_take, List.length_drop]; omega
 rw [hl1, List.length_replicate] at hS
 clear hl1
 go_enter Tryz.func216, Tryz.ntmps216
 go_wp2_with fail
 go_quiet ((go_at_call 169; exact quiet_left (hs _ hr)))
 go_wp2_with fail
 refine (hS _ _ _ (by exact (((hr.drop (2 + z)).take (60 - (2 + z))).drewN nq).non ((Chg.refl _ _).alloc _)) (by exact (zeros_own (w.drewN nq) (60 - (2 + z)) 5).rd)).mono ?_
 rintro e w2 ⟨rfl, rfl⟩
 go_wp2
 go_ret
 exact ⟨rfl, ((Chg.refl _ _).drewN nq).alloc _⟩
theorem whole_any (A : Option Addr) (l : List UInt8) (cap : Nat) (w : World) (hr : Rd w A l) (h64 : 64 ≤ l.length) (hl : l.length ≤ 64) (hcap : l.length ≤ cap) (hm : cap ≤ maxLen) :
  Calls Tryz.prog 196 #[.slice A l.length cap] w fun e w' => e = .returned (.bool (wholeL l)) ∧ Chg Non w w' := by
 have x0 : ∀ (f1 f2 f3 f4 : Value) (W : World), (Instr.index 263 (.agg #[f1, f2, f3, f4]) (.int .i64 0)).run Tryz.prog W = .ok f1 W := fun _ _ _ _ _ => by kernel_rfl
 have x1 : ∀ (f1 f2 f3 f4 : Value) (W : World), (Instr.index 263 (.agg #[f1, f2, f3, f4]) (.int .i64 1)).run Tryz.prog W = .ok f2 W := fun _ _ _ _ _ => by kernel_rfl
 have x2 : ∀ (f1 f2 f3 f4 : Value) (W : World), (Instr.index 263 (.agg #[f1, f2, f3, f4]) (.int .i64 2)).run Tryz.prog W = .ok f3 W := fun _ _ _ _ _ => by kernel_rfl
 have x3 : ∀ (f1 f2 f3 f4 : Value) (W : World), (Instr.index 263 (.agg #[f1, f2, f3, f4]) (.int .i64 3)).run Tryz.prog W = .ok f4 W := fun _ _ _ _ _ => by kernel_rfl
 have hp0 : ∀ o, ((w.alloc (.cells #[.slice A l.length cap] 29)).alloc o).cell? ⟨w.heap.size, 0, none⟩ = some (.slice A l.length cap) := fun o => by
  simp only [World.cell?]; rw [heap_alloc2_old]; rfl
 have HP := Lh hp0
 clear hp0
 have hW : wholeL l = (crcOk l && (decide (sizeL l ≤ 58) && decide ((l.drop (2 + sizeL l)).take (60 - (2 + sizeL l)) = List.replicate (60 - (2 + sizeL l)) 0))) := by
  unfold wholeL
  rw [decide_eq_true (show l.length = 64 by omega)]
  rfl
 have HW := Lh hW
 clear hW
 have h64d : decide (l.length = 64) = true := decide_eq_true (by omega)
 have H64 := Lh h64d
 clear h64d
 have w1 := fun W h => whole1 w.heap.size A l cap W h
 rw [H64.out] at w1
 have w2 := fun W h k => whole2 w.heap.size A l cap W h k h64 hl hcap hm
 have w3 := fun W h k => whole3 w.heap.size A l cap W h k h64 hl
 have w4 := fun W h k z => whole4 w.heap.size A l cap W h k h64 hl hcap hm z
 have hsz : ∀ o, ((w.alloc (.cells #[.slice A l.length cap] 29)).alloc o).heap.size = w.heap.size + 1 + 1 := fun o => by simp
 have HSz := Lh hsz
 clear hsz
 obtain ⟨zb, hz⟩ : ∃ zb, decide ((l.drop (2 + sizeL l)).take (60 - (2 + sizeL l)) = List.replicate (60 - (2 + sizeL l)) 0) = zb := ⟨_, rfl⟩
 rw [hz] at w4 HW
 clear hz
 have hs3 : decide (sizeL l ≤ 58) = true ∨ decide (sizeL l ≤ 58) = false := by cases decide (sizeL l ≤ 58) <;> simp
 have hs4 : decide (sizeL l ≤ 58) = true → sizeL l ≤ 58 := fun h => of_decide_eq_true h
 obtain ⟨sb, hs⟩ : ∃ sb, decide (sizeL l ≤ 58) = sb := ⟨_, rfl⟩
 rw [hs] at w3 HW hs3 hs4
 clear hs
 obtain ⟨cb, hc⟩ : ∃ cb, crcOk l = cb := ⟨_, rfl⟩
 rw [hc] at w2 HW
 clear hc
 rw [HW.out]
 have W1 := Lh w1
 have W2 := Lh w2
 have W3 := Lh w3
 have W4 := Lh w4
 clear w1 w2 w3 w4
 cases cb with
 | false =>
  go_enter Tryz.func196, Tryz.ntmps196
  go_wp2_with fail
  refine wp_loop_rounds 5 ?_
  rw [rounds_succ]
  go_wp2_with fail
  refine (W1.out _ (HP.out _)).mono ?_
  rintro e w' ⟨rfl, rfl⟩
  go_wp2
  rw [rounds_succ]
  go_wp2_with fail
  refine (W2.out _ (HP.out _) (hr.non (((Chg.refl _ _).alloc _).alloc _))).mono ?_
  rintro e w' ⟨rfl, hg⟩
  go_wp2
  go_ret
  exact ⟨rfl, (((Chg.refl _ _).alloc _).alloc _).then_non hg⟩
 | true =>
  rcases hs3 with rfl | rfl
  ·have hz58 := hs4 rfl
   clear hs4
   cases zb with
   | true =>
    go_enter Tryz.func196, Tryz.ntmps196
    go_wp2_with fail
    refine wp_loop_rounds 5 ?_
    rw [rounds_succ]
    go_wp2_with fail
    refine (W1.out _ (HP.out _)).mono ?_
    rintro e w' ⟨rfl, rfl⟩
    go_wp2
    rw [rounds_succ]
    go_wp2_with fail
    refine (W2.out _ (HP.out _) (hr.non (((Chg.refl _ _).alloc _).alloc _))).mono ?_
    rintro e w' ⟨rfl, hg⟩
    have hgw := (((Chg.refl Non w).alloc (.cells #[.slice A l.length cap] 29)).alloc _).then_non hg
    have hcw := hg.cell_some (HP.out _) (fun e => e)
    clear hg
    go_wp2
    rw [rounds_succ]
    go_wp2_with fail
    refine (W3.out _ hcw (hr.non hgw)).mono ?_
    rintro e w'' ⟨rfl, rfl⟩
    go_wp2
    rw [rounds_succ]
    go_wp2_with fail
    refine (W4.out _ hcw (hr.non hgw) hz58).mono ?_
    rintro e w2 ⟨rfl, hg2⟩
    go_wp2
    rw [rounds_succ]
    go_wp2
    go_ret
    exact ⟨rfl, hgw.then_non hg2⟩
   | false =>
    go_enter Tryz.func196, Tryz.ntmps196
    go_wp2_with fail
    refine wp_loop_rounds 5 ?_
    rw [rounds_succ]
    go_wp2_with fail
    refine (W1.out _ (HP.out _)).mono ?_
    rintro e w' ⟨rfl, rfl⟩
    go_wp2
    rw [rounds_succ]
    go_wp2_with fail
    refine (W2.out _ (HP.out _) (hr.non (((Chg.refl _ _).alloc _).alloc _))).mono ?_
    rintro e w' ⟨rfl, hg⟩
    have hgw := (((Chg.refl Non w).alloc (.cells #[.slice A l.length cap] 29)).alloc _).then_non hg
    have hcw := hg.cell_some (HP.out _) (fun e => e)
    clear hg
    go_wp2
    rw [rounds_succ]
    go_wp2_with fail
    refine (W3.out _ hcw (hr.non hgw)).mono ?_
    rintro e w'' ⟨rfl, rfl⟩
    go_wp2
    rw [rounds_succ]
    go_wp2_with fail
    refine (W4.out _ hcw (hr.non hgw) hz58).mono ?_
    rintro e w2 ⟨rfl, hg2⟩
    go_wp2
    go_ret
    exact ⟨rfl, hgw.then_non hg2⟩
  ·clear hs4
   go_enter Tryz.func196, Tryz.ntmps196
   go_wp2_with fail
   refine wp_loop_rounds 5 ?_
   rw [rounds_succ]
   go_wp2_with fail
   refine (W1.out _ (HP.out _)).mono ?_
   rintro e w' ⟨rfl, rfl⟩
   go_wp2
   rw [rounds_succ]
   go_wp2_with fail
   refine (W2.out _ (HP.out _) (hr.non (((Chg.refl _ _).alloc _).alloc _))).mono ?_
   rintro e w' ⟨rfl, hg⟩
   have hgw := (((Chg.refl Non w).alloc (.cells #[.slice A l.length cap] 29)).alloc _).then_non hg
   have hcw := hg.cell_some (HP.out _) (fun e => e)
   clear hg
   go_wp2
   rw [rounds_succ]
   go_wp2_with fail
   refine (W3.out _ hcw (hr.non hgw)).mono ?_
   rintro e w'' ⟨rfl, rfl⟩
   go_wp2
   go_ret
   exact ⟨rfl, hgw⟩
end
section
open Go.RowKit
def openL (kind : UInt8) (s : List UInt8) : Option (List UInt8) := if wholeL s = true ∧ s.getD 0 0 = kind then some ((s.drop 2).take (sizeL s)) else none
theorem wholeL_size {s : List UInt8} (h : wholeL s = true) : sizeL s ≤ 58 := by
 unfold wholeL at h
 simp only [Bool.and_eq_true, decide_eq_true_eq] at h
 exact h.2.2.1
theorem Kind_any (A : Option Addr) (l : List UInt8) (cap : Nat) (w : World) (hr : Rd w A l) (h64 : 64 ≤ l.length) (hl : l.length ≤ 64) (hcap : l.length ≤ cap) (hm : cap ≤ maxLen) :
  Calls Tryz.prog 168 #[.slice A l.length cap] w fun e w' => e = .returned (.tuple #[.int .u8 (if wholeL l then ((l.getD 0 0).toNat : Int) else 0), .bool (wholeL l)]) ∧ Chg Non w w' := by
 have hw := fun W h => whole_any A l cap W h h64 hl hcap hm
 have HW := Lh hw
 clear hw
 obtain ⟨b, o, rfl, hb, hc⟩ := hr.at_ (by omega)
 have h0 := hc 0 (by omega)
 have hs : (l[0]'(by omega)).toNat = (l.getD 0 0).toNat := by simp [List.getD, List.getElem?_eq_getElem (show 0 < l.length by omega)]
 rw [hs, Nat.add_zero] at h0
 obtain ⟨x, hx⟩ : ∃ x, (l.getD 0 0) = x := ⟨_, rfl⟩
 rw [hx] at h0 ⊢
 clear hc hs hx
 obtain ⟨z, hz⟩ : ∃ z, wholeL l = z := ⟨_, rfl⟩
 rw [hz] at HW ⊢
 clear hz
 cases z with
 | false =>
  go_enter Tryz.func168, Tryz.ntmps168
  go_wp2_with fail
  refine (HW.out w hr).mono ?_
  rintro e w1 ⟨rfl, hg⟩
  go_wp2
  go_ret2
  exact ⟨rfl, hg⟩
 | true =>
  go_enter Tryz.func168, Tryz.ntmps168
  go_wp2_with fail
  refine (HW.out w hr).mono ?_
  rintro e w1 ⟨rfl, hg⟩
  have h1 := hg.cell_some h0 (fun e => e)
  go_wp2
  go_ret2
  exact ⟨rfl, hg⟩
theorem Open_some (kind : UInt8) (A : Option Addr) (l m : List UInt8) (cap : Nat) (w : World) (hr : Rd w A l) (h64 : 64 ≤ l.length) (hl : l.length ≤ 64) (hcap : l.length ≤ cap) (hm : cap ≤ maxLen) (ho : openL kind l = some m) :
  Calls Tryz.prog 140 #[.int .u8 (kind.toNat : Int), .slice A l.length cap] w (RetB2 w m (.int .i64 0)) := by
 have hk := fun W h => Kind_any A l cap W h h64 hl hcap hm
 unfold openL at ho
 by_cases hq : wholeL l = true ∧ l.getD 0 0 = kind
 ·rw [if_pos hq] at ho
  obtain ⟨hq1, hq2⟩ := hq
  injection ho with ho
  have h58 := wholeL_size hq1
  simp only [hq1, if_true, hq2] at hk
  have HK := Lh hk
  have hsz := fun W h => size_any A l cap W h (by omega) hl
  have hml : m.length = sizeL l := by rw [← ho, List.length_take, List.length_drop]; omega
  obtain ⟨z, hz⟩ : ∃ z, sizeL l = z := ⟨_, rfl⟩
  rw [hz] at hsz h58 ho hml
  have HZ := Lh hsz
  clear hk hsz hz hq1 hq2
  subst hml
  have HO := Lh ho
  clear ho
  obtain ⟨b, o, rfl, hb, hc⟩ := hr.at_ (by omega)
  clear hc
  unfold maxLen at hm
  have hr2 : Rd w (some ⟨b, o + 2, none⟩) m := by
   have := (hr.drop 2).take m.length
   rw [HO.out] at this
   exact this
  have h58' : (m.length : Int) ≤ 58 := by omega
  have hkk := kind.toNat_lt
  have hkx : (((kind.toNat : Int)) != (kind.toNat : Int)) = false := by simp
  go_enter Tryz.func140, Tryz.ntmps140
  go_wp2_with fail
  refine (HK.out w hr).mono ?_
  rintro e w1 ⟨rfl, hg⟩
  go_wp2_with fail
  refine (HZ.out w1 (hr.non hg)).mono ?_
  rintro e w2 ⟨rfl, rfl⟩
  go_wp2_with fail
  refine (Cat1 (some ⟨b, o + 2, none⟩) m (cap - 2) _ w1 _ rfl (hr2.non hg) (by omega)).mono ?_
  rintro e w3 ⟨A3, c3, rfl, hc3, hm3, ho3, hg3⟩
  go_wp2
  go_ret2
  exact ⟨A3, c3, rfl, hc3, hm3, ho3.mono hg.size, hg.then_non hg3⟩
 ·rw [if_neg hq] at ho
  cases ho
theorem Open_none (kind : UInt8) (A : Option Addr) (l : List UInt8) (cap : Nat) (w : World) (hr : Rd w A l) (h64 : 64 ≤ l.length) (hl : l.length ≤ 64) (hcap : l.length ≤ cap) (hm : cap ≤ maxLen) (ho : openL kind l = none) :
  Calls Tryz.prog 140 #[.int .u8 (kind.toNat : Int), .slice A l.length cap] w fun e w' => e = .returned (.tuple #[.slice none 0 0, .int .i64 70]) ∧ Chg Non w w' := by
 have hk := fun W h => Kind_any A l cap W h h64 hl hcap hm
 unfold openL at ho
 cases hz : wholeL l with
 | false =>
  rw [hz] at hk
  have HK := Lh hk
  clear hk hz ho
  go_enter Tryz.func140, Tryz.ntmps140
  go_wp2_with fail
  refine (HK.out w hr).mono ?_
  rintro e w1 ⟨rfl, hg⟩
  go_wp2
  go_ret2
  exact ⟨rfl, hg⟩
 | true =>
  rw [hz] at hk ho
  have hne : l.getD 0 0 ≠ kind := by
   intro h
   simp only [h, and_self, if_true] at ho
   cases ho
  obtain ⟨x, hx⟩ : ∃ x, l.getD 0 0 = x := ⟨_, rfl⟩
  rw [hx] at hk hne
  have hd : ((x.toNat : Int) != (kind.toNat : Int)) = true := by
   rw [bne_iff_ne]
   intro h
   exact hne (UInt8.toNat_inj.1 (by omega))
  simp only [if_true] at hk
  have HK := Lh hk
  clear hk hz ho hx hne
  go_enter Tryz.func140, Tryz.ntmps140
  go_wp2_with fail
  refine (HK.out w hr).mono ?_
  rintro e w1 ⟨rfl, hg⟩
  go_wp2
  go_ret2
  exact ⟨rfl, hg⟩
end
section
open Go.RowKit
theorem flat_at {sec : List (List UInt8)} (h : ∀ s ∈ sec, s.length = 64) (i : Nat) (hi : i < sec.length) (j : Nat) (hj : j < 64) : sec.flatten[i * 64 + j]? = (sec[i]'hi)[j]? := by
 induction sec generalizing i with
 | nil => simp at hi
 | cons s r ih =>
  have hs := h s (List.mem_cons_self)
  rw [List.flatten_cons]
  cases i with
  | zero => rw [List.getElem?_append_left (by omega)]; simp
  | succ i =>
   rw [List.getElem?_append_right (by omega), hs]
   have := ih (fun t ht => h t (List.mem_cons_of_mem _ ht)) i (by simpa using hi)
   rw [show (i + 1) * 64 + j - 64 = i * 64 + j from by omega, this]
   simp
theorem flat_len {sec : List (List UInt8)} (h : ∀ s ∈ sec, s.length = 64) : sec.flatten.length = sec.length * 64 := by
 induction sec with
 | nil => rfl
 | cons s r ih => rw [List.flatten_cons, List.length_append, h s List.mem_cons_self, ih (fun t ht => h t (List.mem_cons_of_mem _ ht)), List.length_cons]; omega
theorem sec_range {w : World} {ps : Nat} {t : TypeId} {sec : List (List UInt8)} (hb : w.heap[ps]? = some (.cells (sec.flatten.map bv).toArray t (0, 0))) (h : ∀ s ∈ sec, s.length = 64) (i : Nat) (hi : i < sec.length) :
  w.rangeAt ps (i * 64) ((sec[i]'hi).map bv) := by
 intro j v hv
 rw [List.getElem?_map] at hv
 obtain ⟨x, hx, rfl⟩ := Option.map_eq_some_iff.1 hv
 have hl := h _ (List.getElem_mem hi)
 have hj : j < 64 := by rw [← hl]; exact (List.getElem?_eq_some_iff.1 hx).1
 rw [cell_of_row _ _ _ _ _ _ hb]
 simp only [List.getElem?_toArray, List.getElem?_map, flat_at h i hi j hj, hx]
 rfl
theorem secV_size (l : List UInt8) (h : l.length = 64) : (l.map bv).toArray.size = 64 := by simp [h]
theorem secV_one (l : List UInt8) : ((l.map bv).toArray).all (·.oneCell') = true := all_oneCell_toArray (bv_one l)
theorem zSec_one : zSec.all (·.oneCell') = true := by
 have : zSec = ((List.replicate 64 (0 : UInt8)).map bv).toArray := rfl
 rw [this]; exact secV_one _
theorem info_sec : (Tryz.prog.info? 113).map (·.size) = some 64 := by kernel_rfl
def secA (l : List UInt8) : Array Value := (l.map bv).toArray
theorem secA_size (l : List UInt8) (h : l.length = 64) : (secA l).size = 64 := secV_size l h
theorem secA_one (l : List UInt8) : (secA l).all (·.oneCell') = true := secV_one l
theorem wpList_load_sec {w : World} {ops : Array Oper} {rest : List Oper} {op : Oper} {a : Act} {Q : Exit → Act → World → Prop} (hgd : op.guard = none) (x : Operand) (ho : op.op = .load 113 x)
  (b o : Nat) (hx : a.eval x = .pointer (some ⟨b, o, none⟩)) (l : List UInt8) (hc : w.rangeAt b o (l.map bv)) (hl : l.length = 64)
  (h : wpList Tryz.prog ops Q rest (a.put op.dst (.agg (secA l))) w) : wpList Tryz.prog ops Q (op :: rest) a w :=
 wpList_load_mid hgd 113 x ho b o hx (l.map bv) _ hc Tryz.underlying113 rfl (by rw [List.length_map, hl]; exact info_sec) h
theorem own_of_block {W : World} {B g : Nat} {t : TypeId} {l : List UInt8} (h : W.heap[g]? = some (.cells (l.map bv).toArray t (0, 0))) (hB : B ≤ g) : Own B W (some ⟨g, 0, none⟩) l := by
 intro i x hx
 refine ⟨g, 0, rfl, hB, ?_, frozen_of_row _ _ _ _ _ h⟩
 rw [cell_of_row _ _ _ _ _ _ h, Nat.zero_add]
 simp [hx, bv]
theorem Read_any (pd ps pm : Nat) (D : Dk) (i : Nat) (w : World) (h : IsD w pd ps pm D) (hup : D.up = true) (hi : i < D.sec.length) :
  Calls Tryz.prog 17 #[.pointer (some ⟨pd, 0, none⟩), .int .i64 (i : Int)] w (RetB2 w (D.at_ i) (.int .i64 0)) := by
 obtain ⟨A, c, _, h1, h2, _⟩ := h.cells
 have hok := h.1
 have hrd := ready_ok pd ps pm D w h
 have hr1 : D.ready = 0 := by unfold Dk.ready; rw [hup]; rfl
 rw [hr1] at hrd
 have hhas := has_ok pd ps pm D i w h
 rw [decide_eq_true (show (0 : Int) ≤ i ∧ (i : Int) < D.sec.length from ⟨by omega, by omega⟩)] at hhas
 have HR := Lh hrd
 have HH := Lh hhas
 clear hrd hhas hr1
 have hlen : D.sec.length ≤ 1024 := hok.most
 have hlk := run_lookup h.2.choose_spec.choose_spec.2.2.1 (fun p hp => by have := (hok.keys p hp).1; omega) i (by omega) w rfl true
 have hrg := sec_range h.2.choose_spec.choose_spec.2.1 hok.secs i hi
 have hsl := hok.secs _ (List.getElem_mem hi)
 unfold Dk.at_
 have hcl : ∀ l, look D.cache i = some l → l.length = 64 := by
  intro l hl
  unfold look at hl
  obtain ⟨p, hp, rfl⟩ := Option.map_eq_some_iff.1 hl
  exact (hok.keys p (List.mem_of_find?_eq_some hp)).2
 cases hl : look D.cache i with
 | some l =>
  rw [hl] at hlk
  have hl64 := hcl l hl
  have HL := Lh hl64
  clear hcl hl64 hl
  have HG := Lh hrg
  have HS := Lh hsl
  clear hrg hsl
  simp only [Option.isSome_some, if_true, Option.getD_some] at hlk ⊢
  go_enter Tryz.func17, Tryz.ntmps17
  go_wp2_with fail
  refine HR.out.mono ?_
  rintro e w' ⟨rfl, rfl⟩
  go_wp2_with fail
  refine HH.out.mono ?_
  rintro e w' ⟨rfl, rfl⟩
  go_wp2_with (refine sel none (.store 113 (.tmp 7) (.tmp 25)) ?_; refine wpList_store_row rfl 113 (.tmp 7) (.tmp 25) rfl w.heap.size (l.map bv).toArray rfl rfl 113 _ (heap_alloc_new _ _) (by rw [secV_size l HL.out]; exact info_sec) (by rw [secV_size l HL.out]; rfl) (secV_one l) ?_)
  have hb := setRow_heap (w.alloc (.cells zSec 113)) w.heap.size _ (l.map bv).toArray _ _ (heap_alloc_new _ _)
  have hg : Chg Non w ((w.alloc (.cells zSec 113)).setRow w.heap.size (l.map bv).toArray) := ((Chg.refl _ _).alloc _).setRow (.inr (Nat.le_refl _)) _
  go_ret2
  exact ⟨some ⟨w.heap.size, 0, none⟩, 64, by rw [HL.out]; rfl, by rw [HL.out]; omega, by unfold maxLen; omega, own_of_block hb (Nat.le_refl _), hg⟩
 | none =>
  rw [hl] at hlk
  clear hcl hl
  have HG := Lh hrg
  have HS := Lh hsl
  clear hrg hsl
  have hgd : D.sec.getD i [] = D.sec[i]'hi := by simp [List.getD, List.getElem?_eq_getElem hi]
  simp only [Option.isSome_none, if_true, Option.getD_none, hgd] at hlk ⊢
  clear hgd
  obtain ⟨s, hs⟩ : ∃ s, D.sec[i]'hi = s := ⟨_, rfl⟩
  rw [hs] at HG HS ⊢
  clear hs
  go_enter Tryz.func17, Tryz.ntmps17
  go_wp2_with fail
  refine HR.out.mono ?_
  rintro e w' ⟨rfl, rfl⟩
  go_wp2_with fail
  refine HH.out.mono ?_
  rintro e w' ⟨rfl, rfl⟩
  have hlt := h.lt
  go_wp2_with (first
    | (refine sel none (.store 113 (.tmp 7) (.tmp 25)) ?_
       refine wpList_store_rowA rfl 113 (.tmp 7) (.tmp 25) rfl w.heap.size zSec rfl rfl 113 _ (heap_alloc_new _ _) info_sec rfl zSec_one ?_
       intro W hgW hbW
       have hg1 : Chg Non w W := ((Chg.refl Non w).alloc _).then_new hgW (fun x e => by rw [e]; exact Nat.le_refl _)
       have HBW := Lh hbW
       have HGW := Lh (show W.rangeAt ps (i * 64) (s.map bv) from fun j v hv => hg1.cell_some (HG.out j v hv) (fun e => e))
       have k1 : W.cell? ⟨pd, 1, none⟩ = some (.slice (some ⟨ps, 0, none⟩) D.sec.length D.sec.length) := hg1.cell_some h1 (fun e => e)
       clear hbW hgW)
    | (refine sel (some 35) (.load 113 (.tmp 34)) ?_
       refine wpList_load_sec rfl (.tmp 34) rfl ps (i * 64) rfl s HGW.out HS.out ?_)
    | (refine sel none (.store 113 (.tmp 7) (.tmp 35)) ?_
       refine wpList_store_rowA rfl 113 (.tmp 7) (.tmp 35) rfl w.heap.size (secA s) rfl rfl 113 zSec HBW.out (by rw [secA_size _ HS.out]; exact info_sec) (by rw [secA_size _ HS.out]; rfl) (secA_one _) ?_
       intro W2 hgW2 hbW2
       have hg2 : Chg Non w W2 := hg1.then_new hgW2 (fun x e => by rw [e]; exact Nat.le_refl _)
       have HB2 := Lh hbW2
       clear hbW2 hgW2))
  go_ret2
  exact ⟨some ⟨w.heap.size, 0, none⟩, 64, by rw [HS.out]; rfl, by rw [HS.out]; omega, by unfold maxLen; omega, own_of_block HB2.out (Nat.le_refl _), hg2⟩
theorem Read_down (pd ps pm : Nat) (D : Dk) (i : Int) (w : World) (h : IsD w pd ps pm D) (hup : D.up = false) :
  Calls Tryz.prog 17 #[.pointer (some ⟨pd, 0, none⟩), .int .i64 i] w fun e w' => e = .returned (.tuple #[.slice none 0 0, .int .i64 60]) ∧ w = w' := by
 have hrd := ready_ok pd ps pm D w h
 have hr1 : D.ready = 60 := by unfold Dk.ready; rw [hup]; rfl
 rw [hr1] at hrd
 have HR := Lh hrd
 clear hrd hr1
 go_enter Tryz.func17, Tryz.ntmps17
 go_wp2_with fail
 refine HR.out.mono ?_
 rintro e w' ⟨rfl, rfl⟩
 go_wp2
 go_ret2
 exact ⟨rfl, rfl⟩
theorem Read_no_sector (pd ps pm : Nat) (D : Dk) (i : Int) (w : World) (h : IsD w pd ps pm D) (hup : D.up = true) (hi : ¬ (0 ≤ i ∧ i < D.sec.length)) :
  Calls Tryz.prog 17 #[.pointer (some ⟨pd, 0, none⟩), .int .i64 i] w fun e w' => e = .returned (.tuple #[.slice none 0 0, .int .i64 61]) ∧ w = w' := by
 have hrd := ready_ok pd ps pm D w h
 have hr1 : D.ready = 0 := by unfold Dk.ready; rw [hup]; rfl
 rw [hr1] at hrd
 have hh := has_ok pd ps pm D i w h
 rw [decide_eq_false hi] at hh
 have HR := Lh hrd
 have HH := Lh hh
 clear hrd hr1 hh hi
 go_enter Tryz.func17, Tryz.ntmps17
 go_wp2_with fail
 refine HR.out.mono ?_
 rintro e w' ⟨rfl, rfl⟩
 go_wp2_with fail
 refine HH.out.mono ?_
 rintro e w' ⟨rfl, rfl⟩
 go_wp2
 go_ret2
 exact ⟨rfl, rfl⟩
theorem info_sec3 : (Tryz.prog.info? 113).map (fun i => (i.zero, i.size, i.bytes)) = some (some (.agg zSec), 64, 64) := by kernel_rfl
theorem madeSec (n : Nat) : madeCells zSec (n * 64) = ((List.replicate n (List.replicate 64 (0 : UInt8))).flatten.map bv).toArray := by
 apply Array.ext_getElem?
 intro i
 by_cases hi : i < n * 64
 ·have hz : ∀ k, k < 64 → zSec[k]? = some (.int .u8 0) := by intro k hk; simp [zSec, hk]
  have h1 : (madeCells zSec (n * 64))[i]? = some (.int .u8 0) := by
   simp only [madeCells, Array.getElem?_map]
   rw [Array.getElem?_range, if_pos hi, Option.map_some, getElem!_def]
   have := hz (i % 64) (Nat.mod_lt _ (by omega))
   have hs : zSec.size = 64 := rfl
   rw [hs, this]
  have h2 : (List.replicate n (List.replicate 64 (0 : UInt8))).flatten[i]? = some 0 := by
   rw [List.flatten_replicate_replicate]
   simp [hi]
  rw [h1, List.getElem?_toArray, List.getElem?_map, h2]
  rfl
 ·have h1 : (madeCells zSec (n * 64))[i]? = none := Array.getElem?_eq_none (by rw [size_madeCells]; omega)
  have h2 : ((List.replicate n (List.replicate 64 (0 : UInt8))).flatten.map bv).toArray[i]? = none := Array.getElem?_eq_none (by
    rw [List.flatten_replicate_replicate]; simp; omega)
  rw [h1, h2]
theorem new_ok (n : Nat) (h1 : n ≤ 1024) : (Dk.new n).Ok :=
 ⟨fun s hs => by rw [(List.mem_replicate.1 hs).2, List.length_replicate], fun p hp => (by cases hp), List.nodup_nil, (by simpa [Dk.new] using h1), Int.le_refl _⟩
theorem New_ok (n : Nat) (w : World) (h1 : 1 ≤ n) (h2 : n ≤ 1024) :
  Calls Tryz.prog 9 #[.int .i64 (n : Int)] w fun e w' => ∃ pd ps pm, e = .returned (.tuple #[.pointer (some ⟨pd, 0, none⟩), .int .i64 0]) ∧ IsD w' pd ps pm (Dk.new n) ∧ w.heap.size ≤ pd ∧ w.heap.size ≤ ps ∧ w.heap.size ≤ pm ∧ Chg Non w w' := by
 obtain ⟨i0, hi0, hz0, hs0, hb0⟩ := info_parts info_sec3
 have hmk : ∀ W : World, (Instr.makeSlice 37 (.int .i64 (n : Int)) (.int .i64 (n : Int))).run Tryz.prog W = .ok (.slice (some ⟨W.heap.size, 0, none⟩) n n) (W.alloc (.cells (((Dk.new n).sec.flatten.map bv).toArray) 113)) := fun W => by
  have h := run_make (P := Tryz.prog) W 37 113 i0 (.agg zSec) Tryz.underlying37 hi0 hz0 .i64 .i64 n n (by omega) (Int.le_refl _) (by rw [hb0]; omega) (by omega)
  rw [h, hs0]
  show Result.ok _ (W.alloc (.cells (madeCells zSec (n * 64)) _)) = _
  rw [madeSec]
  rfl
 have hmm := @run_makeMap Tryz.prog
 obtain ⟨X, hX⟩ : ∃ X, ((Dk.new n).sec.flatten.map bv).toArray = X := ⟨_, rfl⟩
 rw [hX] at hmk
 have HX := Lh hX
 clear hX hi0 hz0 hs0 hb0
 go_enter Tryz.func9, Tryz.ntmps9
 go_wp2
 go_ret2
 have a1 := fun o o' o'' => heap_alloc2_new ((w.alloc o)) o' o''
 have e1 : ∀ o : Obj, (w.alloc o).heap.size = w.heap.size + 1 := fun o => by simp
 have e2 : ∀ o o' : Obj, ((w.alloc o).alloc o').heap.size = w.heap.size + 1 + 1 := fun o o' => by simp
 have b3 : ∀ o o' o'' : Obj, (((w.alloc o).alloc o').alloc o'').heap[w.heap.size + 1 + 1]? = some o'' := fun o o' o'' => by
  have := heap_alloc_new ((w.alloc o).alloc o') o''
  rw [e2] at this
  exact this
 have b2 : ∀ o o' o'' : Obj, (((w.alloc o).alloc o').alloc o'').heap[w.heap.size + 1]? = some o' := fun o o' o'' => by
  rw [Below.heap_alloc ((w.alloc o).alloc o') o'' _ (by rw [e2]; omega)]
  exact heap_alloc2_new w o o'
 have b1 : ∀ o o' o'' : Obj, (((w.alloc o).alloc o').alloc o'').heap[w.heap.size]? = some o := fun o o' o'' => by
  rw [Below.heap_alloc ((w.alloc o).alloc o') o'' _ (by rw [e2]; omega)]
  exact heap_alloc2_old w o o'
 refine ⟨w.heap.size + 1 + 1, w.heap.size, w.heap.size + 1, rfl, ⟨new_ok n h2, none, 0, ?_, ?_, ⟨#[], 0, b2 _ _ _, ⟨by simp, by simp, by simp⟩, rfl⟩, Rd.nil _ _, (fun b o e => by cases e), Nat.le_refl _, by simp⟩, by omega, Nat.le_refl _, by omega, (((Chg.refl _ _).alloc _).alloc _).alloc _⟩
 ·rw [b3]
  simp only [dCells, Dk.new, List.length_replicate]
  rfl
 ·rw [b1, HX.out]
end
section
open Go.RowKit
structure Hole1 (p : Prop) : Prop where
 out : p
def OwnB (B : Nat) (w : World) (v : Value) (l : List UInt8) : Prop := w.ownsRow B 5 1 v l.length (l.map bv)
theorem OwnB.nil (B : Nat) (w : World) : OwnB B w (.slice none 0 0) [] := World.ownsRow_nil _ _ _ _
theorem OwnB.non {B : Nat} {w w' : World} {v : Value} {l : List UInt8} (h : OwnB B w v l) (hg : Chg Non w w') : OwnB B w' v l := own_chg h hg
theorem OwnB.slice {B : Nat} {w : World} {v : Value} {l : List UInt8} (h : OwnB B w v l) : ∃ A c, v = .slice A l.length c ∧ l.length ≤ c ∧ c ≤ maxLen ∧ Own B w A l := by
 rcases h.2 with ⟨rfl, h0⟩ | ⟨g, cap, cur, rfl, hB, hg, h1, h2, h3, h4⟩
 ·have : l = [] := List.eq_nil_of_length_eq_zero h0
  subst this
  exact ⟨none, 0, rfl, Nat.le_refl _, by simp, Own.nil _ _ _⟩
 ·refine ⟨_, cap, rfl, h1, h2, fun i x hx => ⟨g, 0, rfl, hB, ?_, frozen_of_row _ _ _ _ _ hg⟩⟩
  have := h.cells (g := g) rfl i (bv x) (by rw [List.getElem?_map, hx]; rfl)
  rw [add_plain] at this
  exact this
theorem OwnB.ret {w w' : World} {v : Value} {l : List UInt8} (h : OwnB w.heap.size w' v l) (hg : Chg Non w w') : RetB w l (.returned v) w' := by
 obtain ⟨A, c, rfl, h1, h2, h3⟩ := h.slice
 exact ⟨A, c, rfl, h1, h2, h3, hg⟩
theorem OwnB.mono {B B' : Nat} {w : World} {v : Value} {l : List UInt8} (h : OwnB B w v l) (hB : B' ≤ B) : OwnB B' w v l :=
 ⟨h.1, h.2.imp id fun ⟨g, cap, cur, h1, h2, h3⟩ => ⟨g, cap, cur, h1, Nat.le_trans hB h2, h3⟩⟩
def RetO (w : World) (l : List UInt8) (e : Ending) (w' : World) : Prop := ∃ v, e = .returned v ∧ OwnB w.heap.size w' v l ∧ Chg Non w w'
theorem RetO.retB {w w' : World} {l : List UInt8} {e : Ending} (h : RetO w l e w') : RetB w l e w' := by
 obtain ⟨v, rfl, h1, h2⟩ := h
 exact h1.ret h2
theorem wpList_snoc {ops : Array Oper} {rest : List Oper} {o : Oper} {a : Act} {w : World} {Q : Exit → Act → World → Prop} (hgd : o.guard = none) (s x : Operand)
  (ho : o.op = .call { callee := .builtin .append, args := #[s, x], argTypes := #[29, 29] })
  (B : Nat) (v : Value) (l : List UInt8) (hs : a.eval s = v) (hown : OwnB B w v l) (b : Nat) (y : UInt8) (hx : a.eval x = .slice (some ⟨b, 0, none⟩) 1 1) (hb : w.cell? ⟨b, 0, none⟩ = some (.int .u8 (y.toNat : Int)))
  (hl : l.length ≤ 140737488351232) (hB : B ≤ w.heap.size)
  (h : ∀ v2 w2, OwnB B w2 v2 (l ++ [y]) → Chg (fun k => B ≤ k) w w2 → wpList Tryz.prog ops Q rest (a.put o.dst v2) w2) : wpList Tryz.prog ops Q (o :: rest) a w := by
 obtain ⟨i0, hi0, hz0, hs0, hb0⟩ := info_parts info_u8
 refine wpList_append_lies w hgd s x 29 ho B 5 i0 _ 1 1 Tryz.underlying29 hi0 hz0 hs0 hb0 rfl (by omega) v l.length (l.map bv) hs hown ⟨b, 0, none⟩ 1 1 [bv y] hx rfl ?_ ?_ (by omega) (by unfold maxLen; omega) (by omega) hB _ rfl ?_
 ·intro j u hu
  cases j with
  | zero =>
   simp only [List.getElem?_cons_zero, Option.some.injEq] at hu
   subst hu
   rw [add_plain]
   exact hb
  | succ j => simp at hu
 ·intro u hu
  simp only [List.mem_singleton] at hu
  subst hu
  rfl
 ·intro g cap w2 h2 hgrow hat hlt
  refine h _ _ ?_ ?_
  ·unfold OwnB
   rw [List.length_append, List.map_append]
   exact h2
  ·refine (Chg.refl (fun k => B ≤ k) w).grown hgrow fun g' hg' => .inl ?_
   rcases hown.2 with ⟨rfl, _⟩ | ⟨g2, cap2, cur, rfl, hB2, _⟩
   ·simp [Value.ownBlock] at hg'
   ·obtain rfl : g2 = g' := by simpa [Value.ownBlock] using hg'
    exact hB2
theorem rCat (A1 : Option Addr) (l1 : List UInt8) (c1 : Nat) (A2 : Option Addr) (l2 : List UInt8) (c2 : Nat) (w : World) (h1 : Rd w A1 l1) (h2 : Rd w A2 l2) (hl : l1.length + l2.length ≤ 140737488351232) :
  Calls Tryz.prog 100 #[.slice A1 l1.length c1, .slice A2 l2.length c2] w (RetB w (l1 ++ l2)) := by
 have H1 := Lh h1
 have H2 := Lh h2
 clear h1 h2
 go_enter Tryz.func100, Tryz.ntmps100
 go_wp2_with fail
 go_loopw [5, 6] (fun v i wr => ∃ k : Nat, k ≤ l1.length ∧ i = .int .i64 k ∧ OwnB w.heap.size wr v (l1.take k) ∧ Chg Non w wr) (fun _ i _ => l1.length - (intOf i).toNat)
 case atStart => exact ⟨0, by omega, rfl, OwnB.nil _ _, Chg.refl _ _⟩
 case round =>
  obtain ⟨k, hk, rfl, hO, hC⟩ := hrel
  have HO := Lh hO
  have HC := Lh hC
  clear hO hC
  by_cases hlt : k < l1.length
  ·obtain ⟨b, o, rfl, _, hcell⟩ := (H1.out.non HC.out).at_ (by omega)
   have hk1 := hcell k hlt
   have hlt' : decide ((k : Int) < (l1.length : Int)) = true := by simpa using hlt
   clear hcell
   go_wp2_with (first
     | (refine sel (some 20) (.call { callee := .builtin .append, args := #[.tmp 14, .tmp 19], argTypes := #[29, 29] }) ?_
        refine Hole1.out ?_))
   refine ⟨?_⟩
   refine wpList_snoc rfl (.tmp 14) (.tmp 19) rfl w.heap.size u5 (l1.take k) rfl (HO.out.non ((Chg.refl _ _).alloc _)) wr.heap.size l1[k] rfl (by go_simp) (by simp; omega) (by have := HC.out.size; simp; omega) ?_
   intro v2 w2 hO2 hg2
   have HO2 := Lh hO2
   have HG2 := Lh ((HC.out.alloc _).then_new hg2 (fun x e => e))
   clear hO2 hg2
   go_wp2_with fail
   case roundEnd =>
    refine ⟨⟨k + 1, by omega, by simp, ?_, HG2.out⟩, by simp [intOf]; omega⟩
    rw [← List.take_append_getElem hlt]
    exact HO2.out
  ·obtain rfl : k = l1.length := by omega
   have HO1 : Hid (OwnB w.heap.size wr u5 l1) := Lh (by have := HO.out; rwa [List.take_length] at this)
   go_wp2_with fail
   clear HO
   go_loopw [5, 7] (fun v i wr => ∃ k : Nat, k ≤ l2.length ∧ i = .int .i64 k ∧ OwnB w.heap.size wr v (l1 ++ l2.take k) ∧ Chg Non w wr) (fun _ i _ => l2.length - (intOf i).toNat)
   case atStart => exact ⟨0, by omega, rfl, by rw [List.take_zero, List.append_nil]; exact HO1.out, HC.out⟩
   case round =>
    obtain ⟨k, hk, rfl, hO, hC⟩ := hrel
    have HO := Lh hO
    have HC := Lh hC
    clear hO hC
    by_cases hlt : k < l2.length
    ·obtain ⟨b, o, rfl, _, hcell⟩ := (H2.out.non HC.out).at_ (by omega)
     have hk1 := hcell k hlt
     have hlt' : decide ((k : Int) < (l2.length : Int)) = true := by simpa using hlt
     clear hcell
     go_wp2_with (first
       | (refine sel (some 33) (.call { callee := .builtin .append, args := #[.tmp 27, .tmp 32], argTypes := #[29, 29] }) ?_
          refine Hole1.out ?_))
     refine ⟨?_⟩
     refine wpList_snoc rfl (.tmp 27) (.tmp 32) rfl w.heap.size u5 (l1 ++ l2.take k) rfl (HO.out.non ((Chg.refl _ _).alloc _)) wr.heap.size l2[k] rfl (by go_simp) (by simp; omega) (by have := HC.out.size; simp; omega) ?_
     intro v2 w2 hO2 hg2
     have HO2 := Lh hO2
     have HG2 := Lh ((HC.out.alloc _).then_new hg2 (fun x e => e))
     clear hO2 hg2
     go_wp2_with fail
     case roundEnd =>
      refine ⟨⟨k + 1, by omega, by simp, ?_, HG2.out⟩, by simp [intOf]; omega⟩
      rw [← List.take_append_getElem hlt, ← List.append_assoc]
      exact HO2.out
    ·obtain rfl : k = l2.length := by omega
     have HO3 := Lh (by have := HO.out; rwa [List.take_length] at this)
     go_wp2_with fail
     go_ret
     exact HO3.out.ret HC.out
theorem rCopy (A : Option Addr) (l : List UInt8) (c : Nat) (w : World) (h : Rd w A l) (hl : l.length ≤ 140737488351232) :
  Calls Tryz.prog 54 #[.slice A l.length c] w (RetB w l) := by
 have HC := Lh (fun W (hg : Chg Non w W) => rCat none [] 0 A l c W (Rd.nil _ _) (h.non hg) (by simpa using hl))
 clear h
 go_enter Tryz.func54, Tryz.ntmps54
 go_wp2_with fail
 refine (HC.out _ (Chg.refl _ _)).mono ?_
 rintro e u ⟨A2, c2, rfl, h1, h2, h3, h4⟩
 have HR := Lh (show RetB w l (.returned (.slice A2 l.length c2)) u from ⟨A2, c2, rfl, h1, h2, h3, h4⟩)
 clear h1 h2 h3 h4
 go_wp2_with fail
 go_ret
 exact HR.out
end
section
open Go.RowKit
theorem rPutO (x n : Nat) (w : World) (hx : x < 18446744073709551616) (hn : n ≤ 1000) :
  Calls Tryz.prog 152 #[.int .u64 (x : Int), .int .i64 (n : Int)] w (RetO w (be x n)) := by
 go_enter Tryz.func152, Tryz.ntmps152
 go_wp2_with fail
 go_loopw [0, 5, 6] (fun xv v i wr => ∃ k : Nat, ∃ t : List UInt8, ∃ y : Nat, k ≤ n ∧ i = .int .i64 k ∧ xv = .int .u64 (y : Int) ∧ y < 18446744073709551616 ∧ t.length = k ∧ be x n = be y (n - k) ++ t.reverse ∧ OwnB w.heap.size wr v t ∧ Chg Non w wr) (fun _ _ i _ => n - (intOf i).toNat)
 case atStart => exact ⟨0, [], x, by omega, rfl, rfl, hx, rfl, by simp, OwnB.nil _ _, Chg.refl _ _⟩
 case round =>
  obtain ⟨k, t, y, hk, rfl, rfl, hy, htl, hbe, hO, hC⟩ := hrel
  have HO := Lh hO
  have HC := Lh hC
  have HBE := Lh hbe
  clear hO hC hbe
  by_cases hlt : k < n
  ·have hlt' : decide ((k : Int) < (n : Int)) = true := by simpa using hlt
   have hz : ((UInt8.ofNat y).toNat : Int) = (y : Int) % 256 := by rw [UInt8.toNat_ofNat']; omega
   have hq : (y : Int).tdiv 256 = ((y / 256 : Nat) : Int) := by
    rw [Int.tdiv_eq_ediv_of_nonneg (by omega)]; omega
   go_wp2_with (first
     | (refine sel (some 19) (.call { callee := .builtin .append, args := #[.tmp 14, .tmp 18], argTypes := #[29, 29] }) ?_
        refine Hole1.out ?_))
   refine ⟨?_⟩
   refine wpList_snoc rfl (.tmp 14) (.tmp 18) rfl w.heap.size u5 t rfl (HO.out.non ((Chg.refl _ _).alloc _)) wr.heap.size (UInt8.ofNat y) rfl (by rw [hz]; go_simp) (by omega) (by have := HC.out.size; simp; omega) ?_
   intro v2 w2 hO2 hg2
   have HO2 := Lh hO2
   have HG2 := Lh ((HC.out.alloc _).then_new hg2 (fun x e => e))
   clear hO2 hg2
   go_wp2_with fail
   case roundEnd =>
    refine ⟨⟨k + 1, t ++ [UInt8.ofNat y], y / 256, by omega, by simp, by simp, by omega, by simp [htl], ?_, HO2.out, HG2.out⟩, by simp [intOf]; omega⟩
    rw [HBE.out, show n - k = (n - (k + 1)) + 1 by omega, be, List.reverse_append]
    simp
  ·obtain rfl : k = n := by omega
   have hb : be x k = t.reverse := by have := HBE.out; rw [Nat.sub_self] at this; simpa [be] using this
   subst htl
   have hwl : IntKind.i64.wrap ((t.length : Int) - 1) = (t.length : Int) - 1 := Go.IntWalk.i64_in _ (by omega)
   clear HBE
   obtain ⟨A, c, rfl, hl1, hl2, ho⟩ := HO.out.slice
   have HR := Lh ho.rd
   clear ho
   go_wp2_with fail
   go_loopw [7, 8] (fun v i wr2 => ∃ j : Nat, j ≤ t.length ∧ i = .int .i64 ((j : Int) - 1) ∧ OwnB wr.heap.size wr2 v (t.drop j).reverse ∧ Chg Non wr wr2) (fun _ i _ => (intOf i + 1).toNat)
   case atStart => exact ⟨t.length, Nat.le_refl _, rfl, by rw [List.drop_length]; exact OwnB.nil _ _, Chg.refl _ _⟩
   case round =>
    obtain ⟨j, hj, rfl, hO2, hC2⟩ := hrel
    have HO2 := Lh hO2
    have HC2 := Lh hC2
    clear hO2 hC2
    cases j with
    | zero =>
     have HO3 := Lh (by have := HO2.out; rwa [List.drop_zero] at this)
     go_wp2_with fail
     go_ret
     rw [hb]
     exact ⟨_, rfl, HO3.out.mono HC.out.size, HC.out.then_non HC2.out⟩
    | succ j =>
     have hji : ((j + 1 : Nat) : Int) - 1 = (j : Int) := by omega
     rw [hji]
     obtain ⟨b, o, rfl, _, hcell⟩ := (HR.out.non HC2.out).at_ (by omega)
     have hk1 := hcell j (by omega)
     have hd : decide (0 ≤ (j : Int)) = true := by simp
     have hjl : j < t.length := by omega
     have hwj : IntKind.i64.wrap ((j : Int) - 1) = (j : Int) - 1 := Go.IntWalk.i64_in _ (by omega)
     clear hcell hji
     go_wp2_with (first
       | (refine sel (some 35) (.call { callee := .builtin .append, args := #[.tmp 29, .tmp 34], argTypes := #[29, 29] }) ?_
          refine Hole1.out ?_))
     refine ⟨?_⟩
     refine wpList_snoc rfl (.tmp 29) (.tmp 34) rfl _ u7 (t.drop (j + 1)).reverse rfl (HO2.out.non ((Chg.refl _ _).alloc _)) wr.heap.size t[j] rfl (by go_simp) (by simp; omega) (by have := HC2.out.size; simp; omega) ?_
     intro v2 w2 hO3 hg3
     have HO3 := Lh hO3
     have HG3 := Lh ((HC2.out.alloc _).then_new hg3 (fun x e => e))
     clear hO3 hg3
     go_wp2_with fail
     case roundEnd =>
      refine ⟨⟨j, by omega, rfl, ?_, HG3.out⟩, by simp [intOf]⟩
      rw [List.drop_eq_getElem_cons hjl, List.reverse_cons]
      exact HO3.out
theorem rPut (x n : Nat) (w : World) (hx : x < 18446744073709551616) (hn : n ≤ 1000) :
  Calls Tryz.prog 152 #[.int .u64 (x : Int), .int .i64 (n : Int)] w (RetB w (be x n)) := (rPutO x n w hx hn).mono fun _ _ h => h.retB
end
end Go.Proofs.YtkgnlobabknkcaaGreat
