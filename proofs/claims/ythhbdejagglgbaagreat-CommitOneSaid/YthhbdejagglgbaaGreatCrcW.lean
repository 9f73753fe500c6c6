/- Walks of package crc. -/
import Derived.Test.YthhbdejagglgbaaGreatBytes
import Derived.Test.YthhbdejagglgbaaGreatWords
import Derived.Test.YthhbdejagglgbaaGreatCrc
import Derived.Deep.MidRow
namespace Go.Proofs.YthhbdejagglgbaaGreat
open Go.RowKit
set_option linter.unusedVariables false

/-- the table behind k rounds -/
def tabA (k : Nat) : Array Value := ((List.range 16).map fun j => if j < k then .int .u32 (tw 4 j : Nat) else .int .u32 0).toArray

theorem tabA_zero : tabA 0 = #[.int .u32 0, .int .u32 0, .int .u32 0, .int .u32 0, .int .u32 0, .int .u32 0, .int .u32 0, .int .u32 0, .int .u32 0, .int .u32 0, .int .u32 0, .int .u32 0, .int .u32 0, .int .u32 0, .int .u32 0, .int .u32 0] := rfl
theorem tabA_size (k : Nat) : (tabA k).size = 16 := by simp [tabA]
theorem tabA_at (k j : Nat) (h : j < 16) : (tabA k)[j]? = some (if j < k then .int .u32 (tw 4 j : Nat) else .int .u32 0) := by simp [tabA, h]
theorem tabA_set (k : Nat) (h : k < 16) : (tabA k).setIfInBounds k (.int .u32 (tw 4 k : Nat)) = tabA (k + 1) := by
  apply Array.ext_getElem?
  intro i
  rw [Array.getElem?_setIfInBounds]
  by_cases hi : i < 16
  · rw [tabA_at k i hi, tabA_at (k + 1) i hi]
    by_cases e : k = i
    · subst e; simp [tabA_size, h]
    · have : (i < k + 1) ↔ i < k := by omega
      simp only [e, if_false, this]
  · have h1 : (tabA k)[i]? = none := Array.getElem?_eq_none (by rw [tabA_size]; omega)
    have h2 : (tabA (k + 1))[i]? = none := Array.getElem?_eq_none (by rw [tabA_size]; omega)
    have : k ≠ i := by omega
    simp [h1, h2, this]
theorem tabA_get (k : Nat) (h : k < 16) : (tabA k)[k]? = some (.int .u32 0) := by rw [tabA_at k k h]; simp
theorem tabA_full (k : Nat) (h : k < 16) : (tabA 16)[k]? = some (.int .u32 (tw 4 k : Nat)) := by rw [tabA_at 16 k h]; simp [h]
theorem tabA_lit : tabA 16 = #[.int .u32 (tw 4 0 : Nat), .int .u32 (tw 4 1 : Nat), .int .u32 (tw 4 2 : Nat), .int .u32 (tw 4 3 : Nat), .int .u32 (tw 4 4 : Nat), .int .u32 (tw 4 5 : Nat), .int .u32 (tw 4 6 : Nat), .int .u32 (tw 4 7 : Nat), .int .u32 (tw 4 8 : Nat), .int .u32 (tw 4 9 : Nat), .int .u32 (tw 4 10 : Nat), .int .u32 (tw 4 11 : Nat), .int .u32 (tw 4 12 : Nat), .int .u32 (tw 4 13 : Nat), .int .u32 (tw 4 14 : Nat), .int .u32 (tw 4 15 : Nat)] := rfl

theorem tabA_one : (tabA 16).all (·.oneCell') = true := by rw [tabA_lit]; simp [Value.oneCell']

set_option maxRecDepth 100000 in
set_option maxHeartbeats 2000000 in
theorem table_any (w : World) :
    Calls Tryz.prog 133 #[] w fun e w' => e = .returned (.agg (tabA 16)) ∧ Chg Non w w' := by
  go_enter Tryz.func133, Tryz.ntmps133
  go_wp2
  go_loopw [5] (fun i wr => ∃ k : Nat, k ≤ 16 ∧ i = .int .i64 k ∧ wr.heap[w.heap.size + 1]? = some (.cells (tabA k) 155 (0, 0)) ∧ wr.heap[w.heap.size]? = some (.cells (tabA 0) 155 (0, 0)) ∧ Chg Non w wr) (fun i _ => 16 - (intOf i).toNat)
  case atStart => 
    refine ⟨0, by omega, rfl, ?_, ?_, ((Chg.refl _ _).alloc _).alloc _⟩
    · rw [tabA_zero]
      have h := fun o o' => (MapKept.heap_alloc (w.alloc o) o').1
      simp only [World.size_alloc] at h
      exact h _ _
    · rw [tabA_zero]
      refine (Below.heap_alloc _ _ _ (by simp)).trans (MapKept.heap_alloc _ _).1
  case round =>
    obtain ⟨k, hk, rfl, hb, hb0, hg⟩ := hrel
    by_cases hlt : k < 16
    · obtain ⟨wo, rfl⟩ : ∃ wo : World, wo = wr := ⟨_, rfl⟩
      have HB := Lib.hid hb
      have HB0 := Lib.hid hb0
      clear hb hb0
      go_wp2
      go_loop [3, 10] (fun c j => ∃ i : Nat, i ≤ 4 ∧ j = .int .i64 i ∧ c = .int .u32 (tw i k : Nat)) (fun _ j => 4 - (intOf j).toNat)
      case atStart => exact ⟨0, by omega, rfl, rfl⟩
      case round =>
        obtain ⟨i, hi, rfl, rfl⟩ := hrel
        have hc := tw_lt i k (by omega)
        have hs : tw (i + 1) k = tst (tw i k) := rfl
        have HS := Lib.hid hs
        clear hs
        by_cases hi4 : i < 4
        · obtain ⟨c, hcc⟩ : ∃ c, tw i k = c := ⟨_, rfl⟩
          rw [hcc] at hc HS ⊢
          clear hcc
          have h1 : bits .and .u32 (c : Int) 1 = ((c % 2 : Nat) : Int) := by
            have := u32_and_nat c 1 hc (by omega)
            rw [nat_mask1] at this
            exact this
          have h2 : ((c % 2 : Nat) : Int) ≤ 1 := by omega
          have h2' : (0 : Int) ≤ ((c % 2 : Nat) : Int) := by omega
          have h3 : bits .xor .u32 ((c : Int) / 2) (3988292384 * ((c % 2 : Nat) : Int)) = (tst c : Int) := by
            have := u32_xor_nat (c / 2) (3988292384 * (c % 2)) (by omega) (by omega)
            unfold tst
            rw [← this]
            simp
          obtain ⟨d, hd⟩ : ∃ d, c % 2 = d := ⟨_, rfl⟩
          rw [hd] at h1 h2 h2' h3
          clear hd
          go_wp2
          go_round
          case rel => exact ⟨i + 1, by omega, by go_num, by rw [HS.out]⟩
          case measure => simp [intOf]; omega
        · obtain rfl : i = 4 := by omega
          have hcell : wo.cell? ⟨w.heap.size + 1, k, none⟩ = some (.int .u32 0) := by
            simp only [World.cell?]; rw [HB.out]; exact tabA_get k hlt
          have hfr : wo.frozen? ⟨w.heap.size + 1, k, none⟩ = false := by
            simp only [World.frozen?]; rw [HB.out]; simp
          have hset := tabA_set k hlt
          obtain ⟨v, hv⟩ : ∃ v : Value, (Value.int .u32 (tw 4 k : Nat)) = v := ⟨_, rfl⟩
          obtain ⟨c, hcc⟩ : ∃ c, tw 4 k = c := ⟨_, rfl⟩
          rw [hcc] at hc hv hset ⊢
          clear hcc HS
          have HSet := Lib.hid hset
          clear hset hv
          go_wp2
          go_roundw
          case rel =>
            refine ⟨k + 1, by omega, by go_num, ?_, ?_, hg.setCell (.inr (by simp)) _⟩
            · rw [heap_setCell_same _ _ _ _ _ _ HB.out, HSet.out]
            · rw [heap_setCell_other _ _ _ _ (by simp)]
              exact HB0.out
          case measure => simp [intOf]; omega
    · obtain rfl : k = 16 := by omega
      have HB := Lib.hid hb
      have HB0 := Lib.hid hb0
      clear hb hb0
      go_wp2_with (first
        | (refine wpList_load_row (o := ⟨some 24, _, _, _, _, _⟩) rfl 155 (.tmp 1) rfl (w.heap.size + 1) rfl 155 (tabA 16) (0, 0) _ HB.out Tryz.underlying155 rfl (by kernel_rfl) ?_)
        | (refine wpList_store_row (o := ⟨none, .store 155 (.tmp 0) (.tmp 24), _, _, _, _⟩) rfl 155 (.tmp 0) (.tmp 24) rfl w.heap.size (tabA 16) rfl rfl 155 (tabA 0) HB0.out (by kernel_rfl) rfl tabA_one ?_))
      refine bodyPost_ret (results_cell_row Tryz.results133 _ _ w.heap.size 155 (tabA 16) (0, 0) _ rfl (setRow_heap _ _ _ _ _ _ HB0.out) Tryz.underlying155 rfl (by kernel_rfl)) rfl ⟨rfl, hg.setRow (.inr (Nat.le_refl _)) _⟩

theorem ones_xor (x : Nat) (h : x < 4294967296) : 4294967295 ^^^ x = 4294967295 - x := by
  have h1 : (4294967295 : Nat) = 2 ^ 32 - 1 := rfl
  have e : BitVec.allOnes 32 ^^^ BitVec.ofNat 32 x = ~~~ (BitVec.ofNat 32 x) := BitVec.allOnes_xor
  have := congrArg BitVec.toNat e
  rw [BitVec.toNat_xor, BitVec.toNat_not, BitVec.toNat_ofNat, BitVec.toNat_allOnes, Nat.mod_eq_of_lt (by omega)] at this
  exact this

set_option maxRecDepth 100000 in
set_option maxHeartbeats 2000000 in
theorem Add_any (A : Option Addr) (l : List UInt8) (cap : Nat) (w : World) (hr : Rd w A l) (hl : l.length ≤ 9223372036854775807) :
    Calls Tryz.prog 127 #[.int .u32 0, .slice A l.length cap] w fun e w' => e = .returned (.int .u32 (crcSum l : Nat)) ∧ Chg Non w w' := by
  go_enter Tryz.func127, Tryz.ntmps127
  go_wp2_with (first
    | (go_at_call 133; refine (table_any _).mono ?_; rintro e w1 ⟨rfl, hg1⟩)
    | (refine wpList_store_row (o := ⟨none, .store 155 (.tmp 5) (.tmp 8), _, _, _, _⟩) rfl 155 (.tmp 5) (.tmp 8) rfl w1.heap.size (tabA 16) rfl rfl 155 (tabA 0) (heap_alloc_new _ _) (by kernel_rfl) rfl tabA_one ?_))
  obtain ⟨W, hW⟩ : ∃ W, (w1.alloc (.cells (tabA 0) 155)).setRow w1.heap.size (tabA 16) = W := ⟨_, rfl⟩
  have HB := Lib.hid (show W.heap[w1.heap.size]? = some (.cells (tabA 16) 155 (0, 0)) from by rw [← hW]; exact setRow_heap _ _ _ _ _ _ (heap_alloc_new _ _))
  have hg : Chg Non w W := by
    rw [← hW]
    exact (hg1.alloc _).setRow (.inr hg1.size) _
  have HR := Lib.hid (hr.non hg)
  rw [show (w1.alloc (.cells #[.int .u32 0, .int .u32 0, .int .u32 0, .int .u32 0, .int .u32 0, .int .u32 0, .int .u32 0, .int .u32 0, .int .u32 0, .int .u32 0, .int .u32 0, .int .u32 0, .int .u32 0, .int .u32 0, .int .u32 0, .int .u32 0] 155)).setRow w1.heap.size (tabA 16) = W from hW]
  clear hW hr hg1
  go_loop [0, 13] (fun c i => ∃ k : Nat, k ≤ l.length ∧ i = .int .i64 k ∧ c = .int .u32 (crcL 4294967295 (l.take k) : Nat)) (fun _ i => l.length - (intOf i).toNat)
  case atStart => exact ⟨0, by omega, rfl, rfl⟩
  case round =>
    obtain ⟨k, hk, rfl, rfl⟩ := hrel
    have hc := crcL_lt 4294967295 (l.take k) (by omega)
    by_cases hlt : k < l.length
    · obtain ⟨b, o, rfl, hb, hcell⟩ := HR.out.at_ (by omega)
      have HC := Lib.hid hcell
      clear hcell
      have hcell := HC.out k hlt
      have hs := crcL_take_snoc 4294967295 l k hlt
      obtain ⟨c, hcc⟩ : ∃ c, crcL 4294967295 (l.take k) = c := ⟨_, rfl⟩
      rw [hcc] at hc hs ⊢
      clear hcc
      obtain ⟨x, hx⟩ : ∃ x, l[k]'hlt = x := ⟨_, rfl⟩
      rw [hx] at hcell hs
      clear hx
      have hx1 := crcX_lt c x hc
      have hx2 : bits .xor .u32 (c : Int) (x.toNat : Int) = ((c ^^^ x.toNat : Nat) : Int) := u32_xor_nat _ _ hc (by have := x.toNat_lt; omega)
      have hxl := x.toNat_lt
      have HS := Lib.hid hs
      clear hs
      have hd1 := half_lt _ hx1
      have HT : ∀ d : Nat, d < 4294967296 → W.cell? ⟨w1.heap.size, d % 16, none⟩ = some (.int .u32 (tw 4 (d % 16) : Nat)) := fun d hd => by
        simp only [World.cell?]; rw [HB.out]; exact tabA_full (d % 16) (by omega)
      have HH : ∀ d : Nat, d < 4294967296 → bits .xor .u32 ((d : Int) / 16) ((tw 4 (d % 16) : Nat) : Int) = ((half d : Nat) : Int) := fun d hd => by
        have := u32_xor_nat (d / 16) (tw 4 (d % 16)) (by omega) (tw_lt 4 _ (by omega))
        unfold half
        rw [← this]
        simp
      have t1 := HT _ hx1
      have t2 := HT _ hd1
      have a1 := HH _ hx1
      have a2 := HH _ hd1
      have hd2 := half_lt _ hd1
      have b1 := tw_lt 4 ((c ^^^ x.toNat) % 16) (by omega)
      have b2 := tw_lt 4 (half (c ^^^ x.toNat) % 16) (by omega)
      clear HT HH
      replace HS : Hid (crcL 4294967295 (l.take (k + 1)) = half (half (c ^^^ x.toNat))) := HS
      go_wp2
      refine wp_loop_rounds 3 ?_
      rw [rounds_succ]
      go_wp2
      rw [rounds_succ]
      go_wp2
      rw [rounds_succ]
      go_wp2
      go_round
      case rel => exact ⟨k + 1, by omega, by go_num, by rw [HS.out]⟩
      case measure => simp [intOf]; omega
    · have e : l.take k = l := List.take_of_length_le (by omega)
      rw [e] at hc ⊢
      have hf : bits .xor .u32 IntKind.u32.max (crcL 4294967295 l : Nat) = (crcSum l : Nat) := by
        have := u32_xor_nat 4294967295 (crcL 4294967295 l) (by omega) hc
        have e2 : (IntKind.u32.max : Int) = ((4294967295 : Nat) : Int) := rfl
        rw [e2, this, crcSum]
        congr 1
        exact ones_xor _ hc
      go_wp2
      go_ret
      exact ⟨rfl, hg⟩
set_option maxRecDepth 100000 in
set_option maxHeartbeats 2000000 in
theorem Sum_any (A : Option Addr) (l : List UInt8) (cap : Nat) (w : World) (hr : Rd w A l) (hl : l.length ≤ 9223372036854775807) :
    Calls Tryz.prog 114 #[.slice A l.length cap] w fun e w' => e = .returned (.int .u32 (crcSum l : Nat)) ∧ Chg Non w w' := by
  go_enter Tryz.func114, Tryz.ntmps114
  go_wp2_with (go_at_call 127; refine (Add_any _ _ _ _ hr hl).mono ?_; rintro e w1 ⟨rfl, hg1⟩)
  go_ret
  exact ⟨rfl, hg1⟩

end Go.Proofs.YthhbdejagglgbaaGreat
