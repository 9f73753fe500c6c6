/- BootNil, part 11 of 14: contracts of the functions that it reaches, and the laws that they need, merged and shortened (from my texts XMnB, XShQ, XShA, XShB, XShC, XShD). -/
import Derived.Test.YtajkajgifigmbaaGreatMgBootNilA
import Derived.Test.YtajkajgifigmbaaGreatMgBootNilB
import Derived.Test.YtajkajgifigmbaaGreatMgBootNilD
import Derived.Test.YtajkajgifigmbaaGreatMgBootNilF
import Derived.Test.YtajkajgifigmbaaGreatMgBootNilG
import Derived.Test.YtajkajgifigmbaaGreatMgBootNilI
import Derived.Test.YtajkajgifigmbaaGreatMgBootNilJ
import Derived.Test.YtajkajgifigmbaaGreatRows
import Derived.Test.YtajkajgifigmbaaGreatMgBootNilShelf
import Derived.StillTailTactics
namespace Go.Proofs.YtajkajgifigmbaaGreat
set_option linter.unusedVariables false
set_option linter.unusedSimpArgs false
set_option maxHeartbeats 8000000
set_option maxRecDepth 100000
section
open Go.RowKit
theorem mprint_ok (I : Nat → Prop) (w : World) (m : Mf) (A1 A2 A3 : Option Addr) (c1 c2 c3 : Nat) (C : Array Value) (h : MfR I w m A1 A2 A3 c1 c2 c3 C) (hI : ∀ b, I b → b < w.heap.size) (hm : canM m = true) :
  Calls Tryz.prog 40 #[.agg C] w fun e w' => ∃ A k, e = .returned (.tuple #[.slice A (formM m).length k, .int .i64 0]) ∧ (formM m).length ≤ k ∧ k ≤ maxLen ∧ Own w.heap.size w' A (formM m) ∧ Chg Non w w' := by
 have hgw : Chg Non w (w.alloc (.cells C 30)) := (Chg.refl Non w).alloc _
 have hAt := h.cells.at_ (blk_new w (.cells C 30))
 have HSz := Lh h.cells.size
 have HCan := Lh (mcan_ok I (w.alloc (.cells C 30)) m A1 A2 A3 c1 c2 c3 C (h.non hgw))
 rw [hm] at HCan
 have HHd := Lh (fun W (hg : Chg Non w W) => mhead_ok I W m A1 A2 A3 c1 c2 c3 C (h.non hg) (fun b hb => by have := hI b hb; have := hg.size; omega) hm)
 have HTl : Hid (m.tag.length = 32) := Lh h.bd.tl
 have HLn := Lh (formM_len h.bd hm).1
 have HE : Hid (formM m = headM m ++ m.tag) := Lh rfl
 have HHl : Hid ((headM m).length ≤ 3900) := Lh (by have := (formM_len h.bd hm).1; unfold formM at this; rw [List.length_append] at this; omega)
 have HAt := Lh hAt
 have HG := Lh hgw
 clear h hI hm hgw hAt
 go_enter Tryz.func40, Tryz.ntmps40
 go_wp2_with (refine sel (some 4) (.load 30 (.tmp 1)) ?_; refine wpList_load_row rfl 30 (.tmp 1) rfl w.heap.size rfl 30 C (0, 0) _ (blk_new w (.cells C 30)) Tryz.underlying30 rfl (by rw [HSz.out]; kernel_rfl) ?_)
 refine HCan.out.mono ?_
 rintro e w1 ⟨rfl, hg1⟩
 have HAt1 := Lh (HAt.out.keep hg1 (fun e => e))
 have HB1 := Lh (blk_keep (blk_new w (.cells C 30)) hg1 (fun e => e))
 have HG1 := Lh (HG.out.then_non hg1)
 clear hg1 HAt
 obtain ⟨b1, hb1⟩ : ∃ b, w.heap.size = b := ⟨_, rfl⟩
 rw [hb1] at HAt1 HB1
 have Hb1 := Lh hb1
 go_wp2_with fail
 try rw [hb1]
 clear hb1
 obtain ⟨V, hV⟩ : ∃ V, V = w1.drew := ⟨_, rfl⟩
 have HAtV : Hid (MfAt V b1 m (.slice A1 m.cfg.ws.length c1) (.slice A2 m.cfg.ps.length c2) (.slice A3 m.cfg.cs.length c3)) := Lh (by rw [hV]; exact HAt1.out.keep ((Chg.refl Non w1).drew) (fun e => e))
 have HBV : Hid (V.heap[b1]? = some (.cells C 30 (0, 0))) := Lh (by rw [hV]; exact HB1.out)
 have HGV : Hid (Chg Non w V) := Lh (by rw [hV]; exact HG1.out.drew)
 obtain ⟨B, hB⟩ : ∃ B, V.heap.size = B := ⟨_, rfl⟩
 have HBe := Lh hB
 have hb1B : b1 < B := by rw [← hB]; exact blk_lt HBV.out
 refine wp_region_held_drew (S := Chg (Nt (Upto B)) V) (by kernel_rfl) (by rw [hV]; exact Chg.refl _ _) (fun hHeld => ?_)
 clear hHeld
 rw [← hV]
 clear hV HAt1 HB1 HG1
 have HS : Hid (Chg (Nt (Upto B)) V V) := Lh (Chg.refl _ _)
 have hnb : ¬ Nt (Upto B) b1 := fun h => h hb1B
 refine h_load 0 (some 7) 30 (.tmp 1) b1 0 C _ rfl (by kernel_rfl) (by kernel_rfl) (by kernel_rfl) rfl rfl (fun _ _ _ h => h) (by kernel_rfl) rfl (fun W hW => blk_range (blk_keep HBV.out hW hnb)) Tryz.underlying30 rfl (by rw [HSz.out]; kernel_rfl) HS.out ?_
 try simp only [Act.put, sA, sB, sC]
 refine hp 2 9 (.pointer (some ⟨b1, 37, none⟩)) rfl HS.out ?_
 refine h_load 3 (some 10) 23 (.tmp 9) b1 37 (tagA m.tag) _ rfl (by kernel_rfl) (by kernel_rfl) (by kernel_rfl) rfl rfl (fun _ _ _ h => h) (by kernel_rfl) rfl (fun W hW => range_keepS HAtV.out.t2 hW hnb) Tryz.underlying23 rfl (by rw [tagA_size _ HTl.out]; exact info_tag') HS.out ?_
 try simp only [Act.put, sA, sB, sC]
 refine h1o 1 rfl ?_
 intro K hK
 go_simp
 refine (HHd.out V HGV.out).mono ?_
 rintro e u1 ⟨pw, rfl, hw1, hg1⟩
 rw [HBe.out] at hw1
 have HX := Lh hw1
 have HS := Lh (HS.out.trans_same (Chg.of_non hg1))
 refine hK.out _ _ HS.out (fun _ => ?_)
 clear hK K hw1 hg1
 try simp only [Act.put, sA, sB, sC]
 refine h1o 4 rfl ?_
 intro K hK
 go_simp
 refine (WTag_N (Upto B) pw _ m.tag _ HTl.out HX.out (by have := HHl.out; omega)).mono ?_
 rintro e u2 ⟨rfl, hw2, hg2⟩
 rw [← HE.out] at hw2
 have HX := Lh hw2
 have HS := Lh (HS.out.trans_same hg2)
 refine hK.out _ _ HS.out (fun _ => ?_)
 clear hK K hw2 hg2
 try simp only [Act.put, sA, sB, sC]
 refine h1o 5 rfl ?_
 intro K hK
 go_simp
 refine (WDone_N (Upto B) pw (formM m) u2 HX.out (by have := HLn.out; omega)).mono ?_
 rintro e u3 ⟨A5, c5, rfl, r1, r2, r3, hg3⟩
 have HGf : Hid (Chg Non w u2) := Lh (HGV.out.then_new HS.out (fun x e => by have e : ¬ x < B := e; have := HGV.out.size; have := HBe.out; omega))
 have HS := Lh (HS.out.trans_same (Chg.of_non hg3))
 have HF := Lh (And.intro r1 (And.intro r2 (And.intro (r3.mono HGf.out.size) (HGf.out.then_non hg3))))
 refine hK.out _ _ HS.out (fun _ => ?_)
 clear hK K r1 r2 r3 hg3
 try simp only [Act.put, sA, sB, sC]
 refine hp 6 13 (.slice A5 (formM m).length c5) rfl HS.out ?_
 refine hp 7 14 (.int .i64 0) rfl HS.out ?_
 refine hp 8 2 (.slice A5 (formM m).length c5) rfl HS.out ?_
 refine hp 9 3 (.int .i64 0) rfl HS.out ?_
 refine hdn ?_ _
 go_wp2_with fail
 go_ret2
 exact ⟨A5, c5, rfl, HF.out⟩
theorem mprint_no (I : Nat → Prop) (w : World) (m : Mf) (A1 A2 A3 : Option Addr) (c1 c2 c3 : Nat) (C : Array Value) (h : MfR I w m A1 A2 A3 c1 c2 c3 C) (hm : canM m = false) :
  Calls Tryz.prog 40 #[.agg C] w fun e w' => e = .returned (.tuple #[.slice none 0 0, .int .i64 2]) ∧ Chg Non w w' := by
 have hgw : Chg Non w (w.alloc (.cells C 30)) := (Chg.refl Non w).alloc _
 have HSz := Lh h.cells.size
 have HCan := Lh (mcan_ok I (w.alloc (.cells C 30)) m A1 A2 A3 c1 c2 c3 C (h.non hgw))
 rw [hm] at HCan
 have HG := Lh hgw
 clear h hm hgw
 go_enter Tryz.func40, Tryz.ntmps40
 go_wp2_with (refine sel (some 4) (.load 30 (.tmp 1)) ?_; refine wpList_load_row rfl 30 (.tmp 1) rfl w.heap.size rfl 30 C (0, 0) _ (blk_new w (.cells C 30)) Tryz.underlying30 rfl (by rw [HSz.out]; kernel_rfl) ?_)
 refine HCan.out.mono ?_
 rintro e w1 ⟨rfl, hg1⟩
 have HG1 := Lh (HG.out.then_non hg1)
 clear hg1
 go_wp2_with fail
 go_ret2
 exact ⟨rfl, HG1.out⟩
end
section
def prmAt : Nat → List Nat
 | 0 => []
 | k + 1 => if prmB (prmAt k) (k + 2) then prmAt k ++ [k + 2] else prmAt k
theorem prmGo_at (n k : Nat) : ∀ j, (∀ i, i < j → (prmAt (k + i)).length < n) → prmGo n j (k + 2) (prmAt k) = prmAt (k + j) := by
 intro j
 induction j generalizing k with
 | zero => intro _; rfl
 | succ j ih =>
  intro h
  have h0 := h 0 (by omega)
  simp only [Nat.add_zero] at h0
  have h1 := ih (k + 1) (fun i hi => by have := h (i + 1) (by omega); rwa [show k + 1 + i = k + (i + 1) by omega])
  rw [show k + (j + 1) = k + 1 + j by omega, ← h1]
  show (if (prmAt k).length < n then _ else _) = _
  rw [if_pos h0]
  rfl
theorem prmAt_le (k j : Nat) : (prmAt k).length ≤ (prmAt (k + j)).length := by
 induction j with
 | zero => exact Nat.le_refl _
 | succ j ih =>
  refine Nat.le_trans ih ?_
  show _ ≤ (if prmB (prmAt (k + j)) (k + j + 2) then prmAt (k + j) ++ [k + j + 2] else prmAt (k + j)).length
  split
  ·rw [List.length_append]; omega
  ·exact Nat.le_refl _
theorem prmAt_mem (k : Nat) : ∀ p ∈ prmAt k, 2 ≤ p ∧ p < k + 2 := by
 induction k with
 | zero => intro p hp; exact absurd hp (by simp [prmAt])
 | succ k ih =>
  intro p hp
  unfold prmAt at hp
  split at hp
  ·rcases List.mem_append.1 hp with h | h
   ·have := ih p h; omega
   ·have := List.mem_singleton.1 h; omega
  ·have := ih p hp; omega
def prmRun : Nat → Nat → List Nat → List Nat
 | 0, _, l => l
 | k + 1, x, l => prmRun k (x + 1) (if prmB l x then l ++ [x] else l)
theorem prmRun_at (k : Nat) : ∀ j, prmRun j (k + 2) (prmAt k) = prmAt (k + j) := by
 intro j
 induction j generalizing k with
 | zero => rfl
 | succ j ih =>
  rw [show k + (j + 1) = k + 1 + j by omega, ← ih (k + 1)]
  rfl
theorem run309 : (prmRun 309 2 []).length = 63 ∧ (prmRun 310 2 []).length = 64 ∧ (prmRun 17 2 []).length = 7 ∧ prmRun 18 2 [] = [2, 3, 5, 7, 11, 13, 17, 19] := by decide +kernel
theorem at0 (j : Nat) : prmAt j = prmRun j 2 [] := by
 have h := (prmRun_at 0 j).symm
 have e : prmAt (0 + j) = prmAt j := congrArg prmAt (Nat.zero_add j)
 exact e.symm.trans h
theorem prm64 : (prmAt 310).length = 64 := by rw [at0]; exact run309.2.1
theorem prm64_lt {k : Nat} (h : k < 310) : (prmAt k).length < 64 := by
 have h1 := prmAt_le k (309 - k)
 rw [show k + (309 - k) = 309 by omega, at0 309, run309.1] at h1
 omega
theorem prm8 : prmAt 18 = [2, 3, 5, 7, 11, 13, 17, 19] := by rw [at0]; exact run309.2.2.2
theorem prm8_lt {k : Nat} (h : k < 18) : (prmAt k).length < 8 := by
 have h1 := prmAt_le k (17 - k)
 rw [show k + (17 - k) = 17 by omega, at0 17, run309.2.2.1] at h1
 omega
def frAt (h : Nat → Nat → Bool) (p : Nat) : Nat → Nat × Nat
 | 0 => (0, 137438953472)
 | k + 1 => if h (((frAt h p k).1 + (frAt h p k).2) / 2) p then (((frAt h p k).1 + (frAt h p k).2) / 2, (frAt h p k).2) else ((frAt h p k).1, ((frAt h p k).1 + (frAt h p k).2) / 2)
theorem frAt_gap (h : Nat → Nat → Bool) (p k : Nat) (hk : k ≤ 37) : (frAt h p k).2 = (frAt h p k).1 + 2 ^ (37 - k) ∧ (frAt h p k).2 ≤ 137438953472 := by
 induction k with
 | zero =>
  show (137438953472 : Nat) = 0 + 2 ^ 37 ∧ (137438953472 : Nat) ≤ 137438953472
  exact ⟨by decide, Nat.le_refl _⟩
 | succ k ih =>
  obtain ⟨h1, h2⟩ := ih (by omega)
  have e : 2 ^ (37 - k) = 2 * 2 ^ (37 - (k + 1)) := by rw [show 37 - k = (37 - (k + 1)) + 1 by omega, Nat.pow_succ, Nat.mul_comm]
  unfold frAt
  split <;> dsimp only <;> omega
theorem frGo_at (h : Nat → Nat → Bool) (p k : Nat) : ∀ j, k + j ≤ 37 → frGo h p j (frAt h p k).1 (frAt h p k).2 = (frAt h p (k + j)).1 := by
 intro j
 induction j generalizing k with
 | zero => intro _; rfl
 | succ j ih =>
  intro hj
  obtain ⟨h1, h2⟩ := frAt_gap h p k (by omega)
  have e : 2 ^ (37 - k) = 2 * 2 ^ (37 - (k + 1)) := by rw [show 37 - k = (37 - (k + 1)) + 1 by omega, Nat.pow_succ, Nat.mul_comm]
  have e1 : 0 < 2 ^ (37 - (k + 1)) := Nat.two_pow_pos _
  have hi := ih (k + 1) (by omega)
  rw [show k + (j + 1) = k + 1 + j by omega, ← hi]
  show (if (frAt h p k).2 - (frAt h p k).1 > 1 then _ else _) = _
  rw [if_pos (by omega)]
  show _ = frGo h p j (if h (((frAt h p k).1 + (frAt h p k).2) / 2) p then (((frAt h p k).1 + (frAt h p k).2) / 2, (frAt h p k).2) else ((frAt h p k).1, ((frAt h p k).1 + (frAt h p k).2) / 2)).1 (if h (((frAt h p k).1 + (frAt h p k).2) / 2) p then (((frAt h p k).1 + (frAt h p k).2) / 2, (frAt h p k).2) else ((frAt h p k).1, ((frAt h p k).1 + (frAt h p k).2) / 2)).2
  split <;> rfl
theorem frac_at (h : Nat → Nat → Bool) (p : Nat) : (frAt h p 37).1 % W32 = frac h p := by
 have := frGo_at h p 0 37 (by omega)
 unfold frac
 rw [← this]
 rfl
theorem frAt_more (h : Nat → Nat → Bool) (p k : Nat) (hk : k < 37) : 1 < (frAt h p k).2 - (frAt h p k).1 := by
 obtain ⟨h1, h2⟩ := frAt_gap h p k (by omega)
 have e : 2 ^ (37 - k) = 2 * 2 ^ (37 - (k + 1)) := by rw [show 37 - k = (37 - (k + 1)) + 1 by omega, Nat.pow_succ, Nat.mul_comm]
 have e1 : 0 < 2 ^ (37 - (k + 1)) := Nat.two_pow_pos _
 omega
theorem frAt_end (h : Nat → Nat → Bool) (p : Nat) : (frAt h p 37).2 - (frAt h p 37).1 = 1 := by
 obtain ⟨h1, h2⟩ := frAt_gap h p 37 (by omega)
 have e : 2 ^ (37 - 37) = 1 := rfl
 omega
theorem sq_words (x p : Nat) : decide (x * x / 18446744073709551616 < p ∨ x * x / 18446744073709551616 = p ∧ x * x % 18446744073709551616 = 0) = sqB x p := by
 unfold sqB
 generalize x * x = y
 congr 1
 apply propext
 constructor
 ·rintro (h | ⟨h1, h2⟩) <;> omega
 ·intro h; omega
theorem cb_words (x p : Nat) : decide (x * x / 18446744073709551616 * x + x * x % 18446744073709551616 * x / 18446744073709551616 < p * 4294967296 ∨ x * x / 18446744073709551616 * x + x * x % 18446744073709551616 * x / 18446744073709551616 = p * 4294967296 ∧ x * x % 18446744073709551616 * x % 18446744073709551616 = 0) = cbB x p := by
 unfold cbB
 have e : x * x * x = x * x / 18446744073709551616 * x * 18446744073709551616 + x * x % 18446744073709551616 * x := by
  have h := Nat.div_add_mod' (x * x) 18446744073709551616
  rw [Nat.mul_right_comm (x * x / 18446744073709551616) x 18446744073709551616, ← Nat.add_mul, h]
 rw [e]
 generalize x * x / 18446744073709551616 * x = a
 generalize x * x % 18446744073709551616 * x = b
 congr 1
 apply propext
 constructor
 ·rintro (h | ⟨h1, h2⟩) <;> omega
 ·intro h; omega
theorem cb_fits (x : Nat) (h : x < 137438953472) : x * x < 18889465931478580854784 ∧ x * x / 18446744073709551616 * x + x * x % 18446744073709551616 * x / 18446744073709551616 < 18446744073709551616 := by
 have h1 : x * x ≤ 137438953472 * 137438953472 := Nat.mul_le_mul (by omega) (by omega)
 have h2 : x * x < 137438953472 * 137438953472 := Nat.lt_of_le_of_lt (Nat.mul_le_mul (Nat.le_refl x) (show x ≤ 137438953471 by omega)) (by omega)
 refine ⟨by omega, ?_⟩
 have h3 : x * x / 18446744073709551616 ≤ 1024 := by omega
 have h4 : x * x / 18446744073709551616 * x ≤ 1024 * 137438953472 := Nat.mul_le_mul h3 (by omega)
 have h5 : x * x % 18446744073709551616 * x ≤ 18446744073709551616 * 137438953472 := Nat.mul_le_mul (by omega) (by omega)
 omega
theorem shaK_at : (prmAt 310).map (fun p => (frAt cbB p 37).1 % W32) = shaK := by
 have h : (prmAt 310) = prmGo 64 400 2 [] := by
  rw [← primes64.2]
  have := prmGo_at 64 0 310 (fun i hi => by rw [Nat.zero_add]; exact prm64_lt hi)
  rw [Nat.zero_add] at this
  exact this.symm
 rw [h, ← shaK_is]
 exact List.map_congr_left fun p _ => frac_at cbB p
theorem shaH_at : (prmAt 18).map (fun p => (frAt sqB p 37).1 % W32) = [shaH.a, shaH.b, shaH.c, shaH.d, shaH.e, shaH.f, shaH.g, shaH.h] := by
 rw [prm8, ← shaH_is]
 exact List.map_congr_left fun p _ => frac_at sqB p
end
section
open Go.RowKit
theorem and31 (a : Nat) (h1 : 1 ≤ a) (h2 : a ≤ 31) : bits .and .u64 (IntKind.u64.wrap (-(a : Int))) 31 = ((32 - a : Nat) : Int) := by
 have e0 : IntKind.u64.wrap (-(a : Int)) = ((18446744073709551616 - a : Nat) : Int) := by rw [IntKind.wrap_u64]; omega
 have h := bits_and_u64_nat (18446744073709551616 - a) 31 (by omega) (by omega)
 have e : (18446744073709551616 - a) &&& 31 = (18446744073709551616 - a) % 32 := Nat.and_two_pow_sub_one_eq_mod _ 5
 rw [e] at h
 have e2 : (18446744073709551616 - a) % 32 = 32 - a := by omega
 rw [e2] at h
 rw [e0]
 exact h
theorem Rot_ok (x a : Nat) (hx : x < 4294967296) (h1 : 1 ≤ a) (h2 : a ≤ 31) (w : World) :
  Calls Tryz.prog 251 #[.int .u32 x, .int .i64 (-(a : Int))] w fun e w' => e = .returned (.int .u32 (trn x a : Nat)) ∧ w = w' := by
 have e3 : (32 : Int) - ((32 - a : Nat) : Int) = (a : Int) := by omega
 have o1 : bits .or .u32 ((x : Int) * 2 ^ (32 - a) % 4294967296) ((x : Int) / 2 ^ a) = (trn x a : Nat) := by
  have := u32_or_nat (x * 2 ^ (32 - a) % 4294967296) (x / 2 ^ a) (Nat.mod_lt _ (by decide)) (Nat.lt_of_le_of_lt (Nat.div_le_self _ _) hx)
  rw [show ((x * 2 ^ (32 - a) % 4294967296) ||| x / 2 ^ a) = trn x a from trn_or x a hx (by omega)] at this
  have pw : (2 : Int) ^ (32 - a) = ((2 ^ (32 - a) : Nat) : Int) := by simp
  have pa : (2 : Int) ^ a = ((2 ^ a : Nat) : Int) := by simp
  rw [pw, pa]
  generalize 2 ^ (32 - a) = P at this ⊢
  generalize 2 ^ a = R at this ⊢
  rw [← Int.natCast_mul]
  generalize x * P = Y at this ⊢
  rw [show ((Y : Int) % 4294967296) = ((Y % 4294967296 : Nat) : Int) by omega, ← Int.natCast_ediv]
  exact this
 have HA := Lh (and31 a h1 h2)
 have H3 := Lh o1
 clear o1
 go_enter Tryz.func251, Tryz.ntmps251
 go_wp2_with (rw [HA.out])
 rw [H3.out]
 go_ret
 exact ⟨rfl, rfl⟩
theorem Three_ok (x a b z : Nat) (hx : x < 4294967296) (hz : z < 4294967296) (h1 : 1 ≤ a) (h2 : a ≤ 31) (h3 : 1 ≤ b) (h4 : b ≤ 31) (w : World) :
  Calls Tryz.prog 250 #[.int .u32 x, .int .i64 a, .int .i64 b, .int .u32 z] w fun e w' => e = .returned (.int .u32 (((trn x a ^^^ trn x b) ^^^ z : Nat))) ∧ w = w' := by
 have HA := Lh (Rot_ok x a hx h1 h2)
 have HB := Lh (Rot_ok x b hx h3 h4)
 have hA := trn_lt hx (show a ≤ 32 by omega)
 have hB := trn_lt hx (show b ≤ 32 by omega)
 have X1 := Lh (u32_xor_nat (trn x a) (trn x b) hA hB)
 have X2 := Lh (u32_xor_nat (trn x a ^^^ trn x b) z (x32 hA hB) hz)
 obtain ⟨p, hp⟩ : ∃ p, trn x a = p := ⟨_, rfl⟩
 obtain ⟨q, hq⟩ : ∃ q, trn x b = q := ⟨_, rfl⟩
 rw [hp] at HA X1 X2 ⊢
 rw [hq] at HB X1 X2 ⊢
 clear hp hq
 go_enter Tryz.func250, Tryz.ntmps250
 go_wp2_with fail
 refine (HA.out _).mono ?_
 rintro e w' ⟨rfl, rfl⟩
 go_wp2_with fail
 refine (HB.out _).mono ?_
 rintro e w' ⟨rfl, rfl⟩
 go_wp2
 rw [X1.out, X2.out]
 go_ret
 exact ⟨rfl, rfl⟩
theorem Turned_ok (x a b c : Nat) (hx : x < 4294967296) (h1 : 1 ≤ a) (h2 : a ≤ 31) (h3 : 1 ≤ b) (h4 : b ≤ 31) (h5 : 1 ≤ c) (h6 : c ≤ 31) (w : World) :
  Calls Tryz.prog 181 #[.int .u32 x, .int .i64 a, .int .i64 b, .int .i64 c] w fun e w' => e = .returned (.int .u32 (((trn x a ^^^ trn x b) ^^^ trn x c : Nat))) ∧ w = w' := by
 have HC := Lh (Rot_ok x c hx h5 h6)
 have hC := trn_lt hx (show c ≤ 32 by omega)
 have HT := Lh (Three_ok x a b (trn x c) hx hC h1 h2 h3 h4)
 go_enter Tryz.func181, Tryz.ntmps181
 go_wp2_with fail
 refine (HC.out _).mono ?_
 rintro e w' ⟨rfl, rfl⟩
 go_wp2_with fail
 refine (HT.out _).mono ?_
 rintro e w' ⟨rfl, rfl⟩
 go_wp2
 go_ret
 exact ⟨rfl, rfl⟩
theorem Moved_ok (x a b c : Nat) (hx : x < 4294967296) (h1 : 1 ≤ a) (h2 : a ≤ 31) (h3 : 1 ≤ b) (h4 : b ≤ 31) (h6 : c ≤ 31) (w : World) :
  Calls Tryz.prog 249 #[.int .u32 x, .int .i64 a, .int .i64 b, .int .i64 c] w fun e w' => e = .returned (.int .u32 (((trn x a ^^^ trn x b) ^^^ (x / 2 ^ c) : Nat))) ∧ w = w' := by
 have hC : x / 2 ^ c < 4294967296 := Nat.lt_of_le_of_lt (Nat.div_le_self _ _) hx
 have HT := Lh (Three_ok x a b (x / 2 ^ c) hx hC h1 h2 h3 h4)
 have pc : ((x / 2 ^ c : Nat) : Int) = (x : Int) / 2 ^ c := by rw [Int.natCast_ediv]; simp
 rw [pc] at HT
 go_enter Tryz.func249, Tryz.ntmps249
 go_wp2_with fail
 refine (HT.out _).mono ?_
 rintro e w' ⟨rfl, rfl⟩
 go_wp2
 go_ret
 exact ⟨rfl, rfl⟩
end
section
open Go.RowKit
theorem square_ok (x p : Nat) (hx : x < 18446744073709551616) (w : World) :
  Calls Tryz.prog 175 #[.int .u64 x, .int .u64 p] w fun e w' => e = .returned (.bool (sqB x p)) ∧ w = w' := by
 have HM := Lh (Tryz.bits_Mul64 x x hx hx)
 have HS := Lh (sq_words x p)
 obtain ⟨a, ha⟩ : ∃ a, x * x / 18446744073709551616 = a := ⟨_, rfl⟩
 obtain ⟨b, hb⟩ : ∃ a, x * x % 18446744073709551616 = a := ⟨_, rfl⟩
 rw [ha, hb] at HM HS
 clear ha hb
 go_enter Tryz.func175, Tryz.ntmps175
 go_wp2_with fail
 refine (HM.out _).mono ?_
 rintro e w1 ⟨rfl, rfl⟩
 go_wp2
 all_goals go_ret
 all_goals refine ⟨congrArg Ending.returned (congrArg Value.bool ?_), rfl⟩
 all_goals rw [← HS.out, Bool.eq_iff_iff]
 all_goals simp
 all_goals omega
theorem cube_ok (x p : Nat) (hx : x < 137438953472) (hp : p < 4294967296) (w : World) :
  Calls Tryz.prog 176 #[.int .u64 x, .int .u64 p] w fun e w' => e = .returned (.bool (cbB x p)) ∧ w = w' := by
 have HM := Lh (Tryz.bits_Mul64 x x (by omega) (by omega))
 have HS := Lh (cb_words x p)
 obtain ⟨f1, f2⟩ := cb_fits x hx
 have hbl : x * x % 18446744073709551616 < 18446744073709551616 := Nat.mod_lt _ (by decide)
 have HN := Lh (Tryz.bits_Mul64 (x * x % 18446744073709551616) x hbl (by omega))
 obtain ⟨a, ha⟩ : ∃ a, x * x / 18446744073709551616 = a := ⟨_, rfl⟩
 obtain ⟨b, hb⟩ : ∃ a, x * x % 18446744073709551616 = a := ⟨_, rfl⟩
 rw [ha, hb] at HM HS f2
 rw [hb] at HN
 clear ha hb
 obtain ⟨c, hc⟩ : ∃ a, b * x / 18446744073709551616 = a := ⟨_, rfl⟩
 obtain ⟨d, hd⟩ : ∃ a, b * x % 18446744073709551616 = a := ⟨_, rfl⟩
 rw [hc, hd] at HN HS
 rw [hc] at f2
 clear hc hd hbl f1
 obtain ⟨q, hq⟩ : ∃ q, a * x = q := ⟨_, rfl⟩
 rw [hq] at HS f2
 have hq2 : (a : Int) * (x : Int) = (q : Int) := by rw [← hq]; simp
 clear hq
 have HQ := Lh hq2
 have HQ2 : Hid (IntKind.u64.wrap (q : Int) = (q : Int)) := Lh (by rw [IntKind.wrap_u64]; omega)
 obtain ⟨s, hs⟩ : ∃ s, q + c = s := ⟨_, rfl⟩
 rw [hs] at HS f2
 have HSS : Hid (IntKind.u64.wrap ((q : Int) + (c : Int)) = (s : Int)) := Lh (by rw [IntKind.wrap_u64]; omega)
 clear hs hq2
 obtain ⟨P, hP⟩ : ∃ P, p * 4294967296 = P := ⟨_, rfl⟩
 rw [hP] at HS
 have HP : Hid (IntKind.u64.wrap ((p : Int) * 4294967296) = (P : Int)) := Lh (by rw [IntKind.wrap_u64]; omega)
 clear hP hp f2 hx
 go_enter Tryz.func176, Tryz.ntmps176
 go_wp2_with fail
 refine (HM.out _).mono ?_
 rintro e w1 ⟨rfl, rfl⟩
 go_wp2_with fail
 refine (HN.out _).mono ?_
 rintro e w2 ⟨rfl, rfl⟩
 go_wp2_with (first | rw [HQ.out] | rw [HQ2.out] | rw [HSS.out] | rw [HP.out])
 all_goals go_ret
 all_goals refine ⟨congrArg Ending.returned (congrArg Value.bool ?_), rfl⟩
 all_goals rw [← HS.out, Bool.eq_iff_iff]
 all_goals simp
 all_goals omega
theorem fracSq (p : Nat) (hp : p < 4294967296) (w : World) :
  Calls Tryz.prog 174 #[.int .u64 p, .func (.func 175) #[] #[]] w fun e w' => e = .returned (.int .u32 (((frAt sqB p 37).1 % 4294967296 : Nat) : Int)) ∧ w = w' := by
 have HK : Hid (∀ (x : Nat) (W : World), x < 137438953472 → Calls Tryz.prog 175 #[.int .u64 x, .int .u64 p] W fun e w' => e = .returned (.bool (sqB x p)) ∧ W = w') := Lh (fun x W hx => square_ok x p (by omega) W)
 have HP := Lh hp
 clear hp
 go_enter Tryz.func174, Tryz.ntmps174
 go_wp2
 go_loop [5, 6] (fun a b => ∃ k : Nat, k ≤ 37 ∧ a = .int .u64 (frAt sqB p k).1 ∧ b = .int .u64 (frAt sqB p k).2) (fun a b => (intOf b - intOf a).toNat)
 case atStart => exact ⟨0, Nat.zero_le _, rfl, rfl⟩
 case round =>
  obtain ⟨k, hk, rfl, rfl⟩ := hrel
  obtain ⟨g1, g2⟩ := frAt_gap sqB p k hk
  by_cases hlt : k < 37
  ·have hm := frAt_more sqB p k hlt
   have HS : Hid (frAt sqB p (k + 1) = if sqB (((frAt sqB p k).1 + (frAt sqB p k).2) / 2) p then (((frAt sqB p k).1 + (frAt sqB p k).2) / 2, (frAt sqB p k).2) else ((frAt sqB p k).1, ((frAt sqB p k).1 + (frAt sqB p k).2) / 2)) := Lh rfl
   obtain ⟨a, ha⟩ : ∃ a, (frAt sqB p k).1 = a := ⟨_, rfl⟩
   obtain ⟨b, hb⟩ : ∃ b, (frAt sqB p k).2 = b := ⟨_, rfl⟩
   rw [ha, hb] at HS hm
   rw [hb] at g2
   rw [ha, hb]
   clear ha hb g1
   obtain ⟨m, hmid⟩ : ∃ m, (a + b) / 2 = m := ⟨_, rfl⟩
   have hm2 : a < m ∧ m < b := by omega
   have HM : Hid (((a : Int) + (b : Int)) / 2 = (m : Int)) := Lh (by omega)
   have HMK := Lh (fun W => HK.out m W (by omega))
   rw [hmid] at HS
   clear hmid
   cases hr : sqB m p with
   | true =>
    rw [hr] at HS HMK
    simp only [if_true] at HS
    clear hr
    go_wp2_with (first | rw [HM.out] | (refine (HMK.out _).mono ?_; rintro e w1 ⟨rfl, rfl⟩))
    go_round
    case rel => exact ⟨k + 1, by omega, by rw [HS.out], by rw [HS.out]⟩
    case measure => simp [intOf]; omega
   | false =>
    rw [hr] at HS HMK
    simp only [Bool.false_eq_true, if_false] at HS
    clear hr
    go_wp2_with (first | rw [HM.out] | (refine (HMK.out _).mono ?_; rintro e w1 ⟨rfl, rfl⟩))
    go_round
    case rel => exact ⟨k + 1, by omega, by rw [HS.out], by rw [HS.out]⟩
    case measure => simp [intOf]; omega
  ·obtain rfl : k = 37 := by omega
   have he := frAt_end sqB p
   obtain ⟨a, ha⟩ : ∃ a, (frAt sqB p 37).1 = a := ⟨_, rfl⟩
   obtain ⟨b, hb⟩ : ∃ b, (frAt sqB p 37).2 = b := ⟨_, rfl⟩
   rw [ha, hb] at he
   rw [hb] at g2
   rw [ha, hb]
   have HA := Lh ha
   clear ha hb g1 hlt hk
   obtain rfl : b = a + 1 := by omega
   have HE : Hid (((a + 1 : Nat) : Int) - (a : Int) = 1) := Lh (by omega)
   clear he
   go_wp2_with (rw [HE.out])
   go_ret
   exact ⟨by rw [HA.out]; rfl, rfl⟩
theorem fracCb (p : Nat) (hp : p < 4294967296) (w : World) :
  Calls Tryz.prog 174 #[.int .u64 p, .func (.func 176) #[] #[]] w fun e w' => e = .returned (.int .u32 (((frAt cbB p 37).1 % 4294967296 : Nat) : Int)) ∧ w = w' := by
 have HK : Hid (∀ (x : Nat) (W : World), x < 137438953472 → Calls Tryz.prog 176 #[.int .u64 x, .int .u64 p] W fun e w' => e = .returned (.bool (cbB x p)) ∧ W = w') := Lh (fun x W hx => cube_ok x p hx hp W)
 have HP := Lh hp
 clear hp
 go_enter Tryz.func174, Tryz.ntmps174
 go_wp2
 go_loop [5, 6] (fun a b => ∃ k : Nat, k ≤ 37 ∧ a = .int .u64 (frAt cbB p k).1 ∧ b = .int .u64 (frAt cbB p k).2) (fun a b => (intOf b - intOf a).toNat)
 case atStart => exact ⟨0, Nat.zero_le _, rfl, rfl⟩
 case round =>
  obtain ⟨k, hk, rfl, rfl⟩ := hrel
  obtain ⟨g1, g2⟩ := frAt_gap cbB p k hk
  by_cases hlt : k < 37
  ·have hm := frAt_more cbB p k hlt
   have HS : Hid (frAt cbB p (k + 1) = if cbB (((frAt cbB p k).1 + (frAt cbB p k).2) / 2) p then (((frAt cbB p k).1 + (frAt cbB p k).2) / 2, (frAt cbB p k).2) else ((frAt cbB p k).1, ((frAt cbB p k).1 + (frAt cbB p k).2) / 2)) := Lh rfl
   obtain ⟨a, ha⟩ : ∃ a, (frAt cbB p k).1 = a := ⟨_, rfl⟩
   obtain ⟨b, hb⟩ : ∃ b, (frAt cbB p k).2 = b := ⟨_, rfl⟩
   rw [ha, hb] at HS hm
   rw [hb] at g2
   rw [ha, hb]
   clear ha hb g1
   obtain ⟨m, hmid⟩ : ∃ m, (a + b) / 2 = m := ⟨_, rfl⟩
   have hm2 : a < m ∧ m < b := by omega
   have HM : Hid (((a : Int) + (b : Int)) / 2 = (m : Int)) := Lh (by omega)
   have HMK := Lh (fun W => HK.out m W (by omega))
   rw [hmid] at HS
   clear hmid
   cases hr : cbB m p with
   | true =>
    rw [hr] at HS HMK
    simp only [if_true] at HS
    clear hr
    go_wp2_with (first | rw [HM.out] | (refine (HMK.out _).mono ?_; rintro e w1 ⟨rfl, rfl⟩))
    go_round
    case rel => exact ⟨k + 1, by omega, by rw [HS.out], by rw [HS.out]⟩
    case measure => simp [intOf]; omega
   | false =>
    rw [hr] at HS HMK
    simp only [Bool.false_eq_true, if_false] at HS
    clear hr
    go_wp2_with (first | rw [HM.out] | (refine (HMK.out _).mono ?_; rintro e w1 ⟨rfl, rfl⟩))
    go_round
    case rel => exact ⟨k + 1, by omega, by rw [HS.out], by rw [HS.out]⟩
    case measure => simp [intOf]; omega
  ·obtain rfl : k = 37 := by omega
   have he := frAt_end cbB p
   obtain ⟨a, ha⟩ : ∃ a, (frAt cbB p 37).1 = a := ⟨_, rfl⟩
   obtain ⟨b, hb⟩ : ∃ b, (frAt cbB p 37).2 = b := ⟨_, rfl⟩
   rw [ha, hb] at he
   rw [hb] at g2
   rw [ha, hb]
   have HA := Lh ha
   clear ha hb g1 hlt hk
   obtain rfl : b = a + 1 := by omega
   have HE : Hid (((a + 1 : Nat) : Int) - (a : Int) = 1) := Lh (by omega)
   clear he
   go_wp2_with (rw [HE.out])
   go_ret
   exact ⟨by rw [HA.out]; rfl, rfl⟩
def n64V : World → Nat → List Value → Prop := fun _ a vs => vs = [.int .u64 (a : Int)]
theorem info_u64 : (Tryz.prog.info? 232).map (fun i => (i.zero, i.size, i.bytes)) = some (some (.int .u64 0), 1, 8) := by kernel_rfl
theorem rem_ne (k p : Nat) : (((k : Int) + 2) % (p : Int) != 0) = ((k + 2) % p != 0) := by
 have e : ((k : Int) + 2) % (p : Int) = (((k + 2) % p : Nat) : Int) := by rw [Int.natCast_emod]; rfl
 rw [e, Bool.eq_iff_iff]
 generalize (k + 2) % p = a
 simp
theorem primes_ok (n K : Nat) (hK : (prmAt K).length = n) (hlt : ∀ k, k < K → (prmAt k).length < n) (hK2 : K ≤ 1000) (hn2 : n ≤ 1000) (w : World) :
  Calls Tryz.prog 173 #[.int .i64 n] w fun e w' => ∃ v, e = .returned v ∧ OwnL n64V w.heap.size 232 1 w' v (prmAt K) ∧ Chg Non w w' := by
 have HL := Lh hlt
 have HK := Lh hK
 clear hlt hK
 go_enter Tryz.func173, Tryz.ntmps173
 go_wp2_with fail
 go_loopw [3, 4] (fun ov xv wr => ∃ (k : Nat) (lv : Value), k ≤ K ∧ lv = ov ∧ xv = .int .u64 ((k + 2 : Nat) : Int) ∧ Hid (OwnL n64V w.heap.size 232 1 wr lv (prmAt k)) ∧ Hid (Chg Non w wr)) (fun _ xv _ => K + 2 - (intOf xv).toNat)
 case atStart => exact ⟨0, _, Nat.zero_le _, rfl, rfl, Lh (OwnL.nil _ _ _ _ _), Lh (Chg.refl _ _)⟩
 case round =>
  obtain ⟨k, lv, hk, rfl, rfl, HO, HG⟩ := hrel
  obtain ⟨A, c, rfl, hc, hcm, hrd⟩ := HO.out.rd
  have HR := Lh hrd
  have HMem := Lh (prmAt_mem k)
  have HS : Hid (prmAt (k + 1) = if prmB (prmAt k) (k + 2) then prmAt k ++ [k + 2] else prmAt k) := Lh rfl
  clear hrd
  unfold maxLen at hcm
  by_cases hlt : k < K
  ·have hln := HL.out k hlt
   obtain ⟨l, hl⟩ : ∃ l, prmAt k = l := ⟨_, rfl⟩
   rw [hl] at HO HR HMem HS hln hc
   rw [hl]
   clear hl
   have hltd : decide ((l.length : Int) < (n : Int)) = true := by rw [decide_eq_true_eq]; omega
   go_wp2_with fail
   go_loop [5, 16] (fun bv iv => ∃ j : Nat, j ≤ l.length ∧ iv = .int .i64 j ∧ bv = .bool ((l.take j).all fun p => (k + 2) % p != 0)) (fun _ iv => l.length - (intOf iv).toNat)
   case atStart => exact ⟨0, Nat.zero_le _, rfl, rfl⟩
   case round =>
    obtain ⟨j, hj, rfl, rfl⟩ := hrel
    by_cases hjl : j < l.length
    ·obtain ⟨p, hp⟩ : ∃ p, l[j]? = some p := ⟨_, List.getElem?_eq_getElem hjl⟩
     have hp2 := HMem.out p (List.mem_of_getElem? hp)
     have hjd : decide ((j : Int) < (l.length : Int)) = true := by rw [decide_eq_true_eq]; omega
     obtain ⟨b, o, vs, rfl, _, _, hcell, rfl⟩ := HR.out j p hp
     have k0 : wr.cell? ⟨b, o + j, none⟩ = some (.int .u64 (p : Int)) := by have := hcell 0 _ rfl; rwa [Nat.mul_one, Nat.add_zero] at this
     have HJ : Hid (l.take (j + 1) = l.take j ++ [p]) := Lh (by
       obtain ⟨hk, rfl⟩ := List.getElem?_eq_some_iff.1 hp
       rw [List.take_succ_eq_append_getElem hk])
     clear hcell hp
     cases hb : (l.take j).all fun p => (k + 2) % p != 0 with
     | false =>
      have HF : Hid (((l.take (j + 1)).all fun p => (k + 2) % p != 0) = false) := Lh (by rw [HJ.out, List.all_append, hb]; rfl)
      clear hb
      go_wp2
      go_round
      case rel => exact ⟨j + 1, by omega, by go_num, by rw [HF.out]⟩
      case measure => simp [intOf]; omega
     | true =>
      have HF : Hid (((l.take (j + 1)).all fun p => (k + 2) % p != 0) = ((k + 2) % p != 0)) := Lh (by rw [HJ.out, List.all_append, hb]; simp)
      clear hb
      go_wp2
      go_round
      case rel => exact ⟨j + 1, by omega, by go_num, by rw [HF.out]; exact congrArg Value.bool (rem_ne k p)⟩
      case measure => simp [intOf]; omega
    ·obtain rfl : j = l.length := by omega
     have hjd : decide ((l.length : Int) < (l.length : Int)) = false := by simp
     rw [List.take_length]
     have hB : (l.all fun p => (k + 2) % p != 0) = prmB l (k + 2) := rfl
     rw [hB]
     clear hB
     cases hb : prmB l (k + 2) with
     | false =>
      rw [hb] at HS
      simp only [Bool.false_eq_true, if_false] at HS
      clear hb
      go_wp2_with fail
      go_roundw
      case rel => exact ⟨k + 1, _, by omega, rfl, by go_num, by rw [HS.out]; exact HO, HG⟩
      case measure => simp [intOf]; omega
     | true =>
      rw [hb] at HS
      simp only [if_true] at HS
      clear hb
      go_wp2_with (first
        | (refine sel (some 32) (.call _) ?_; refine Vm_stop ?_))
      refine HoleV.mk ?_
      refine wpList_snocL n64V rfl (.tmp 29) (.tmp 31) 230 rfl w.heap.size 232 _ 1 8 Tryz.underlying230 info_u64 rfl (by omega) (.slice A l.length c) l rfl (HO.out.non ((Chg.refl Non wr).alloc _) (fun _ _ h => h)) wr.heap.size (k + 2) #[.int .u64 ((k : Int) + 2)] 232 rfl (blk_new _ _) rfl (by simp [Value.oneCell']) ?_ (by omega) (by have := HG.out.size; simp; omega) (fun _ _ _ _ h => h) ?_ ?_
      ·omega
      ·show [Value.int .u64 ((k : Int) + 2)] = [Value.int .u64 ((k + 2 : Nat) : Int)]
       rw [Int.natCast_add]
       rfl
      intro v2 w2 ho hg hv
      have HO2 : Hid (OwnL n64V w.heap.size 232 1 w2 v2 (prmAt (k + 1))) := Lh (by rw [HS.out]; exact ho)
      have HG2 : Hid (Chg Non w w2) := Lh ((HG.out.alloc _).then_new hg (fun x e => (HO.out.ge e).1))
      obtain ⟨A6, c6, hv6, hl6, hm6, _⟩ := ho.rd
      obtain ⟨n6, hn6⟩ : ∃ q, (l ++ [k + 2]).length = q := ⟨_, rfl⟩
      rw [hn6] at hv6
      subst hv6
      clear ho hg hv
      go_wp2_with fail
      exact ⟨⟨k + 1, _, by omega, rfl, by go_num, HO2, HG2⟩, by simp [intOf]; omega⟩
  ·obtain rfl : k = K := by omega
   have hnl : ¬ ((prmAt k).length < n) := by rw [HK.out]; omega
   go_wp2_with fail
   go_ret
   exact ⟨_, rfl, HO.out, HG.out⟩
end
section
open Go.RowKit
def arr (l : List Nat) : Array Value := (l.map fun x : Nat => Value.int .u32 (x : Int)).toArray
theorem arr_size (l : List Nat) : (arr l).size = l.length := by simp [arr]
theorem arr_at {l : List Nat} {i x : Nat} (h : l[i]? = some x) : (arr l)[i]? = some (.int .u32 (x : Int)) := by simp [arr, h]
theorem arr_set (l : List Nat) (i x : Nat) : (arr l).setIfInBounds i (.int .u32 (x : Int)) = arr (l.set i x) := by simp [arr, List.map_set]
theorem arr_one (l : List Nat) : (arr l).all (·.oneCell') = true := by
 rw [Array.all_eq_true]
 intro i hi
 simp [arr, Value.oneCell']
def fst (F : List Nat) (k : Nat) : List Nat := F.take k ++ List.replicate (F.length - k) 0
theorem fst_len {F : List Nat} {k : Nat} (h : k ≤ F.length) : (fst F k).length = F.length := by simp [fst]; omega
theorem fst_all (F : List Nat) : fst F F.length = F := by simp [fst]
theorem fst_zero (F : List Nat) : fst F 0 = List.replicate F.length 0 := by simp [fst]
theorem fst_set {F : List Nat} {k x : Nat} (h : F[k]? = some x) : (fst F k).set k x = fst F (k + 1) := by
 obtain ⟨hk, rfl⟩ := List.getElem?_eq_some_iff.1 h
 unfold fst
 rw [List.set_append_right _ _ (by rw [List.length_take]; omega), List.length_take, Nat.min_eq_left (by omega), Nat.sub_self, List.take_succ_eq_append_getElem hk, List.append_assoc]
 congr 1
 rw [show F.length - k = (F.length - (k + 1)) + 1 by omega, List.replicate_succ]
 rfl
theorem fst_lt {F : List Nat} {i x k : Nat} (h : F[i]? = some x) (hk : i < k) : (fst F k)[i]? = some x := by
 have hi := (List.getElem?_eq_some_iff.1 h).1
 unfold fst
 rw [List.getElem?_append_left (by rw [List.length_take]; omega), List.getElem?_take_of_lt hk]
 exact h
theorem fst_there {F : List Nat} {k : Nat} (h : k < F.length) : (fst F k)[k]? = some 0 := by
 unfold fst
 rw [List.getElem?_append_right (by rw [List.length_take]; omega), List.length_take, Nat.min_eq_left (by omega), Nat.sub_self, List.getElem?_replicate, if_pos (by omega)]
def hL : List Nat := [shaH.a, shaH.b, shaH.c, shaH.d, shaH.e, shaH.f, shaH.g, shaH.h]
theorem First_ok_zero : arr (fst hL 0) = #[.int .u32 0, .int .u32 0, .int .u32 0, .int .u32 0, .int .u32 0, .int .u32 0, .int .u32 0, .int .u32 0] := by
 rw [fst_zero]
 rfl
theorem First_ok (w : World) :
  Calls Tryz.prog 101 #[] w fun e w' => e = .returned (.agg (arr hL)) ∧ Chg Non w w' := by
 have HPr := Lh (fun W => primes_ok 8 18 (by rw [prm8]; rfl) (fun k hk => prm8_lt hk) (by decide) (by decide) W)
 have HF : Hid (hL = (prmAt 18).map (fun p => (frAt sqB p 37).1 % 4294967296)) := Lh (shaH_at).symm
 have HPL : Hid ((prmAt 18).length = 8) := Lh (by rw [prm8]; rfl)
 have HFL : Hid (hL.length = 8) := Lh rfl
 have HMem := Lh (prmAt_mem 18)
 have hz := First_ok_zero
 obtain ⟨F, hF⟩ : ∃ F, hL = F := ⟨_, rfl⟩
 rw [hF] at HF HFL hz ⊢
 clear hF
 obtain ⟨l, hl⟩ : ∃ l, prmAt 18 = l := ⟨_, rfl⟩
 rw [hl] at HPr HF HPL HMem
 clear hl
 obtain ⟨Z, hZ⟩ : ∃ Z, arr (fst F 0) = Z := ⟨_, rfl⟩
 have HZ := Lh hZ
 rw [hZ] at hz
 clear hZ
 go_enter Tryz.func101, Tryz.ntmps101
 go_wp2_with (first | rw [← hz] | fail)
 refine (HPr.out _).mono ?_
 rintro e w1 ⟨v, rfl, ho, hg1⟩
 obtain ⟨s, hs⟩ : ∃ s, w.heap.size = s := ⟨_, rfl⟩
 have hs2 : ((w.alloc (Obj.cells Z 162)).alloc (Obj.cells Z 162)).heap.size = s + 2 := by rw [← hs]; simp
 rw [hs2] at ho
 have HB0 := Lh (blk_keep (al_2_0 w (.cells Z 162) (.cells Z 162)) hg1 (fun e => e))
 have HB1 := Lh (blk_keep (al_2_1 w (.cells Z 162) (.cells Z 162)) hg1 (fun e => e))
 have HG1 := Lh ((((Chg.refl Non w).alloc _).alloc _).then_non hg1)
 have hsz1 : s + 2 ≤ w1.heap.size := by rw [← hs2]; exact hg1.size
 rw [hs] at HB0 HB1
 obtain ⟨A, c, rfl, hc, hcm, hrd⟩ := ho.rd
 have HGe := Lh (fun g e => (ho.ge (g := g) e).1)
 have HR := Lh hrd
 clear hg1 hrd ho
 rw [hs]
 have hll := HPL.out
 rw [hll]
 unfold maxLen at hcm
 go_wp2_with fail
 go_loopw [6] (fun iv wr => ∃ k : Nat, k ≤ 8 ∧ iv = .int .i64 k ∧ Hid (wr.heap[s + 1]? = some (.cells (arr (fst F k)) 162 (0, 0))) ∧ Hid (Chg (fun k => k = s + 1) w1 wr)) (fun iv _ => 8 - (intOf iv).toNat)
 case atStart => exact ⟨0, Nat.zero_le _, rfl, by rw [HZ.out]; exact HB1, Lh (Chg.refl _ _)⟩
 case round =>
  obtain ⟨k, hk, rfl, HB, HG⟩ := hrel
  by_cases hlt : k < 8
  ·obtain ⟨p, hp⟩ : ∃ p, l[k]? = some p := ⟨_, List.getElem?_eq_getElem (by omega)⟩
   have hp2 := HMem.out p (List.mem_of_getElem? hp)
   obtain ⟨b, o, vs, rfl, hbI, _, hcell, rfl⟩ := HR.out k p hp
   have hb2 := HGe.out b hbI
   have k0 : wr.cell? ⟨b, o + k, none⟩ = some (.int .u64 (p : Int)) := by
    have := HG.out.cell_some (hcell 0 _ rfl) (fun e => by have e : b = s + 1 := e; omega)
    rwa [Nat.mul_one, Nat.add_zero] at this
   have k1 : wr.cell? ⟨s + 1, k, none⟩ = some (.int .u32 ((0 : Nat) : Int)) := blk_cell HB.out k (arr_at (fst_there (by rw [HFL.out]; exact hlt)))
   have f1 := blk_free HB.out k
   have HFr := Lh (fracSq p (by omega))
   have HSet : Hid ((arr (fst F k)).setIfInBounds k (.int .u32 (((frAt sqB p 37).1 % 4294967296 : Nat) : Int)) = arr (fst F (k + 1))) := Lh (by
     rw [arr_set, fst_set]
     rw [HF.out, List.getElem?_map, hp]
     rfl)
   obtain ⟨y, hy⟩ : ∃ y, (frAt sqB p 37).1 % 4294967296 = y := ⟨_, rfl⟩
   rw [hy] at HFr HSet
   clear hy hp hcell
   go_wp2_with fail
   refine (HFr.out _).mono ?_
   rintro e w2 ⟨rfl, rfl⟩
   go_wp2
   go_roundw
   case rel => exact ⟨k + 1, by omega, by go_num, Lh (by rw [heap_setCell_same _ _ _ _ _ _ HB.out, HSet.out]), Lh (HG.out.trans_same (chg_set _ _ _ _))⟩
   case measure => simp [intOf]; omega
  ·obtain rfl : k = 8 := by omega
   have HBF : Hid (wr.heap[s + 1]? = some (.cells (arr F) 162 (0, 0))) := Lh (by have h := HB.out; rwa [← HFL.out, fst_all] at h)
   have HB0' := Lh (blk_keep HB0.out HG.out (fun e => by have e : s = s + 1 := e; omega))
   have hZs : Z.size = 8 := by rw [← HZ.out, arr_size, fst_len (Nat.zero_le _), HFL.out]
   have HFs : Hid ((arr F).size = 8) := Lh (by rw [arr_size, HFL.out])
   have HZs := Lh hZs
   clear hz hZs
   go_wp2_with (first
     | (refine sel (some 16) (.load 162 (.tmp 1)) ?_; refine wpList_load_row rfl 162 (.tmp 1) rfl (s + 1) rfl 162 (arr F) (0, 0) _ HBF.out Tryz.underlying162 rfl (by rw [HFs.out]; kernel_rfl) ?_)
     | (refine sel none (.store 162 (.tmp 0) (.tmp 16)) ?_
        refine wpList_store_rowA rfl 162 (.tmp 0) (.tmp 16) rfl s (arr F) rfl rfl 162 _ HB0'.out (by rw [HFs.out]; kernel_rfl) (HZs.out.trans HFs.out.symm) (arr_one F) ?_
        intro W1 hgW1 hbW1))
   refine bodyPost_ret (results_cell_row Tryz.results101 _ _ s 162 (arr F) (0, 0) _ rfl hbW1 Tryz.underlying162 rfl (by rw [HFs.out]; kernel_rfl)) rfl ⟨rfl, ?_⟩
   exact (HG1.out.then_new HG.out (fun x e => by have e : x = s + 1 := e; omega)).then_new hgW1 (fun x e => by have e : x = s := e; omega)
theorem Consts_ok_zero : arr (fst shaK 0) = #[.int .u32 0, .int .u32 0, .int .u32 0, .int .u32 0, .int .u32 0, .int .u32 0, .int .u32 0, .int .u32 0, .int .u32 0, .int .u32 0, .int .u32 0, .int .u32 0, .int .u32 0, .int .u32 0, .int .u32 0, .int .u32 0, .int .u32 0, .int .u32 0, .int .u32 0, .int .u32 0, .int .u32 0, .int .u32 0, .int .u32 0, .int .u32 0, .int .u32 0, .int .u32 0, .int .u32 0, .int .u32 0, .int .u32 0, .int .u32 0, .int .u32 0, .int .u32 0, .int .u32 0, .int .u32 0, .int .u32 0, .int .u32 0, .int .u32 0, .int .u32 0, .int .u32 0, .int .u32 0, .int .u32 0, .int .u32 0, .int .u32 0, .int .u32 0, .int .u32 0, .int .u32 0, .int .u32 0, .int .u32 0, .int .u32 0, .int .u32 0, .int .u32 0, .int .u32 0, .int .u32 0, .int .u32 0, .int .u32 0, .int .u32 0, .int .u32 0, .int .u32 0, .int .u32 0, .int .u32 0, .int .u32 0, .int .u32 0, .int .u32 0, .int .u32 0] := by
 rw [fst_zero]
 rfl
theorem Consts_ok (w : World) :
  Calls Tryz.prog 102 #[] w fun e w' => e = .returned (.agg (arr shaK)) ∧ Chg Non w w' := by
 have HPr := Lh (fun W => primes_ok 64 310 prm64 (fun k hk => prm64_lt hk) (by decide) (by decide) W)
 have HF : Hid (shaK = (prmAt 310).map (fun p => (frAt cbB p 37).1 % 4294967296)) := Lh (shaK_at).symm
 have HPL : Hid ((prmAt 310).length = 64) := Lh prm64
 have HFL : Hid (shaK.length = 64) := Lh rfl
 have HMem := Lh (prmAt_mem 310)
 have hz := Consts_ok_zero
 obtain ⟨F, hF⟩ : ∃ F, shaK = F := ⟨_, rfl⟩
 rw [hF] at HF HFL hz ⊢
 clear hF
 obtain ⟨l, hl⟩ : ∃ l, prmAt 310 = l := ⟨_, rfl⟩
 rw [hl] at HPr HF HPL HMem
 clear hl
 obtain ⟨Z, hZ⟩ : ∃ Z, arr (fst F 0) = Z := ⟨_, rfl⟩
 have HZ := Lh hZ
 rw [hZ] at hz
 clear hZ
 go_enter Tryz.func102, Tryz.ntmps102
 go_wp2_with (first | rw [← hz] | fail)
 refine (HPr.out _).mono ?_
 rintro e w1 ⟨v, rfl, ho, hg1⟩
 obtain ⟨s, hs⟩ : ∃ s, w.heap.size = s := ⟨_, rfl⟩
 have hs2 : ((w.alloc (Obj.cells Z 164)).alloc (Obj.cells Z 164)).heap.size = s + 2 := by rw [← hs]; simp
 rw [hs2] at ho
 have HB0 := Lh (blk_keep (al_2_0 w (.cells Z 164) (.cells Z 164)) hg1 (fun e => e))
 have HB1 := Lh (blk_keep (al_2_1 w (.cells Z 164) (.cells Z 164)) hg1 (fun e => e))
 have HG1 := Lh ((((Chg.refl Non w).alloc _).alloc _).then_non hg1)
 have hsz1 : s + 2 ≤ w1.heap.size := by rw [← hs2]; exact hg1.size
 rw [hs] at HB0 HB1
 obtain ⟨A, c, rfl, hc, hcm, hrd⟩ := ho.rd
 have HGe := Lh (fun g e => (ho.ge (g := g) e).1)
 have HR := Lh hrd
 clear hg1 hrd ho
 rw [hs]
 have hll := HPL.out
 rw [hll]
 unfold maxLen at hcm
 go_wp2_with fail
 go_loopw [6] (fun iv wr => ∃ k : Nat, k ≤ 64 ∧ iv = .int .i64 k ∧ Hid (wr.heap[s + 1]? = some (.cells (arr (fst F k)) 164 (0, 0))) ∧ Hid (Chg (fun k => k = s + 1) w1 wr)) (fun iv _ => 64 - (intOf iv).toNat)
 case atStart => exact ⟨0, Nat.zero_le _, rfl, by rw [HZ.out]; exact HB1, Lh (Chg.refl _ _)⟩
 case round =>
  obtain ⟨k, hk, rfl, HB, HG⟩ := hrel
  by_cases hlt : k < 64
  ·obtain ⟨p, hp⟩ : ∃ p, l[k]? = some p := ⟨_, List.getElem?_eq_getElem (by omega)⟩
   have hp2 := HMem.out p (List.mem_of_getElem? hp)
   obtain ⟨b, o, vs, rfl, hbI, _, hcell, rfl⟩ := HR.out k p hp
   have hb2 := HGe.out b hbI
   have k0 : wr.cell? ⟨b, o + k, none⟩ = some (.int .u64 (p : Int)) := by
    have := HG.out.cell_some (hcell 0 _ rfl) (fun e => by have e : b = s + 1 := e; omega)
    rwa [Nat.mul_one, Nat.add_zero] at this
   have k1 : wr.cell? ⟨s + 1, k, none⟩ = some (.int .u32 ((0 : Nat) : Int)) := blk_cell HB.out k (arr_at (fst_there (by rw [HFL.out]; exact hlt)))
   have f1 := blk_free HB.out k
   have HFr := Lh (fracCb p (by omega))
   have HSet : Hid ((arr (fst F k)).setIfInBounds k (.int .u32 (((frAt cbB p 37).1 % 4294967296 : Nat) : Int)) = arr (fst F (k + 1))) := Lh (by
     rw [arr_set, fst_set]
     rw [HF.out, List.getElem?_map, hp]
     rfl)
   obtain ⟨y, hy⟩ : ∃ y, (frAt cbB p 37).1 % 4294967296 = y := ⟨_, rfl⟩
   rw [hy] at HFr HSet
   clear hy hp hcell
   go_wp2_with fail
   refine (HFr.out _).mono ?_
   rintro e w2 ⟨rfl, rfl⟩
   go_wp2
   go_roundw
   case rel => exact ⟨k + 1, by omega, by go_num, Lh (by rw [heap_setCell_same _ _ _ _ _ _ HB.out, HSet.out]), Lh (HG.out.trans_same (chg_set _ _ _ _))⟩
   case measure => simp [intOf]; omega
  ·obtain rfl : k = 64 := by omega
   have HBF : Hid (wr.heap[s + 1]? = some (.cells (arr F) 164 (0, 0))) := Lh (by have h := HB.out; rwa [← HFL.out, fst_all] at h)
   have HB0' := Lh (blk_keep HB0.out HG.out (fun e => by have e : s = s + 1 := e; omega))
   have hZs : Z.size = 64 := by rw [← HZ.out, arr_size, fst_len (Nat.zero_le _), HFL.out]
   have HFs : Hid ((arr F).size = 64) := Lh (by rw [arr_size, HFL.out])
   have HZs := Lh hZs
   clear hz hZs
   go_wp2_with (first
     | (refine sel (some 16) (.load 164 (.tmp 1)) ?_; refine wpList_load_row rfl 164 (.tmp 1) rfl (s + 1) rfl 164 (arr F) (0, 0) _ HBF.out Tryz.underlying164 rfl (by rw [HFs.out]; kernel_rfl) ?_)
     | (refine sel none (.store 164 (.tmp 0) (.tmp 16)) ?_
        refine wpList_store_rowA rfl 164 (.tmp 0) (.tmp 16) rfl s (arr F) rfl rfl 164 _ HB0'.out (by rw [HFs.out]; kernel_rfl) (HZs.out.trans HFs.out.symm) (arr_one F) ?_
        intro W1 hgW1 hbW1))
   refine bodyPost_ret (results_cell_row Tryz.results102 _ _ s 164 (arr F) (0, 0) _ rfl hbW1 Tryz.underlying164 rfl (by rw [HFs.out]; kernel_rfl)) rfl ⟨rfl, ?_⟩
   exact (HG1.out.then_new HG.out (fun x e => by have e : x = s + 1 := e; omega)).then_new hgW1 (fun x e => by have e : x = s := e; omega)
end
section
open Go.RowKit
theorem wds_get (b : List UInt8) : ∀ (n i : Nat), i < n → (wds b n)[i]? = some (num ((b.drop (4 * i)).take 4))
 | 0, i, h => by omega
 | n + 1, i, h => by
  unfold wds
  by_cases hi : i < n
  ·rw [List.getElem?_append_left (by rw [wds_length]; exact hi)]
   exact wds_get b n i hi
  ·obtain rfl : i = n := by omega
   rw [List.getElem?_append_right (by rw [wds_length]; exact Nat.le_refl _), wds_length, Nat.sub_self]
   rfl
theorem schedL_more (l : List Nat) (n : Nat) : ∀ (m i : Nat), i < l.length + n → (schedL (n + m) l)[i]? = (schedL n l)[i]?
 | 0, i, h => rfl
 | m + 1, i, h => by
  have e : schedL (n + (m + 1)) l = schedL (n + m) l ++ [wNext (schedL (n + m) l)] := rfl
  rw [e, List.getElem?_append_left (by rw [schedL_length]; omega)]
  exact schedL_more l n m i h
theorem sched_low (b : List UInt8) (i : Nat) (h : i < 16) : (sched b)[i]? = some (num ((b.drop (4 * i)).take 4)) := by
 have h1 := schedL_more (wds b 16) 0 48 i (by rw [wds_length]; omega)
 rw [Nat.zero_add] at h1
 unfold sched
 rw [h1]
 exact wds_get b 16 i h
theorem getD_some {l : List Nat} {i x : Nat} (h : l[i]? = some x) : l.getD i 0 = x := by rw [List.getD_eq_getElem?_getD, h]; rfl
theorem sched_high (b : List UInt8) (k : Nat) (h1 : 16 ≤ k) (h2 : k < 64) {p q r s : Nat} (hp : (sched b)[k - 16]? = some p) (hq : (sched b)[k - 7]? = some q) (hr : (sched b)[k - 15]? = some r) (hs : (sched b)[k - 2]? = some s) :
  (sched b)[k]? = some ((p + q + sg0 r + sg1 s) % W32) := by
 obtain ⟨j, rfl⟩ : ∃ j, k = 16 + j := ⟨k - 16, by omega⟩
 have hw := wds_length b 16
 have low : ∀ i, i < 16 + j → (sched b)[i]? = (schedL j (wds b 16))[i]? := fun i hi => by
  unfold sched
  rw [show 48 = j + (48 - j) by omega]
  exact schedL_more (wds b 16) j (48 - j) i (by rw [hw]; exact hi)
 have hl : (schedL j (wds b 16)).length = 16 + j := by rw [schedL_length, hw]
 have e1 : (sched b)[16 + j]? = (schedL (j + 1) (wds b 16))[16 + j]? := by
  unfold sched
  rw [show 48 = (j + 1) + (47 - j) by omega]
  exact schedL_more (wds b 16) (j + 1) (47 - j) (16 + j) (by rw [hw]; omega)
 rw [low _ (by omega)] at hp hq hr hs
 have e2 : schedL (j + 1) (wds b 16) = schedL j (wds b 16) ++ [wNext (schedL j (wds b 16))] := rfl
 rw [e1, e2, List.getElem?_append_right (by omega), hl, Nat.sub_self]
 show some (wNext (schedL j (wds b 16))) = _
 unfold wNext
 rw [hl, getD_some hp, getD_some hq, getD_some hr, getD_some hs]
theorem num4_lt (l : List UInt8) (h : l.length ≤ 4) : num l < 4294967296 := by
 have h1 := num_take_lt l l.length (Nat.le_refl _)
 rw [List.take_length] at h1
 have h2 : 256 ^ l.length ≤ 256 ^ 4 := Nat.pow_le_pow_right (by omega) h
 omega
theorem sched_lt (b : List UInt8) : ∀ (k x : Nat), (sched b)[k]? = some x → x < 4294967296 := by
 intro k x h
 have hk := (List.getElem?_eq_some_iff.1 h).1
 rw [sched_length] at hk
 by_cases h16 : k < 16
 ·rw [sched_low b k h16] at h
  injection h with h
  rw [← h]
  exact num4_lt _ (by simp; omega)
 ·have get : ∀ i, i < 64 → ∃ y, (sched b)[i]? = some y := fun i hi => ⟨_, List.getElem?_eq_getElem (by rw [sched_length]; exact hi)⟩
  obtain ⟨p, hp⟩ := get (k - 16) (by omega)
  obtain ⟨q, hq⟩ := get (k - 7) (by omega)
  obtain ⟨r, hr⟩ := get (k - 15) (by omega)
  obtain ⟨s, hs⟩ := get (k - 2) (by omega)
  rw [sched_high b k (by omega) hk hp hq hr hs] at h
  injection h with h
  rw [← h]
  exact Nat.mod_lt _ (by decide)
theorem wrap4 (p q y z : Nat) : ((p : Int) + (q : Int) + (y : Int) + (z : Int)) % 4294967296 = (((p + q + y + z) % W32 : Nat) : Int) := by
 unfold W32
 omega
theorem Sched_ok (A : Option Addr) (b : List UInt8) (c : Nat) (w : World) (hr : Rd w A b) (hl : b.length = 64) (hc : 64 ≤ c) (hcm : c ≤ maxLen) :
  Calls Tryz.prog 180 #[.slice A 64 c] w fun e w' => e = .returned (.agg (arr (sched b))) ∧ Chg Non w w' := by
 have HCut := Lh (fun W (hW : Chg Non w W) => Cut_ok A b c 4 W (hr.non hW) (by omega) hcm (by omega) (by omega) (by omega))
 rw [hl] at HCut
 have hcl : (cutL b 4).length = 16 := by rw [cutL_length, hl]; rfl
 have HEl : Hid (∀ i, i < 16 → (cutL b 4)[i]? = some (pcL b 4 i) ∧ (pcL b 4 i).length = 4) := Lh (fun i hi => ⟨by rw [cut_is, List.getElem?_map, List.getElem?_range (by rw [hl]; exact hi)]; rfl, by rw [pcL_len, hl]; omega⟩)
 have HLow : Hid (∀ i, i < 16 → (sched b)[i]? = some (num (pcL b 4 i))) := Lh (fun i hi => sched_low b i hi)
 have HHigh := Lh (fun k h1 h2 p q r s => sched_high b k h1 h2 (p := p) (q := q) (r := r) (s := s))
 have HLt := Lh (sched_lt b)
 have HFL := Lh (sched_length b)
 have hz : arr (fst (sched b) 0) = #[.int .u32 0, .int .u32 0, .int .u32 0, .int .u32 0, .int .u32 0, .int .u32 0, .int .u32 0, .int .u32 0, .int .u32 0, .int .u32 0, .int .u32 0, .int .u32 0, .int .u32 0, .int .u32 0, .int .u32 0, .int .u32 0, .int .u32 0, .int .u32 0, .int .u32 0, .int .u32 0, .int .u32 0, .int .u32 0, .int .u32 0, .int .u32 0, .int .u32 0, .int .u32 0, .int .u32 0, .int .u32 0, .int .u32 0, .int .u32 0, .int .u32 0, .int .u32 0, .int .u32 0, .int .u32 0, .int .u32 0, .int .u32 0, .int .u32 0, .int .u32 0, .int .u32 0, .int .u32 0, .int .u32 0, .int .u32 0, .int .u32 0, .int .u32 0, .int .u32 0, .int .u32 0, .int .u32 0, .int .u32 0, .int .u32 0, .int .u32 0, .int .u32 0, .int .u32 0, .int .u32 0, .int .u32 0, .int .u32 0, .int .u32 0, .int .u32 0, .int .u32 0, .int .u32 0, .int .u32 0, .int .u32 0, .int .u32 0, .int .u32 0, .int .u32 0] := by
  rw [fst_zero, sched_length]
  rfl
 obtain ⟨F, hF⟩ : ∃ F, sched b = F := ⟨_, rfl⟩
 rw [hF] at HLow HHigh HLt HFL hz ⊢
 obtain ⟨L, hL⟩ : ∃ L, cutL b 4 = L := ⟨_, rfl⟩
 rw [hL] at HCut HEl hcl
 clear hF hL hr
 obtain ⟨Z, hZ⟩ : ∃ Z, arr (fst F 0) = Z := ⟨_, rfl⟩
 have HZ := Lh hZ
 rw [hZ] at hz
 clear hZ
 have hg2 := ((Chg.refl Non w).alloc (.cells Z 164)).alloc (.cells Z 164)
 have HC2 := Lh (HCut.out _ hg2)
 clear hg2 HCut
 go_enter Tryz.func180, Tryz.ntmps180
 go_wp2_with (first | rw [← hz] | fail)
 refine HC2.out.mono ?_
 rintro e w1 ⟨v, rfl, ho, hg1⟩
 obtain ⟨s, hs⟩ : ∃ s, w.heap.size = s := ⟨_, rfl⟩
 have hs2 : ((w.alloc (Obj.cells Z 164)).alloc (Obj.cells Z 164)).heap.size = s + 2 := by rw [← hs]; simp
 rw [hs2] at ho
 have HB0 := Lh (blk_keep (al_2_0 w (.cells Z 164) (.cells Z 164)) hg1 (fun e => e))
 have HB1 := Lh (blk_keep (al_2_1 w (.cells Z 164) (.cells Z 164)) hg1 (fun e => e))
 have HG1 := Lh ((((Chg.refl Non w).alloc _).alloc _).then_non hg1)
 have hsz1 : s + 2 ≤ w1.heap.size := by rw [← hs2]; exact hg1.size
 rw [hs] at HB0 HB1
 obtain ⟨A1, c1, rfl, hc1, hcm1, hrd⟩ := ho.rd
 have HGe := Lh (fun g e => (ho.ge (g := g) e).1)
 have HR := Lh hrd
 clear hg1 hrd ho HC2
 rw [hs]
 rw [hcl]
 rw [hcl] at hc1
 unfold maxLen at hcm1
 go_wp2_with fail
 go_loopw [12] (fun iv wr => ∃ k : Nat, k ≤ 16 ∧ iv = .int .i64 k ∧ Hid (wr.heap[s + 1]? = some (.cells (arr (fst F k)) 164 (0, 0))) ∧ Hid (Chg (fun k => k = s + 1) w1 wr)) (fun iv _ => 16 - (intOf iv).toNat)
 case atStart => exact ⟨0, Nat.zero_le _, rfl, by rw [HZ.out]; exact HB1, Lh (Chg.refl _ _)⟩
 case round =>
  obtain ⟨k, hk, rfl, HB, HG⟩ := hrel
  by_cases hlt : k < 16
  ·obtain ⟨b0, o, vs, rfl, hbI, _, hcell, m, rfl, ⟨A2, c2, rfl, q1, q2, q3, q4⟩, _⟩ := HR.out k _ (HEl.out k hlt).1
   have hpl := (HEl.out k hlt).2
   rw [hpl] at q1 hcell
   have hb2 := HGe.out b0 hbI
   have k0 : wr.cell? ⟨b0, o + k, none⟩ = some (.slice A2 4 c2) := by
    have := HG.out.cell_some (hcell 0 _ rfl) (fun e => by have e : b0 = s + 1 := e; omega)
    rwa [Nat.mul_one, Nat.add_zero] at this
   have k1 : wr.cell? ⟨s + 1, k, none⟩ = some (.int .u32 ((0 : Nat) : Int)) := blk_cell HB.out k (arr_at (fst_there (by rw [HFL.out]; omega)))
   have f1 := blk_free HB.out k
   unfold maxLen at q2
   have HLd := Lh (Load32_ok A2 (pcL b 4 k) c2 wr (q3.keep HG.out (fun b2 o2 e hl e2 => by have e2 : b2 = s + 1 := e2; have := (q4 b2 o2 e hl).1; omega)) hpl q1 q2)
   have HSet : Hid ((arr (fst F k)).setIfInBounds k (.int .u32 ((num (pcL b 4 k) : Nat) : Int)) = arr (fst F (k + 1))) := Lh (by rw [arr_set, fst_set (HLow.out k hlt)])
   have hxl := HLt.out k _ (HLow.out k hlt)
   obtain ⟨y, hy⟩ : ∃ y, num (pcL b 4 k) = y := ⟨_, rfl⟩
   rw [hy] at HLd HSet hxl
   clear hy hcell q3 q4
   go_wp2_with fail
   refine (HLd.out).mono ?_
   rintro e w2 ⟨rfl, rfl⟩
   go_wp2
   go_roundw
   case rel => exact ⟨k + 1, by omega, by go_num, Lh (by rw [heap_setCell_same _ _ _ _ _ _ HB.out, HSet.out]), Lh (HG.out.trans_same (chg_set _ _ _ _))⟩
   case measure => simp [intOf]; omega
  ·obtain rfl : k = 16 := by omega
   rw [show Value.int .i64 ((16 : Nat) : Int) = .int .i64 16 from rfl]
   go_wp2_with fail
   go_loopw [8] (fun iv wr => ∃ k : Nat, 16 ≤ k ∧ k ≤ 64 ∧ iv = .int .i64 k ∧ Hid (wr.heap[s + 1]? = some (.cells (arr (fst F k)) 164 (0, 0))) ∧ Hid (Chg (fun k => k = s + 1) w1 wr)) (fun iv _ => 64 - (intOf iv).toNat)
   case atStart => exact ⟨16, by omega, by omega, rfl, HB, HG⟩
   case round =>
    clear HB HG
    obtain ⟨k, hk1, hk2, rfl, HB, HG⟩ := hrel
    by_cases hlt : k < 64
    ·obtain ⟨k16, e16⟩ : ∃ z, k - 16 = z := ⟨_, rfl⟩
     obtain ⟨p, hp⟩ : ∃ y, F[k16]? = some y := ⟨_, List.getElem?_eq_getElem (by rw [HFL.out]; omega)⟩
     have d16 : (k : Int) - 16 = (k16 : Int) := by omega
     have l16 : (k16 : Int) < 64 := by omega
     have j16 : k16 < k := by omega
     have w16 := Go.IntWalk.i64_in (k16 : Int) (by omega)
     obtain ⟨k7, e7⟩ : ∃ z, k - 7 = z := ⟨_, rfl⟩
     obtain ⟨q, hq⟩ : ∃ y, F[k7]? = some y := ⟨_, List.getElem?_eq_getElem (by rw [HFL.out]; omega)⟩
     have d7 : (k : Int) - 7 = (k7 : Int) := by omega
     have l7 : (k7 : Int) < 64 := by omega
     have j7 : k7 < k := by omega
     have w7 := Go.IntWalk.i64_in (k7 : Int) (by omega)
     obtain ⟨k15, e15⟩ : ∃ z, k - 15 = z := ⟨_, rfl⟩
     obtain ⟨r, hr⟩ : ∃ y, F[k15]? = some y := ⟨_, List.getElem?_eq_getElem (by rw [HFL.out]; omega)⟩
     have d15 : (k : Int) - 15 = (k15 : Int) := by omega
     have l15 : (k15 : Int) < 64 := by omega
     have j15 : k15 < k := by omega
     have w15 := Go.IntWalk.i64_in (k15 : Int) (by omega)
     obtain ⟨k2, e2⟩ : ∃ z, k - 2 = z := ⟨_, rfl⟩
     obtain ⟨x, hx⟩ : ∃ y, F[k2]? = some y := ⟨_, List.getElem?_eq_getElem (by rw [HFL.out]; omega)⟩
     have d2 : (k : Int) - 2 = (k2 : Int) := by omega
     have l2 : (k2 : Int) < 64 := by omega
     have j2 : k2 < k := by omega
     have w2 := Go.IntWalk.i64_in (k2 : Int) (by omega)
     have HNew := Lh (HHigh.out k hk1 hlt p q r x (by rw [e16]; exact hp) (by rw [e7]; exact hq) (by rw [e15]; exact hr) (by rw [e2]; exact hx))
     have bp := HLt.out _ _ hp
     have bq := HLt.out _ _ hq
     have br := HLt.out _ _ hr
     have bx := HLt.out _ _ hx
     have HM1 : Hid (∀ W, Calls Tryz.prog 249 #[.int .u32 r, .int .i64 7, .int .i64 18, .int .i64 3] W fun e w' => e = .returned (.int .u32 (sg0 r : Nat)) ∧ W = w') := Lh (fun W => Moved_ok r 7 18 3 br (by omega) (by omega) (by omega) (by omega) (by omega) W)
     have HM2 : Hid (∀ W, Calls Tryz.prog 249 #[.int .u32 x, .int .i64 17, .int .i64 19, .int .i64 10] W fun e w' => e = .returned (.int .u32 (sg1 x : Nat)) ∧ W = w') := Lh (fun W => Moved_ok x 17 19 10 bx (by omega) (by omega) (by omega) (by omega) (by omega) W)
     have b1 := sg0_lt br
     have b2 := sg1_lt bx
     have HSet : Hid ((arr (fst F k)).setIfInBounds k (.int .u32 (((p + q + sg0 r + sg1 x) % W32 : Nat) : Int)) = arr (fst F (k + 1))) := Lh (by rw [arr_set, fst_set HNew.out])
     obtain ⟨y0, hy0⟩ : ∃ y, sg0 r = y := ⟨_, rfl⟩
     obtain ⟨y1, hy1⟩ : ∃ y, sg1 x = y := ⟨_, rfl⟩
     rw [hy0] at HM1 b1 HSet
     rw [hy1] at HM2 b2 HSet
     have HWr := Lh (wrap4 p q y0 y1)
     clear hy0 hy1 HNew
     go_wp2_with fail
     refine wp_region_still_tail 23 (by kernel_rfl) (by kernel_rfl) ?_
     simp only [List.take_succ_cons, List.take_zero, List.drop_succ_cons, List.drop_zero]
     change wpStill _ _ wr.drew (fun a' => wpList _ _ _ _ a' wr.drew) _ _
     have HBd := Lh (blk_keep HB.out ((Chg.refl Non wr).drew) (fun e => e))
     have HGd := Lh (HG.out.drew)
     generalize wr.drew = u7 at HBd HGd ⊢
     have c1 : u7.cell? ⟨s + 1, k16, none⟩ = some (.int .u32 (p : Int)) := blk_cell HBd.out _ (arr_at (fst_lt hp j16))
     have c2 : u7.cell? ⟨s + 1, k7, none⟩ = some (.int .u32 (q : Int)) := blk_cell HBd.out _ (arr_at (fst_lt hq j7))
     have c3 : u7.cell? ⟨s + 1, k15, none⟩ = some (.int .u32 (r : Int)) := blk_cell HBd.out _ (arr_at (fst_lt hr j15))
     have c4 : u7.cell? ⟨s + 1, k2, none⟩ = some (.int .u32 (x : Int)) := blk_cell HBd.out _ (arr_at (fst_lt hx j2))
     clear e16 e7 e15 e2 j16 j7 j15 j2 hp hq hr hx
     iterate 14 still_step
     still_call ((HM1.out u7).mono (fun e w' h => ⟨h.1, h.2.symm⟩))
     iterate 5 still_step
     still_call ((HM2.out u7).mono (fun e w' h => ⟨h.1, h.2.symm⟩))
     iterate 2 still_step
     refine wpStill_nil ?_
     clear c1 c2 c3 c4
     have k1 : u7.cell? ⟨s + 1, k, none⟩ = some (.int .u32 ((0 : Nat) : Int)) := blk_cell HBd.out k (arr_at (fst_there (by rw [HFL.out]; omega)))
     have f1 := blk_free HBd.out k
     go_wp2
     go_roundw
     case rel => exact ⟨k + 1, by omega, by omega, by go_num, Lh (by rw [heap_setCell_same _ _ _ _ _ _ HBd.out, HWr.out, HSet.out]), Lh (HGd.out.trans_same (chg_set _ _ _ _))⟩
     case measure => simp [intOf]; omega
    ·obtain rfl : k = 64 := by omega
     have HBF : Hid (wr.heap[s + 1]? = some (.cells (arr F) 164 (0, 0))) := Lh (by have h := HB.out; rwa [← HFL.out, fst_all] at h)
     have HB0' := Lh (blk_keep HB0.out HG.out (fun e => by have e : s = s + 1 := e; omega))
     have hZs : Z.size = 64 := by rw [← HZ.out, arr_size, fst_len (Nat.zero_le _), HFL.out]
     have HFs : Hid ((arr F).size = 64) := Lh (by rw [arr_size, HFL.out])
     have HZs := Lh hZs
     clear hz hZs
     go_wp2_with (first
       | (refine sel (some 53) (.load 164 (.tmp 3)) ?_; refine wpList_load_row rfl 164 (.tmp 3) rfl (s + 1) rfl 164 (arr F) (0, 0) _ HBF.out Tryz.underlying164 rfl (by rw [HFs.out]; kernel_rfl) ?_)
       | (refine sel none (.store 164 (.tmp 2) (.tmp 53)) ?_
          refine wpList_store_rowA rfl 164 (.tmp 2) (.tmp 53) rfl s (arr F) rfl rfl 164 _ HB0'.out (by rw [HFs.out]; kernel_rfl) (HZs.out.trans HFs.out.symm) (arr_one F) ?_
          intro W1 hgW1 hbW1))
     refine bodyPost_ret (results_cell_row Tryz.results180 _ _ s 164 (arr F) (0, 0) _ rfl hbW1 Tryz.underlying164 rfl (by rw [HFs.out]; kernel_rfl)) rfl ⟨rfl, ?_⟩
     exact (HG1.out.then_new HG.out (fun x e => by have e : x = s + 1 := e; omega)).then_new hgW1 (fun x e => by have e : x = s := e; omega)
end
end Go.Proofs.YtajkajgifigmbaaGreat
