import Derived.Test.YtmnaleaghfbclaaGreatDoorMgKernelNilA
import Derived.Test.YtmnaleaghfbclaaGreatDoorMgKernelNilB
import Derived.Test.YtmnaleaghfbclaaGreatDoorMgKernelNilN
import Derived.Test.YtmnaleaghfbclaaGreatDoorMgKernelNilX
import Derived.ProofKit
import Derived.WalkKit
import Derived.OpenShut
import Derived.ReadAgain
import Derived.HandedShaped
import Derived.Shelf.Vars
import Derived.Lib.LaidTab
import Derived.LaidMore
import Derived.Lay
import Derived.Stop.LaidErr
namespace Go.Proofs.YtmnaleaghfbclaaGreatDoor
set_option linter.unusedVariables false
set_option linter.unusedSimpArgs false
set_option maxHeartbeats 8000000
section
open Go.RowKit
theorem KerB.bound {N : Nat → Prop} {w : World} {k : Kn} {a : KAt} (h : KerB N w k a) : ∀ b, a.own b → b < w.heap.size := by
 rintro b (rfl | rfl | e)
 ·obtain ⟨vq, h1, _⟩ := h.cell
  exact blk_lt h1
 ·obtain ⟨m, ⟨⟨es, clock, h1, _⟩, _⟩, _⟩ := h.inp
  exact (Array.getElem?_eq_some_iff.1 h1).1
 ·obtain ⟨xss, ⟨_, h2⟩, _⟩ := h.parts
  rcases h2 with h0 | ⟨g, cap, cur, e2, hB, hb, r1⟩
  ·rw [h0.1] at e; cases e
  ·rw [e2] at e
   injection e with e
   subst e
   exact (Array.getElem?_eq_some_iff.1 hb).1
theorem sh_good1 : shK1.Good := sh_good.ticked
theorem sh_good2 : shK2.Good := sh_good1.ticked
theorem sh_good3 : shK3.Good := sh_good2.ticked
theorem sh_good4 : shK4.Good := sh_good3.ticked
theorem sh_in65 : shK4.inputE 1 (List.replicate 65 0) = 4 ∧ shK4.input 1 (List.replicate 65 0) = shK4 := by
 have h : shK4.inputE 1 (List.replicate 65 0) = 4 := by decide +kernel
 exact ⟨h, by unfold Kn.input; rw [h]; rfl⟩
theorem sh_in2 : shK4.inputE 2 [] = 2 ∧ shK4.input 2 [] = shK4 := by
 have h : shK4.inputE 2 [] = 2 := by decide +kernel
 exact ⟨h, by unfold Kn.input; rw [h]; rfl⟩
theorem sh_load : shK4.loadE 1 16 [1] = 180 ∧ shK4.load 1 16 [1] = shK4 := by
 obtain ⟨p, hp, _, _, _, hm⟩ := sh_part
 have h := load_some (id := 1) (at_ := 16) (b := [1]) (i := 0) sh_idx.1 hp
 have hE : memE p.mem 16 ([1] : List UInt8).length = 180 := by
  unfold memE
  simp [hm]
 rw [hE] at h
 exact ⟨h.1, h.2⟩
def shK5 : Kn := shK4.input 1 [1, 2]
theorem sh_in1 : shK4.inputE 1 [1, 2] = 0 := by decide +kernel
theorem sh_w5 : (shK5.waits 1).length = 2 := by decide +kernel
theorem sh_w4 : (shK4.waits 1).length = 0 ∧ (shK4.waits 2).length = 0 := by decide +kernel
theorem sh_phys : (physL ((shCfg.ps.map rgOf).zip (shK4.s.parts.map (·.mem)))).length = 4096 := by decide +kernel
theorem sh_part8 : ∃ p, shK4.s.parts[0]? = some p ∧ p.r.length = 8 ∧ p.pc = 0 ∧ p.st = 0 := by
 have h : (shK4.s.parts[0]?.map fun p => (decide (p.r.length = 8) && decide (p.pc = 0) && decide (p.st = 0))) = some true := by decide +kernel
 obtain ⟨p, hp, hq⟩ := Option.map_eq_some_iff.1 h
 simp only [Bool.and_eq_true, decide_eq_true_eq] at hq
 exact ⟨p, hp, hq.1.1, hq.1.2, hq.2⟩
theorem sh_small : shK4.Small := ⟨sh_good4.small.1, sh_good4.small.2.1, sh_good4.small.2.2⟩
theorem mk65 (W : World) : (Instr.makeSlice 50 (.int .i64 65) (.int .i64 65)).run Tryz.prog W = .ok (.slice (some ⟨W.heap.size, 0, none⟩) 65 65) (W.alloc (.cells (Array.replicate 65 (.int .u8 0)) 5)) := by
 have := mk_bytes (65 : Int) (by omega) (by omega) W
 simpa using this
theorem rd_zero {w : World} {g : Nat} {t : TypeId} {fr : Nat × Nat} (n : Nat) (h : w.heap[g]? = some (.cells (Array.replicate n (.int .u8 0)) t fr)) : Rd w (some ⟨g, 0, none⟩) (List.replicate n 0) := by
 intro i x hx
 obtain ⟨hi, rfl⟩ := List.getElem?_eq_some_iff.1 hx
 have hi2 : i < n := by simpa using hi
 exact ⟨g, 0, rfl, blk_cell h (0 + i) (by simp [hi2])⟩
theorem row4 {w : World} {g : Nat} {t : TypeId} {b0 b1 b2 b3 : Bool} (h : w.heap[g]? = some (.cells #[.bool b0, .bool b1, .bool b2, .bool b3] t (0, 0))) : w.cell? ⟨g, 0, none⟩ = some (.bool b0) ∧ w.cell? ⟨g, 1, none⟩ = some (.bool b1) ∧ w.cell? ⟨g, 2, none⟩ = some (.bool b2) ∧ w.cell? ⟨g, 3, none⟩ = some (.bool b3) := ⟨blk_cell h 0 rfl, blk_cell h 1 rfl, blk_cell h 2 rfl, blk_cell h 3 rfl⟩
set_option maxRecDepth 100000 in
theorem awake_ok (w : World) (hE : Env w) :
  Calls Tryz.prog 16 #[] w fun e w' => e = .returned (.bool true) ∧ Chg Non w w' := by
 have HE := Lib.hid hE
 clear hE
 go_enter Tryz.func16, Tryz.ntmps16
 go_wp2_with fail
 refine (shown_ok w HE.out).mono ?_
 rintro e u ⟨A1, A2, rfl, hc, hg⟩
 have HC := Lib.hid hc
 have HG := Lib.hid hg
 clear hc hg
 go_wp2_with fail
 refine (made_ok (fun _ => True) u shCfg 1 A1 A2 none 2 1 0 HC.out sh_fits sh_is ⟨by decide, by decide⟩).mono ?_
 rintro e v ⟨a, rfl, hk, hge, hg⟩
 have HKv : Hid (KerB a.own v shK0 a) := Lib.hid hk
 have HL0 : Hid (∀ b, a.own b → w.heap.size ≤ b) := Lib.hid (fun b e => Nat.le_trans HG.out.size (hge b e))
 have HGv := Lib.hid (HG.out.then_non hg)
 have HL : Hid (∀ b, a.own b → b < v.heap.size) := Lib.hid hk.bound
 clear hk hge hg
 go_wp2_with fail
 have hW0 : Chg Non v (v.alloc (.cells #[.bool false, .bool false, .bool true, .bool false] 4)) := (Chg.refl Non v).alloc _
 have HR0 := Lib.hid (heap_alloc_new v (.cells #[.bool false, .bool false, .bool true, .bool false] 4))
 have HK0 := Lib.hid (HKv.out.non hW0)
 have HG0 := Lib.hid (HGv.out.then_non hW0)
 clear hW0
 obtain ⟨r, hr⟩ : ∃ r, v.heap.size = r := ⟨_, rfl⟩
 rw [hr] at HR0 HL ⊢
 generalize v.alloc (.cells #[.bool false, .bool false, .bool true, .bool false] 4) = W0 at HR0 HK0 HG0 ⊢
 clear hr
 refine wp_loop_rounds 5 ?_
 rw [rounds_succ]
 go_wp2_with fail
 refine (tick_ok a.own W0 shK0 a HK0.out HK0.out.bound sh_good).mono ?_
 rintro e W1 ⟨rfl, hk, hg⟩
 have hrow := blk_keep HR0.out hg (fun e => by have := HK0.out.bound _ e; have := HL.out _ e; omega)
 have HR1 := Lib.hid hrow
 have HK1 : Hid (KerB a.own W1 shK1 a) := Lib.hid hk
 have HG1 := Lib.hid (HG0.out.then_new hg (fun x e => HL0.out x e))
 rw [sh_ends.1]
 obtain ⟨c0, c1, c2, c3⟩ := row4 hrow
 clear hk hg hrow
 go_wp2_with fail
 clear c0 c1 c2 c3
 rw [rounds_succ]
 go_wp2_with fail
 refine (tick_ok a.own W1 shK1 a HK1.out HK1.out.bound sh_good1).mono ?_
 rintro e W2 ⟨rfl, hk, hg⟩
 have hrow := blk_keep HR1.out hg (fun e => by have := HK1.out.bound _ e; have := HL.out _ e; omega)
 have HR2 := Lib.hid hrow
 have HK2 : Hid (KerB a.own W2 shK2 a) := Lib.hid hk
 have HG2 := Lib.hid (HG1.out.then_new hg (fun x e => HL0.out x e))
 rw [sh_ends.2.1]
 obtain ⟨c0, c1, c2, c3⟩ := row4 hrow
 clear hk hg hrow
 go_wp2_with fail
 clear c0 c1 c2 c3
 rw [rounds_succ]
 go_wp2_with fail
 refine (tick_ok a.own W2 shK2 a HK2.out HK2.out.bound sh_good2).mono ?_
 rintro e W3 ⟨rfl, hk, hg⟩
 have hrow := blk_keep HR2.out hg (fun e => by have := HK2.out.bound _ e; have := HL.out _ e; omega)
 have HR3 := Lib.hid hrow
 have HK3 : Hid (KerB a.own W3 shK3 a) := Lib.hid hk
 have HG3 := Lib.hid (HG2.out.then_new hg (fun x e => HL0.out x e))
 rw [sh_ends.2.2.1]
 obtain ⟨c0, c1, c2, c3⟩ := row4 hrow
 clear hk hg hrow
 go_wp2_with fail
 clear c0 c1 c2 c3
 rw [rounds_succ]
 go_wp2_with fail
 refine (tick_ok a.own W3 shK3 a HK3.out HK3.out.bound sh_good3).mono ?_
 rintro e W4 ⟨rfl, hk, hg⟩
 have hrow := blk_keep HR3.out hg (fun e => by have := HK3.out.bound _ e; have := HL.out _ e; omega)
 have HR4 := Lib.hid hrow
 have HK4 : Hid (KerB a.own W4 shK4 a) := Lib.hid hk
 have HG4 := Lib.hid (HG3.out.then_new hg (fun x e => HL0.out x e))
 rw [sh_ends.2.2.2]
 obtain ⟨c0, c1, c2, c3⟩ := row4 hrow
 clear hk hg hrow
 go_wp2_with fail
 clear c0 c1 c2 c3
 rw [rounds_succ]
 go_wp2_with fail
 refine (look_ok a.own W4 shK4 a 1 HK4.out).mono ?_
 rintro e W5 ⟨hlook, hg⟩
 have HK5 := Lib.hid (HK4.out.non hg)
 have HG5 := Lib.hid (HG4.out.then_non hg)
 clear hg
 obtain ⟨p, m, rfl, hpp, h8, hpc, hst, ho⟩ : ∃ (p : Pt) (m : Value), e = .returned (.tuple #[.agg (partC p m), .bool true]) ∧ shK4.s.parts[0]? = some p ∧ p.r.length = 8 ∧ p.pc = 0 ∧ p.st = 0 ∧ m.oneCell' = true := by
  obtain ⟨p, hp, h8, hpc, hst⟩ := sh_part8
  rcases hlook with ⟨j, x, m, hj, hx, e1, A, c, rfl, _⟩ | ⟨hj, _⟩
  ·have hj0 : j = 0 := by have := hj.symm.trans sh_idx.1; omega
   subst hj0
   rw [hp] at hx
   injection hx with hx
   subst hx
   exact ⟨p, _, e1, hp, h8, hpc, hst, rfl⟩
  ·rw [sh_idx.1] at hj
   omega
 clear hlook
 have HP := Lib.hid (And.intro hpp (And.intro hpc hst))
 clear hpp hpc hst
 go_wp2_with (refine sel none (.store 69 (.tmp 6) (.tmp 37)) ?_; refine Vm_stop ?_)
 refine HoleV.mk ?_
 refine wpList_store_rowA rfl 69 (.tmp 6) (.tmp 37) rfl W5.heap.size (partC p m) rfl rfl 69 zeroPart (blk_new _ _) (by rw [partC_size h8]; exact info_part) (by rw [partC_size h8]; rfl) (partC_one _ _ ho) ?_
 intro W6 hgW hbW
 have hNW : Chg Non W5 W6 := ((Chg.refl Non W5).alloc _).then_new hgW (fun x e => by omega)
 have HB6 := Lib.hid hbW
 have HK6 := Lib.hid (HK5.out.non hNW)
 have HG6 := Lib.hid (HG5.out.then_non hNW)
 have hL6 : ∀ b, a.own b → b ≠ W5.heap.size := fun b e => by have := HK5.out.bound b e; omega
 have HL6 := Lib.hid hL6
 obtain ⟨t, ht⟩ : ∃ t, W5.heap.size = t := ⟨_, rfl⟩
 rw [ht] at HB6 HL6 ⊢
 clear hNW hgW hbW hL6 ht
 go_wp2_with fail
 refine (at_ok a.own W6 shK4 a HK6.out).mono ?_
 rintro e W7 ⟨rfl, hg⟩
 rw [sh_at.1]
 have HK7 := Lib.hid (HK6.out.non hg)
 have HG7 := Lib.hid (HG6.out.then_non hg)
 have HB7 := Lib.hid (blk_keep HB6.out hg (fun e => e))
 clear hg
 go_wp2_with fail
 refine (state_ok a.own W7 shK4 a HK7.out sh_small).mono ?_
 rintro e W8 ⟨sb, sd, rfl, _, hg⟩
 rw [sh_at.2.1]
 have HK8 := Lib.hid (HK7.out.non hg)
 have HG8 := Lib.hid (HG7.out.then_non hg)
 have HB8 := Lib.hid (blk_keep HB7.out hg (fun e => e))
 clear hg
 obtain ⟨Z, hZ⟩ : ∃ Z, Array.replicate 65 (Value.int .u8 0) = Z := ⟨_, rfl⟩
 have hmk : ∀ W : World, (Instr.makeSlice 50 (.int .i64 65) (.int .i64 65)).run Tryz.prog W = .ok (.slice (some ⟨W.heap.size, 0, none⟩) 65 65) (W.alloc (.cells Z 5)) := fun W => by rw [← hZ]; exact mk65 W
 have hA8 : Chg Non W8 (W8.alloc (.cells Z 5)) := (Chg.refl Non W8).alloc _
 have hz8 := heap_alloc_new W8 (.cells Z 5)
 rw [← hZ] at hz8
 have HI9 := Lib.hid (input_ok a.own _ shK4 a 1 (some ⟨W8.heap.size, 0, none⟩) (List.replicate 65 0) 65 (HK8.out.non hA8) (HK8.out.non hA8).bound ⟨by decide, by decide⟩ (by rw [sh_w4.1]; decide) (hZ ▸ rd_zero 65 hz8) (by simp))
 rw [sh_in65.1, sh_in65.2] at HI9
 have HA8 := Lib.hid hA8
 clear hA8 hz8 hZ
 go_wp2_with (refine sel (some 45) (.field 30 (.tmp 44) 0) ?_; refine wpList_pureW (some 45) (.int .i64 1) rfl (by kernel_rfl) (by kernel_rfl) ?_)
 refine HI9.out.mono ?_
 rintro e W9 ⟨rfl, hk, hg⟩
 have HK9 := Lib.hid hk
 have HG9 := Lib.hid ((HG8.out.then_non HA8.out).then_new hg (fun x e => HL0.out x e))
 have HB9 := Lib.hid (blk_keep (blk_keep HB8.out HA8.out (fun e => e)) hg (fun e => HL6.out _ e rfl))
 clear hk hg hmk HI9 HA8
 have HI10 := Lib.hid (input_ok a.own W9 shK4 a 2 none [] 0 HK9.out HK9.out.bound ⟨by decide, by decide⟩ (by rw [sh_w4.2]; decide) (Rd.nil _ _) (by simp))
 rw [sh_in2.1, sh_in2.2] at HI10
 go_wp2_with fail
 refine HI10.out.mono ?_
 rintro e W10 ⟨rfl, hk, hg⟩
 have HK10 := Lib.hid hk
 have HG10 := Lib.hid (HG9.out.then_new hg (fun x e => HL0.out x e))
 have HB10 := Lib.hid (blk_keep HB9.out hg (fun e => HL6.out _ e rfl))
 clear hk hg HI10
 have HA10 : Hid (Chg Non W10 (W10.alloc (.cells #[.int .u8 1] 5))) := Lib.hid ((Chg.refl Non W10).alloc _)
 have HI11 := Lib.hid (load_ok a.own _ shK4 a 1 16 (some ⟨W10.heap.size, 0, none⟩) [1] 1 (HK10.out.non HA10.out) (HK10.out.non HA10.out).bound (fun p hp => partOk_mem (sh_good4.pm p hp)) ⟨by decide, by decide⟩ (by
   have hb := heap_alloc_new W10 (.cells #[.int .u8 1] 5)
   intro i x hx
   refine ⟨_, _, rfl, blk_cell hb _ ?_⟩
   rcases i with _ | i
   · simp at hx; subst hx; rfl
   · simp at hx) (by decide))
 rw [sh_load.1, sh_load.2] at HI11
 go_wp2_with fail
 refine HI11.out.mono ?_
 rintro e W11 ⟨rfl, hk, hg⟩
 have HK11 := Lib.hid hk
 have HG11 := Lib.hid ((HG10.out.then_non HA10.out).then_new hg (fun x e => HL0.out x e))
 have HB11 := Lib.hid (blk_keep (blk_keep HB10.out HA10.out (fun e => e)) hg (fun e => HL6.out _ e rfl))
 clear hk hg HI11 HA10
 have t11 : W11.cell? ⟨t, 11, none⟩ = some (.int .u32 0) := by
  have h := blk_cell HB11.out 11 ((partC_end h8 m 0 (by omega)).trans rfl)
  rw [HP.out.2.1] at h
  exact h
 have t12 : W11.cell? ⟨t, 12, none⟩ = some (.int .u8 0) := by
  have h := blk_cell HB11.out 12 ((partC_end h8 m 1 (by omega)).trans rfl)
  rw [HP.out.2.2] at h
  exact h
 go_wp2_with fail
 clear t11 t12
 have HI12 := Lib.hid (phys_ok a.own W11 shK4 a HK11.out HK11.out.bound (by rw [sh_c.1, sh_at.2.2.1]; rfl) (by rw [sh_at.2.2.1]; decide) (by rw [sh_at.2.2.1]; decide) (fun i p q hp hq => by
   rw [sh_c.1] at hp
   have hi : i = 0 := by have := (List.getElem?_eq_some_iff.1 hp).1; simp [shCfg] at this; omega
   subst hi
   obtain ⟨p', hp', _, _, _, hm'⟩ := sh_part
   rw [hp'] at hq
   injection hq with hq
   subst hq
   simp [shCfg] at hp
   subst hp
   exact ⟨by decide +kernel, by rw [hm']; rfl⟩) (by rw [sh_c.1]; exact regAll_one (by decide +kernel)))
 rw [sh_c.1] at HI12
 refine HI12.out.mono ?_
 rintro e W12 ⟨v9, rfl, ⟨A9, c9, rfl, _⟩, hg⟩
 rw [sh_phys]
 have HK12 := Lib.hid (HK11.out.non hg)
 have HG12 := Lib.hid (HG11.out.then_non hg)
 clear hg HI12
 have HA12 : Hid (Chg Non W12 (W12.alloc (.cells #[.int .u8 1, .int .u8 2] 5))) := Lib.hid ((Chg.refl Non W12).alloc _)
 have HI13 := Lib.hid (input_ok a.own _ shK4 a 1 (some ⟨W12.heap.size, 0, none⟩) [1, 2] 2 (HK12.out.non HA12.out) (HK12.out.non HA12.out).bound ⟨by decide, by decide⟩ (by rw [sh_w4.1]; decide) (by
   have hb := heap_alloc_new W12 (.cells #[.int .u8 1, .int .u8 2] 5)
   intro i x hx
   refine ⟨_, _, rfl, blk_cell hb _ ?_⟩
   rcases i with _ | _ | i
   · simp at hx; subst hx; rfl
   · simp at hx; subst hx; rfl
   · simp at hx) (by decide))
 rw [sh_in1] at HI13
 go_wp2_with fail
 refine HI13.out.mono ?_
 rintro e W13 ⟨rfl, hk, hg⟩
 have HK13 : Hid (KerB a.own W13 shK5 a) := Lib.hid hk
 have HG13 := Lib.hid ((HG12.out.then_non HA12.out).then_new hg (fun x e => HL0.out x e))
 clear hk hg HI13 HA12
 have HI14 := Lib.hid (waits_ok a.own W13 shK5 a 1 ⟨by decide, by decide⟩ HK13.out)
 rw [sh_w5] at HI14
 go_wp2_with fail
 refine HI14.out.mono ?_
 rintro e W14 ⟨rfl, hg⟩
 have HG14 := Lib.hid (HG13.out.then_non hg)
 clear hg HI14
 go_wp2_with fail
 go_ret
 exact ⟨rfl, HG14.out⟩
end
section
open Go.RowKit
set_option maxRecDepth 100000 in
theorem KernelNil_ok (pt at_ : Int) (B : Option Addr) (l : List UInt8) (c : Nat) (w : World) (hE : Env w) :
  Calls Tryz.prog 4 #[.int .i64 pt, .int .i64 at_, .slice B l.length c] w fun e w' => e = .returned (.bool true) ∧ Chg Non w w' := by
 have HE := Lib.hid hE
 clear hE
 by_cases hl : 600 < l.length
 ·have hd : decide ((600 : Int) < (l.length : Int)) = true := by simpa using by omega
  go_enter Tryz.func4, Tryz.ntmps4
  go_wp2_with fail
  go_ret
  exact ⟨rfl, Chg.refl _ _⟩
 have hd : decide ((600 : Int) < (l.length : Int)) = false := by simpa using by omega
 go_enter Tryz.func4, Tryz.ntmps4
 go_wp2_with fail
 clear hd hl
 obtain ⟨Z, hZ⟩ : ∃ Z, #[Value.bool false, Value.slice none 0 0, Value.slice none 0 0, Value.slice none 0 0, Value.int IntKind.i64 0, Value.slice none 0 0, Value.slice none 0 0, Value.int IntKind.i64 0, Value.int IntKind.i64 0, Value.map none, Value.bool false] = Z := ⟨_, rfl⟩
 have hz0 : Z[0]? = some (.bool false) := by rw [← hZ]; rfl
 rw [hZ]
 clear hZ
 have hb0 := al_2_0 w (.cells Z 64) (.cells #[.pointer none, .pointer (some ⟨w.heap.size, 0, none⟩)] 39)
 have hb1 := al_2_1 w (.cells Z 64) (.cells #[.pointer none, .pointer (some ⟨w.heap.size, 0, none⟩)] 39)
 have HG0 : Hid (Chg Non w ((w.alloc (.cells Z 64)).alloc (.cells #[.pointer none, .pointer (some ⟨w.heap.size, 0, none⟩)] 39))) := Lib.hid (((Chg.refl Non w).alloc _).alloc _)
 have HA0 := Lib.hid (nobody_nil ((w.alloc (.cells Z 64)).alloc (.cells #[.pointer none, .pointer (some ⟨w.heap.size, 0, none⟩)] 39)))
 have HB0 := Lib.hid (nobody_zero _ _ (blk_cell hb0 0 hz0))
 have HR0 := Lib.hid hb1
 clear hb0 hb1 hz0
 generalize ((w.alloc (.cells Z 64)).alloc (.cells #[.pointer none, .pointer (some ⟨w.heap.size, 0, none⟩)] 39)) = W0 at HG0 HA0 HB0 HR0 ⊢
 obtain ⟨r, hr⟩ : ∃ r, w.heap.size + 1 = r := ⟨_, rfl⟩
 obtain ⟨g, hg0⟩ : ∃ g, w.heap.size = g := ⟨_, rfl⟩
 rw [hr] at HR0 ⊢
 rw [hg0] at HB0 HR0 ⊢
 clear hr hg0
 refine wp_loop_rounds 3 ?_
 rw [rounds_succ]
 have ci := blk_cell HR0.out 0 (v := .pointer none) rfl
 go_wp2_with fail
 clear ci
 refine (tick_nobody (.pointer none) _ HA0.out).mono ?_
 rintro e W1 ⟨rfl, hg⟩
 have HG1 := Lib.hid (HG0.out.then_non hg)
 have HA1 := Lib.hid (HA0.out.non hg)
 have HB1 := Lib.hid (HB0.out.non hg)
 have HR1 := Lib.hid (blk_keep HR0.out hg (fun e => e))
 clear hg
 have ci := blk_cell HR1.out 0 (v := .pointer none) rfl
 go_wp2_with fail
 clear ci
 refine (look_nobody (.pointer none) pt _ HA1.out).mono ?_
 rintro e W2 ⟨rfl, hg⟩
 have HG2 := Lib.hid (HG1.out.then_non hg)
 have HA2 := Lib.hid (HA1.out.non hg)
 have HB2 := Lib.hid (HB1.out.non hg)
 have HR2 := Lib.hid (blk_keep HR1.out hg (fun e => e))
 clear hg
 go_wp2_with (refine sel none (.store 69 (.tmp 12) (.tmp 42)) ?_; refine Vm_stop ?_)
 refine HoleV.mk ?_
 refine wpList_store_rowA rfl 69 (.tmp 12) (.tmp 42) rfl W2.heap.size zeroPart rfl rfl 69 zeroPart (blk_new _ _) (by kernel_rfl) rfl (by simp [zeroPart, Value.oneCell']) ?_
 intro W3 hgW hbW
 have hg : Chg Non W2 W3 := ((Chg.refl Non W2).alloc _).then_new hgW (fun x e => by omega)
 have HT3 := Lib.hid hbW
 obtain ⟨t0, ht⟩ : ∃ t, W2.heap.size = t := ⟨_, rfl⟩
 rw [ht] at HT3 ⊢
 clear ht hgW hbW
 have HG3 := Lib.hid (HG2.out.then_non hg)
 have HA3 := Lib.hid (HA2.out.non hg)
 have HB3 := Lib.hid (HB2.out.non hg)
 have HR3 := Lib.hid (blk_keep HR2.out hg (fun e => e))
 clear hg
 have ci := blk_cell HR3.out 0 (v := .pointer none) rfl
 go_wp2_with (first
     | (go_at_call 18
        refine (input_nobody (.pointer none) (.slice B l.length c) pt _ HA3.out).mono ?_
        rintro e W4 ⟨rfl, hg⟩
        have HG4 := Lib.hid (HG3.out.then_non hg)
        have HA4 := Lib.hid (HA3.out.non hg)
        have HB4 := Lib.hid (HB3.out.non hg)
        have HR4 := Lib.hid (blk_keep HR3.out hg (fun e => e))
        have HT4 := Lib.hid (blk_keep HT3.out hg (fun e => e))
        clear hg ci
        have ci := blk_cell HR4.out 0 (v := .pointer none) rfl)
     | (go_at_call 20
        refine (load_nobody (.pointer none) (.slice B l.length c) pt at_ _ HA4.out).mono ?_
        rintro e W5 ⟨rfl, hg⟩
        have HG5 := Lib.hid (HG4.out.then_non hg)
        have HA5 := Lib.hid (HA4.out.non hg)
        have HB5 := Lib.hid (HB4.out.non hg)
        have HR5 := Lib.hid (blk_keep HR4.out hg (fun e => e))
        have HT5 := Lib.hid (blk_keep HT4.out hg (fun e => e))
        clear hg ci
        have ci := blk_cell HR5.out 0 (v := .pointer none) rfl
        have q0 := blk_cell HT5.out 0 (v := .int .i64 0) rfl
        have q1 := blk_cell HT5.out 1 (v := .int .i64 0) rfl
        have q2 := blk_cell HT5.out 2 (v := .bool false) rfl
        have q3 := blk_cell HT5.out 3 (v := .int .u32 0) rfl
        have q4 := blk_cell HT5.out 4 (v := .int .u32 0) rfl
        have q5 := blk_cell HT5.out 5 (v := .int .u32 0) rfl
        have q6 := blk_cell HT5.out 6 (v := .int .u32 0) rfl
        have q7 := blk_cell HT5.out 7 (v := .int .u32 0) rfl
        have q8 := blk_cell HT5.out 8 (v := .int .u32 0) rfl
        have q9 := blk_cell HT5.out 9 (v := .int .u32 0) rfl
        have q10 := blk_cell HT5.out 10 (v := .int .u32 0) rfl
        have q11 := blk_cell HT5.out 11 (v := .int .u32 0) rfl
        have q12 := blk_cell HT5.out 12 (v := .int .u8 0) rfl
        have q13 := blk_cell HT5.out 13 (v := .slice none 0 0) rfl)
     | (go_at_call 26
        refine (same20_zero _).mono ?_
        rintro e W6 ⟨rfl, hg⟩
        have HG6 := Lib.hid (HG5.out.then_non hg)
        have HA6 := Lib.hid (HA5.out.non hg)
        have HB6 := Lib.hid (HB5.out.non hg)
        have HR6 := Lib.hid (blk_keep HR5.out hg (fun e => e))
        have HT6 := Lib.hid (blk_keep HT5.out hg (fun e => e))
        clear hg ci
        have ci := blk_cell HR6.out 0 (v := .pointer none) rfl)
     | (go_at_call 28
        refine (state_nobody (.pointer none) _ HA6.out).mono ?_
        rintro e W7 ⟨rfl, hg⟩
        have HG7 := Lib.hid (HG6.out.then_non hg)
        have HA7 := Lib.hid (HA6.out.non hg)
        have HB7 := Lib.hid (HB6.out.non hg)
        have HR7 := Lib.hid (blk_keep HR6.out hg (fun e => e))
        have HT7 := Lib.hid (blk_keep HT6.out hg (fun e => e))
        clear hg ci
        have ci := blk_cell HR7.out 0 (v := .pointer none) rfl)
     | (go_at_call 27
        refine (same21_zero _).mono ?_
        rintro e W8 ⟨rfl, hg⟩
        have HG8 := Lib.hid (HG7.out.then_non hg)
        have HA8 := Lib.hid (HA7.out.non hg)
        have HB8 := Lib.hid (HB7.out.non hg)
        have HR8 := Lib.hid (blk_keep HR7.out hg (fun e => e))
        have HT8 := Lib.hid (blk_keep HT7.out hg (fun e => e))
        clear hg ci
        have ci := blk_cell HR8.out 0 (v := .pointer none) rfl)
     | (go_at_call 29
        refine (at_nobody (.pointer none) _ HA8.out).mono ?_
        rintro e W9 ⟨rfl, hg⟩
        have HG9 := Lib.hid (HG8.out.then_non hg)
        have HA9 := Lib.hid (HA8.out.non hg)
        have HB9 := Lib.hid (HB8.out.non hg)
        have HR9 := Lib.hid (blk_keep HR8.out hg (fun e => e))
        have HT9 := Lib.hid (blk_keep HT8.out hg (fun e => e))
        clear hg ci
        have ci := blk_cell HR9.out 0 (v := .pointer none) rfl)
     | (go_at_call 30
        refine (waits_nobody (.pointer none) pt _ HA9.out).mono ?_
        rintro e W10 ⟨rfl, hg⟩
        have HG10 := Lib.hid (HG9.out.then_non hg)
        have HA10 := Lib.hid (HA9.out.non hg)
        have HB10 := Lib.hid (HB9.out.non hg)
        have HR10 := Lib.hid (blk_keep HR9.out hg (fun e => e))
        have HT10 := Lib.hid (blk_keep HT9.out hg (fun e => e))
        clear hg ci
        have ci := blk_cell HR10.out 0 (v := .pointer none) rfl)
     | (go_at_call 31
        refine (phys_nobody (.pointer none) _ HA10.out).mono ?_
        rintro e W11 ⟨rfl, hg⟩
        have HG11 := Lib.hid (HG10.out.then_non hg)
        have HA11 := Lib.hid (HA10.out.non hg)
        have HB11 := Lib.hid (HB10.out.non hg)
        have HR11 := Lib.hid (blk_keep HR10.out hg (fun e => e))
        have HT11 := Lib.hid (blk_keep HT10.out hg (fun e => e))
        clear hg ci
        have ci := blk_cell HR11.out 0 (v := .pointer none) rfl))
 clear ci q0 q1 q2 q3 q4 q5 q6 q7 q8 q9 q10 q11 q12 q13
 rw [rounds_succ]
 have ci := blk_cell HR11.out 1 (v := .pointer (some ⟨g, 0, none⟩)) rfl
 go_wp2_with fail
 clear ci
 refine (tick_nobody (.pointer (some ⟨g, 0, none⟩)) _ HB11.out).mono ?_
 rintro e W12 ⟨rfl, hg⟩
 have HG12 := Lib.hid (HG11.out.then_non hg)
 have HA12 := Lib.hid (HA11.out.non hg)
 have HB12 := Lib.hid (HB11.out.non hg)
 have HR12 := Lib.hid (blk_keep HR11.out hg (fun e => e))
 clear hg
 have ci := blk_cell HR12.out 1 (v := .pointer (some ⟨g, 0, none⟩)) rfl
 go_wp2_with fail
 clear ci
 refine (look_nobody (.pointer (some ⟨g, 0, none⟩)) pt _ HB12.out).mono ?_
 rintro e W13 ⟨rfl, hg⟩
 have HG13 := Lib.hid (HG12.out.then_non hg)
 have HA13 := Lib.hid (HA12.out.non hg)
 have HB13 := Lib.hid (HB12.out.non hg)
 have HR13 := Lib.hid (blk_keep HR12.out hg (fun e => e))
 clear hg
 go_wp2_with (refine sel none (.store 69 (.tmp 12) (.tmp 42)) ?_; refine Vm_stop ?_)
 refine HoleV.mk ?_
 refine wpList_store_rowA rfl 69 (.tmp 12) (.tmp 42) rfl W13.heap.size zeroPart rfl rfl 69 zeroPart (blk_new _ _) (by kernel_rfl) rfl (by simp [zeroPart, Value.oneCell']) ?_
 intro W14 hgW hbW
 have hg : Chg Non W13 W14 := ((Chg.refl Non W13).alloc _).then_new hgW (fun x e => by omega)
 have HT14 := Lib.hid hbW
 obtain ⟨t1, ht⟩ : ∃ t, W13.heap.size = t := ⟨_, rfl⟩
 rw [ht] at HT14 ⊢
 clear ht hgW hbW
 have HG14 := Lib.hid (HG13.out.then_non hg)
 have HA14 := Lib.hid (HA13.out.non hg)
 have HB14 := Lib.hid (HB13.out.non hg)
 have HR14 := Lib.hid (blk_keep HR13.out hg (fun e => e))
 clear hg
 have ci := blk_cell HR14.out 1 (v := .pointer (some ⟨g, 0, none⟩)) rfl
 go_wp2_with (first
     | (go_at_call 18
        refine (input_nobody (.pointer (some ⟨g, 0, none⟩)) (.slice B l.length c) pt _ HB14.out).mono ?_
        rintro e W15 ⟨rfl, hg⟩
        have HG15 := Lib.hid (HG14.out.then_non hg)
        have HA15 := Lib.hid (HA14.out.non hg)
        have HB15 := Lib.hid (HB14.out.non hg)
        have HR15 := Lib.hid (blk_keep HR14.out hg (fun e => e))
        have HT15 := Lib.hid (blk_keep HT14.out hg (fun e => e))
        clear hg ci
        have ci := blk_cell HR15.out 1 (v := .pointer (some ⟨g, 0, none⟩)) rfl)
     | (go_at_call 20
        refine (load_nobody (.pointer (some ⟨g, 0, none⟩)) (.slice B l.length c) pt at_ _ HB15.out).mono ?_
        rintro e W16 ⟨rfl, hg⟩
        have HG16 := Lib.hid (HG15.out.then_non hg)
        have HA16 := Lib.hid (HA15.out.non hg)
        have HB16 := Lib.hid (HB15.out.non hg)
        have HR16 := Lib.hid (blk_keep HR15.out hg (fun e => e))
        have HT16 := Lib.hid (blk_keep HT15.out hg (fun e => e))
        clear hg ci
        have ci := blk_cell HR16.out 1 (v := .pointer (some ⟨g, 0, none⟩)) rfl
        have q0 := blk_cell HT16.out 0 (v := .int .i64 0) rfl
        have q1 := blk_cell HT16.out 1 (v := .int .i64 0) rfl
        have q2 := blk_cell HT16.out 2 (v := .bool false) rfl
        have q3 := blk_cell HT16.out 3 (v := .int .u32 0) rfl
        have q4 := blk_cell HT16.out 4 (v := .int .u32 0) rfl
        have q5 := blk_cell HT16.out 5 (v := .int .u32 0) rfl
        have q6 := blk_cell HT16.out 6 (v := .int .u32 0) rfl
        have q7 := blk_cell HT16.out 7 (v := .int .u32 0) rfl
        have q8 := blk_cell HT16.out 8 (v := .int .u32 0) rfl
        have q9 := blk_cell HT16.out 9 (v := .int .u32 0) rfl
        have q10 := blk_cell HT16.out 10 (v := .int .u32 0) rfl
        have q11 := blk_cell HT16.out 11 (v := .int .u32 0) rfl
        have q12 := blk_cell HT16.out 12 (v := .int .u8 0) rfl
        have q13 := blk_cell HT16.out 13 (v := .slice none 0 0) rfl)
     | (go_at_call 26
        refine (same20_zero _).mono ?_
        rintro e W17 ⟨rfl, hg⟩
        have HG17 := Lib.hid (HG16.out.then_non hg)
        have HA17 := Lib.hid (HA16.out.non hg)
        have HB17 := Lib.hid (HB16.out.non hg)
        have HR17 := Lib.hid (blk_keep HR16.out hg (fun e => e))
        have HT17 := Lib.hid (blk_keep HT16.out hg (fun e => e))
        clear hg ci
        have ci := blk_cell HR17.out 1 (v := .pointer (some ⟨g, 0, none⟩)) rfl)
     | (go_at_call 28
        refine (state_nobody (.pointer (some ⟨g, 0, none⟩)) _ HB17.out).mono ?_
        rintro e W18 ⟨rfl, hg⟩
        have HG18 := Lib.hid (HG17.out.then_non hg)
        have HA18 := Lib.hid (HA17.out.non hg)
        have HB18 := Lib.hid (HB17.out.non hg)
        have HR18 := Lib.hid (blk_keep HR17.out hg (fun e => e))
        have HT18 := Lib.hid (blk_keep HT17.out hg (fun e => e))
        clear hg ci
        have ci := blk_cell HR18.out 1 (v := .pointer (some ⟨g, 0, none⟩)) rfl)
     | (go_at_call 27
        refine (same21_zero _).mono ?_
        rintro e W19 ⟨rfl, hg⟩
        have HG19 := Lib.hid (HG18.out.then_non hg)
        have HA19 := Lib.hid (HA18.out.non hg)
        have HB19 := Lib.hid (HB18.out.non hg)
        have HR19 := Lib.hid (blk_keep HR18.out hg (fun e => e))
        have HT19 := Lib.hid (blk_keep HT18.out hg (fun e => e))
        clear hg ci
        have ci := blk_cell HR19.out 1 (v := .pointer (some ⟨g, 0, none⟩)) rfl)
     | (go_at_call 29
        refine (at_nobody (.pointer (some ⟨g, 0, none⟩)) _ HB19.out).mono ?_
        rintro e W20 ⟨rfl, hg⟩
        have HG20 := Lib.hid (HG19.out.then_non hg)
        have HA20 := Lib.hid (HA19.out.non hg)
        have HB20 := Lib.hid (HB19.out.non hg)
        have HR20 := Lib.hid (blk_keep HR19.out hg (fun e => e))
        have HT20 := Lib.hid (blk_keep HT19.out hg (fun e => e))
        clear hg ci
        have ci := blk_cell HR20.out 1 (v := .pointer (some ⟨g, 0, none⟩)) rfl)
     | (go_at_call 30
        refine (waits_nobody (.pointer (some ⟨g, 0, none⟩)) pt _ HB20.out).mono ?_
        rintro e W21 ⟨rfl, hg⟩
        have HG21 := Lib.hid (HG20.out.then_non hg)
        have HA21 := Lib.hid (HA20.out.non hg)
        have HB21 := Lib.hid (HB20.out.non hg)
        have HR21 := Lib.hid (blk_keep HR20.out hg (fun e => e))
        have HT21 := Lib.hid (blk_keep HT20.out hg (fun e => e))
        clear hg ci
        have ci := blk_cell HR21.out 1 (v := .pointer (some ⟨g, 0, none⟩)) rfl)
     | (go_at_call 31
        refine (phys_nobody (.pointer (some ⟨g, 0, none⟩)) _ HB21.out).mono ?_
        rintro e W22 ⟨rfl, hg⟩
        have HG22 := Lib.hid (HG21.out.then_non hg)
        have HA22 := Lib.hid (HA21.out.non hg)
        have HB22 := Lib.hid (HB21.out.non hg)
        have HR22 := Lib.hid (blk_keep HR21.out hg (fun e => e))
        have HT22 := Lib.hid (blk_keep HT21.out hg (fun e => e))
        clear hg ci
        have ci := blk_cell HR22.out 1 (v := .pointer (some ⟨g, 0, none⟩)) rfl))
 clear ci q0 q1 q2 q3 q4 q5 q6 q7 q8 q9 q10 q11 q12 q13
 rw [rounds_succ]
 go_wp2_with fail
 refine (awake_ok _ (HE.out.non HG22.out)).mono ?_
 rintro e u ⟨rfl, hg⟩
 have HGu := Lib.hid (HG22.out.then_non hg)
 clear hg
 go_wp2_with fail
 go_ret
 exact ⟨rfl, HGu.out⟩
end
section
open Go.ChangeShapes Go.WideShapes Go.ChangeAt Go.RowKit
theorem post_below {H : Type} {enc : TypeId × Value → H} {P : Program} {f : Func} {s : ChangeSpec} {apart fresh handsOn again : Bool} {W W' : World} {args : Array Value} {v : Value} {ds gs : List (DataW H)} {before pa pv : List MemPlace}
  (hW : DataW.Whole enc P f.params.toList s.vars apart W args.toList ds gs before)
  (hres : ∀ (b : Nat) (sp : Nat → Bool) (hd : Bool), DataW.TrodAll enc P W' b sp hd f.resultTypes.toList (v.resultList f.resultTypes.size) (s.fn H (ds ++ gs)).results [])
  (hargs : ∀ sp : Nat → Bool, (∀ p ∈ before, sp p.block = true) → DataW.TrodAll enc P W' 0 sp true f.params.toList args.toList (s.fn H (ds ++ gs)).args pa)
  (hvars : ∀ sp : Nat → Bool, (∀ p ∈ before, sp p.block = true) → DataW.TrodVars enc P W' sp s.vars (s.fn H (ds ++ gs)).vars pv)
  (hps : before = pa ++ pv) (hb : Below W.heap.size W W')
  (hok : ∀ (j : Nat) (t : TypeId) (r : Value), f.resultTypes[j]? = some t → (v.resultList f.resultTypes.size)[j]? = some r → Value.okWide P W' .any 0 t r) :
  s.post enc P f apart fresh handsOn again W args v W' := by
 have hlt := hW.lt
 have hold : ∀ p ∈ before, (fun b => decide (b < W.heap.size)) p.block = true := fun p hp => by simpa using hlt p hp
 refine ⟨ds, gs, before, [], pa, pv, hW, hres _ _ _, hargs _ hold, hvars _ hold, World.keptBut_mono (fun p hp => ⟨hp, ?_⟩) (hb.frame (· ∈ before)), fun _ => ?_⟩
 ·rw [hps, List.mem_append] at hp
  exact Or.inr hp
 ·obtain ⟨_, _, _, _, _, hz, hn⟩ := hW
  refine ⟨hok, _, _, ([] ++ pa) ++ pv, ⟨[] ++ pa, pv, trodAll_append (hargs _ (fun _ _ => rfl)) (hres _ _ _), hvars _ (fun _ _ => rfl), rfl, ?_, ?_⟩, ?_⟩
  ·intro b off hp
   have hp' : MemPlace.cell b off ∈ before := by rw [hps]; simpa using hp
   rw [hb.frozen (show b < W.heap.size from hlt _ hp')]
   exact hz b off hp'
  ·intro ha
   have := hn ha
   rw [hps] at this
   simpa using this
  ·intro p hp _
   rw [hps]
   simpa using hp
end
section
open Go.ChangeShapes Go.WideShapes Go.ChangeAt Go.RowKit
section
variable {H : Type} {enc : TypeId × Value → H} {P : Program}
theorem sameAt_below {W W' : World} (hb : Below W.heap.size W W') {p : MemPlace} (hp : p.block < W.heap.size) : W.sameAt W' p := by
 cases p with
 | cell b off => exact hb.cell (p := ⟨b, off, none⟩) hp
 | map b => exact hb.block b hp
theorem trodAll_carry {W W' : World} {base : Nat} {sp : Nat → Bool} {hd : Bool} : ∀ {ts : List TypeId} {vs : List Value} {ds : List (DataW H)} {ps : List MemPlace},
  DataW.TrodAll enc P W base sp hd ts vs ds ps → (∀ p ∈ ps, W.sameAt W' p) → DataW.TrodAll enc P W' base sp hd ts vs ds ps
 | [], [], [], _, h, _ => h
 | _ :: _, _ :: _, _ :: _, _, ⟨p, q, ⟨n, h1⟩, h2, e⟩, hs =>
  ⟨p, q, ⟨n, DataW.trod_carry n _ _ _ h1 (fun x hx => hs x (by rw [e]; exact List.mem_append_left _ hx))⟩,
    trodAll_carry h2 (fun x hx => hs x (by rw [e]; exact List.mem_append_right _ hx)), e⟩
theorem post_law {f : Func} {s : ChangeSpec} {apart fresh handsOn again : Bool} {W W' : World} {args : Array Value} {tb : TypeId} {ds gs : List (DataW H)} {before : List MemPlace}
  (K : Kids P (· < P.types.size)) (hz : ∀ t e, t < P.types.size → P.underlying t = some (.slice e) → 0 < P.cellsOf e)
  (hT : ∀ t ∈ f.params.toList, t < P.types.size) (hr : f.resultTypes = #[tb]) (hub : P.underlying tb = some .bool)
  (hW : DataW.Whole enc P f.params.toList s.vars apart W args.toList ds gs before) (hv : s.vars = [])
  (hs : (s.fn H (ds ++ gs)).results = [.lit (.bool true)]) (ha : (s.fn H (ds ++ gs)).args = ds) (hv2 : (s.fn H (ds ++ gs)).vars = []) (hb : Below W.heap.size W W') :
  s.post enc P f apart fresh handsOn again W args (.bool true) W' := by
 have hW' := hW
 have hlt := hW.lt
 obtain ⟨p, q, hA, hV, rfl, hfz, hnd⟩ := hW
 rw [hv] at hV
 obtain ⟨rfl, rfl⟩ := trodVars_none hV
 rw [List.append_nil] at hlt
 refine post_below (pa := p) (pv := []) hW' ?_ ?_ ?_ rfl hb ?_
 ·intro b sp hd
  rw [hr, hs]
  exact trodAll_cons_mk (shut_bool hub _) trodAll_mk0
 ·intro sp hsp
  rw [ha]
  exact DataW.TrodAll.respare K hz hT (trodAll_carry hA (fun x hx => sameAt_below hb (hlt x hx))) (fun x hx => hsp x (by simpa using hx))
 ·intro sp _
  rw [hv, hv2]
  rfl
 ·exact ok_one hr rfl (okWide_bool_mk hub _)
theorem open_bytes {r : Reach} {b0 : Nat} {W : World} {t e : TypeId} {v : Value} {d : DataW H} {ps : List MemPlace} (ht : P.underlying t = some (.slice e)) (he : P.underlying e = some (.int .u8)) (hc : P.cellsOf e = 1)
  (hval : Value.okWide P W r b0 t v) (h : DataW.Trod enc P W 0 (fun _ => true) true t v d ps) :
  ∃ (B : Option Addr) (l : List UInt8) (c : Nat), v = .slice B l.length c ∧ Rd W B l ∧ l.length ≤ c ∧ c ≤ maxLen := by
 obtain ⟨a, len, cap, rfl⟩ := okWide_slice ht hval
 obtain ⟨fuel, hf⟩ := h
 rcases open_ints ht he hc hf with ⟨h0, _⟩ | ⟨a', len', cap', zs, h0, _, hl, hm, hzl, _, hcell, hwf⟩
 ·simp only [Value.cells, List.cons.injEq, Value.slice.injEq, and_true] at h0
  obtain ⟨rfl, rfl, rfl⟩ := h0
  exact ⟨none, [], 0, rfl, Rd.nil _ _, Nat.le_refl _, by simp⟩
 ·simp only [Value.cells, List.cons.injEq, Value.slice.injEq, and_true] at h0
  obtain ⟨rfl, rfl, rfl⟩ := h0
  simp only [if_true] at hzl
  have hnum : ∀ n ∈ zs, ((UInt8.ofNat n.toNat).toNat : Int) = n := by
   intro n hn
   obtain ⟨h1, h2⟩ := bounds_u8 (hwf n hn)
   simp only [UInt8.toNat_ofNat']
   omega
  refine ⟨some a', (zs.take len).map (fun n => UInt8.ofNat n.toNat), cap, by simp [hzl, Nat.min_eq_left hl], ?_, by simp [hzl, hl, Nat.min_eq_left hl], hm⟩
  intro i x hx
  rw [List.getElem?_map] at hx
  obtain ⟨n, hn, rfl⟩ := Option.map_eq_some_iff.1 hx
  have hi : i < (zs.take len).length := (List.getElem?_eq_some_iff.1 hn).1
  rw [List.length_take] at hi
  have hn' : zs[i]? = some n := by rw [← hn, List.getElem?_take_of_lt (by omega)]
  obtain ⟨b, off, rfl, hc2⟩ := ints_at hcell (by omega)
  refine ⟨b, off, rfl, ?_⟩
  rw [hc2 i (by omega), List.getD, hn', Option.getD_some, hnum n (List.mem_of_getElem? hn')]
end
end
section
open Go.ChangeShapes Go.WideShapes Go.ChangeAt Go.RowKit
section
variable {H : Type} {enc : TypeId × Value → H}
theorem returnsIn_card {a : Assume} {C : Checked} {os : Os} {f : FuncId} {fn : Func} {s : ChangeSpec} {conds : List PathCond} {apart fresh handsOn again : Bool} {X : World → Array Value → Prop}
  (hX : ∀ (w w' : World) (args : Array Value), w.heap = w'.heap → X w args → X w' args)
  (own : ownKnob C.prog.godebug = none) (started : os.Started) (noInit : C.prog.inits.idxOf? f = none) (hfn : C.prog.funcs[f]? = some fn)
  (witness : ∃ (w : World) (tape : Tape) (i : Input), w.os = os ∧ (w.forCall tape i).Shaped C.prog ∧ i.vars = [] ∧ Input.okWide C.prog (w.forCall tape i) .any w.heap.size f i ∧
    ((s.pre enc C.prog fn conds apart (w.forCall tape i).memory i.args ∧ X (w.forCall tape i).memory i.args) ∧ sizedMet enc C.prog fn (OpenSpec.ofChange s) apart (w.forCall tape i).memory i.args) ∧ a.holds C.prog (lone (Frame.enter C.prog f i.args .normal) [] (w.forCall tape i)))
  (contract : ∀ (W : World) (base : Nat) (args : Array Value) (ds gs : List (DataW H)) (before : List MemPlace),
    (∀ (j : Nat) t v, fn.params[j]? = some t → args[j]? = some v → Value.okWide C.prog W .any base t v) →
    DataW.Whole enc C.prog fn.params.toList s.vars apart W args.toList ds gs before → W.ShapedOpen C.prog → X W args →
    Calls C.prog f args W fun e W' => ∃ v, e = .returned v ∧ s.post enc C.prog fn apart fresh handsOn again W args v W') :
  ReturnsInHanded a C os f .any (fun w args => (s.pre enc C.prog fn conds apart w args ∧ X w args) ∧ sizedMet enc C.prog fn (OpenSpec.ofChange s) apart w args) (s.post enc C.prog fn apart fresh handsOn again) := by
 refine returnsInHanded_of_calls own started noInit witness ?_
 intro w tape i _ hsh _ hok hpre hholds
 obtain ⟨_, _, _, fn', hfn', _, _, _, _, hval⟩ := hok
 have e : fn' = fn := Option.some.inj (hfn'.symm.trans hfn)
 subst e
 obtain ⟨⟨⟨ds, gs, before, hw, _⟩, hx⟩, _⟩ := hpre
 refine (contract (w.forCall tape i) w.heap.size i.args ds gs before hval (DataW.Whole.of_heap (w' := w.forCall tape i) (by rfl) hw) hsh (hX _ _ _ (by rfl) hx)).mono fun e W' ⟨v, he, hp⟩ => ?_
 subst he
 exact ChangeSpec.post_blind hp
end
theorem star : ("*errors.errorString" : String) = "*" ++ "errors.errorString" := by decide
theorem rowErr (u : TypeId) (h : Tryz.prog.typeName? 3 u = some "*errors.errorString") : u = 276 :=
 typeName_ptr_named (nm := "errors.errorString") (by rw [← star]; kernel_rfl) (by kernel_rfl) (by decide) u (by rw [← star]; exact h)
theorem env_of {w : World} (hsh : w.ShapedOpen Tryz.prog) {d r : List (String × DataW Unit)} {a : String × DataW Unit} (hL : laidMet Tryz.prog (("internal/strconv.uint64pow10", Rows.laid_internal_strconv_uint64pow10) :: a :: ("strconv.ErrRange", Rows.laid_strconv_ErrRange) :: ("strconv.ErrSyntax", Rows.laid_strconv_ErrSyntax) :: r) w) : Env w := by
 refine ⟨?_, ?_, ?_, ?_⟩
 ·exact Lib.tabIs_of_head (g := 5) (k := .u64) (zs := Lib.pow10Tab) (by kernel_rfl) (by kernel_rfl) Tryz.underlying293 Tryz.underlying57 (by kernel_rfl) (by kernel_rfl) hL
 ·obtain ⟨a0, s0, hv0, -, -, -⟩ := laid_sentinel (g := 0) hL.tail.tail.tail (by kernel_rfl) (by kernel_rfl) Tryz.underlying201 rowErr Tryz.underlying276 Tryz.underlying278 rfl rfl Tryz.underlying9 (by kernel_rfl) (by kernel_rfl)
  exact ⟨_, by have h0 := World.var?_cell (g := 0) (by kernel_rfl) hv0 0; simpa using h0, .inr ⟨_, _, rfl⟩⟩
 ·obtain ⟨a0, s0, hv0, -, -, -⟩ := laid_sentinel (g := 1) hL.tail.tail (by kernel_rfl) (by kernel_rfl) Tryz.underlying201 rowErr Tryz.underlying276 Tryz.underlying278 rfl rfl Tryz.underlying9 (by kernel_rfl) (by kernel_rfl)
  exact ⟨_, by have h0 := World.var?_cell (g := 1) (by kernel_rfl) hv0 0; simpa using h0, .inr ⟨_, _, rfl⟩⟩
 ·exact cell_of_shapedOpen_int (zero := #[.int .i64 0]) hsh (of_decide_eq_true (by kernel_rfl)) (by kernel_rfl) (by kernel_rfl) (by kernel_rfl) (by kernel_rfl) Tryz.underlying3
end
section
open Go.ChangeShapes Go.WideShapes Go.ChangeAt Go.RowKit
theorem one_of_take {cs : List Value} {k : Nat} {v : Value} (h : (cs.drop k).take 1 = [v]) : cs[k]? = some v := by
 have h1 : ((cs.drop k).take 1)[0]? = some v := by rw [h]; rfl
 rw [List.getElem?_take_of_lt (by omega), List.getElem?_drop, Nat.add_zero] at h1
 exact h1
section
variable {H : Type} {enc : TypeId × Value → H} {W : World} {base : Nat} {sp : Nat → Bool} {hd : Bool}
theorem u8_nat {k : Int} (h : (Lit.int .u8 k).wf = true) : ∃ n : Nat, k = n ∧ n < 256 := by
 obtain ⟨h1, h2⟩ := bounds_u8 h
 exact ⟨k.toNat, by omega, by omega⟩
set_option maxRecDepth 100000 in
theorem open_u8 {r0 : Reach} {b0 : Nat} {v : Value} {d : DataW H} {ps : List MemPlace} (hval : Value.okWide Tryz.prog W r0 b0 5 v) (h : DataW.Trod enc Tryz.prog W base sp hd 5 v d ps) : ∃ n : Nat, v = .int .u8 n ∧ n < 256 := by
 obtain ⟨k, rfl, _, _, hw⟩ := open_int Tryz.underlying5 hval h
 obtain ⟨n, rfl, hn⟩ := u8_nat hw
 exact ⟨n, rfl, hn⟩
set_option maxRecDepth 100000 in
theorem open_i64 {r0 : Reach} {b0 : Nat} {v : Value} {d : DataW H} {ps : List MemPlace} (hval : Value.okWide Tryz.prog W r0 b0 3 v) (h : DataW.Trod enc Tryz.prog W base sp hd 3 v d ps) : ∃ n : Int, v = .int .i64 n ∧ -9223372036854775808 ≤ n ∧ n ≤ 9223372036854775807 := by
 obtain ⟨k, rfl, _, _, hw⟩ := open_int Tryz.underlying3 hval h
 exact ⟨k, rfl, _root_.Go.bounds_i64 hw⟩
set_option maxRecDepth 100000 in
theorem open_str {r0 : Reach} {b0 : Nat} {v : Value} {d : DataW H} {ps : List MemPlace} (hval : Value.okWide Tryz.prog W r0 b0 9 v) (h : DataW.Trod enc Tryz.prog W base sp hd 9 v d ps) : ∃ l : List UInt8, v = .string ⟨l.toArray⟩ ∧ l.length ≤ maxLen := by
 obtain ⟨s, rfl, _, _, hs⟩ := Go.ChangeMaps.open_string Tryz.underlying9 hval h
 refine ⟨s.data.toList, ?_, ?_⟩
 ·simp
 ·have e : s.size = s.data.size := rfl
  rw [Array.length_toList]; omega
set_option maxRecDepth 100000 in
theorem four_cells {fuel : Nat} {cs : List Value} {x : DataW H × List MemPlace} (h : DataW.trod enc Tryz.prog W base sp hd fuel 146 cs = some x) : ∃ p q r s : Nat, cs = [.int .u8 p, .int .u8 q, .int .u8 r, .int .u8 s] ∧ Four (p, q, r, s) := by
 obtain ⟨xs, m, _, _, hl, hxl, hx⟩ := DataW.trod_array Tryz.underlying146 h
 have c4 : Tryz.prog.cellsOf 146 = 4 := by kernel_rfl
 have c1 : Tryz.prog.cellsOf 5 = 1 := by kernel_rfl
 rw [c4] at hl
 have each : ∀ i, i < 4 → ∃ b : Nat, cs[i]? = some (.int .u8 b) ∧ b < 256 := by
  intro i hi
  have hq := hx i hi
  rw [c1, Nat.mul_one, List.getElem?_eq_getElem (by omega)] at hq
  obtain ⟨k, hk, _, hw⟩ := DataW.trod_int Tryz.underlying5 hq
  obtain ⟨n, rfl, hn⟩ := u8_nat hw
  exact ⟨n, one_of_take hk, hn⟩
 obtain ⟨p, hp, hp'⟩ := each 0 (by omega)
 obtain ⟨q, hq, hq'⟩ := each 1 (by omega)
 obtain ⟨r, hr, hr'⟩ := each 2 (by omega)
 obtain ⟨s, hs, hs'⟩ := each 3 (by omega)
 refine ⟨p, q, r, s, ?_, hp', hq', hr', hs'⟩
 match cs, hl, hp, hq, hr, hs with
 | [a, b, c, d], _, h0, h1, h2, h3 =>
  simp only [List.getElem?_cons_zero, List.getElem?_cons_succ, Option.some.injEq] at h0 h1 h2 h3
  subst h0 h1 h2 h3
  rfl
theorem okWide_array {P : Program} {n : Nat} {e t : TypeId} {r0 : Reach} {b0 : Nat} {v : Value} (ht : P.underlying t = some (.array n e)) (h : Value.okWide P W r0 b0 t v) : ∃ cs, v = .agg cs ∧ cs.size = P.cellsOf t := by
 simp only [Value.okWide, ht] at h
 obtain ⟨cs, h1, h2, _⟩ := h
 exact ⟨cs, h1, h2⟩
set_option maxRecDepth 100000 in
theorem open_four {r0 : Reach} {b0 : Nat} {v : Value} {d : DataW H} {ps : List MemPlace} (hval : Value.okWide Tryz.prog W r0 b0 146 v) (h : DataW.Trod enc Tryz.prog W base sp hd 146 v d ps) : ∃ p q r s : Nat, v = .agg #[.int .u8 p, .int .u8 q, .int .u8 r, .int .u8 s] ∧ Four (p, q, r, s) := by
 obtain ⟨cs, rfl, _⟩ := okWide_array Tryz.underlying146 hval
 obtain ⟨fuel, hf⟩ := h
 obtain ⟨p, q, r, s, hc, h4⟩ := four_cells hf
 refine ⟨p, q, r, s, ?_, h4⟩
 congr 1
 exact Array.toList_inj.1 hc
end
end
section
open Go.ChangeShapes Go.WideShapes Go.ChangeAt Go.RowKit
section
variable {H : Type} {enc : TypeId × Value → H} {W : World} {base : Nat} {sp : Nat → Bool} {hd : Bool}
set_option maxRecDepth 100000 in
theorem ins_cells {fuel : Nat} {cs : List Value} {x : DataW H × List MemPlace} (h : DataW.trod enc Tryz.prog W base sp hd fuel 173 cs = some x) :
  ∃ (op a b c : Nat) (n : Int), cs = [.int .u8 op, .int .u8 a, .int .u8 b, .int .u8 c, .int .i64 n] ∧ Ins.Bd ⟨op, a, b, c, n⟩ := by
 obtain ⟨xs, m, _, _, hl, hxl, hx⟩ := DataW.trod_struct Tryz.underlying173 h
 have c5 : Tryz.prog.cellsOf 173 = 5 := by kernel_rfl
 have hl' : cs.length = 5 := by rw [hl, c5]
 have hxl' : xs.length = 5 := hxl
 have q0 : DataW.trod enc Tryz.prog W base sp hd m 5 ((cs.drop 0).take (Tryz.prog.cellsOf 5)) = xs[0]? := hx 0 _ rfl
 have q1 : DataW.trod enc Tryz.prog W base sp hd m 5 ((cs.drop 1).take (Tryz.prog.cellsOf 5)) = xs[1]? := hx 1 _ rfl
 have q2 : DataW.trod enc Tryz.prog W base sp hd m 5 ((cs.drop 2).take (Tryz.prog.cellsOf 5)) = xs[2]? := hx 2 _ rfl
 have q3 : DataW.trod enc Tryz.prog W base sp hd m 5 ((cs.drop 3).take (Tryz.prog.cellsOf 5)) = xs[3]? := hx 3 _ rfl
 have q4 : DataW.trod enc Tryz.prog W base sp hd m 3 ((cs.drop 4).take (Tryz.prog.cellsOf 3)) = xs[4]? := hx 4 _ rfl
 rw [List.getElem?_eq_getElem (by omega)] at q0 q1 q2 q3 q4
 have c1 : Tryz.prog.cellsOf 5 = 1 := by kernel_rfl
 have ci : Tryz.prog.cellsOf 3 = 1 := by kernel_rfl
 rw [c1] at q0 q1 q2 q3
 rw [ci] at q4
 obtain ⟨k0, h0, _, w0⟩ := DataW.trod_int Tryz.underlying5 q0
 obtain ⟨k1, h1, _, w1⟩ := DataW.trod_int Tryz.underlying5 q1
 obtain ⟨k2, h2, _, w2⟩ := DataW.trod_int Tryz.underlying5 q2
 obtain ⟨k3, h3, _, w3⟩ := DataW.trod_int Tryz.underlying5 q3
 obtain ⟨k4, h4, _, w4⟩ := DataW.trod_int Tryz.underlying3 q4
 obtain ⟨op, rfl, b0⟩ := u8_nat w0
 obtain ⟨a, rfl, b1⟩ := u8_nat w1
 obtain ⟨b, rfl, b2⟩ := u8_nat w2
 obtain ⟨c, rfl, b3⟩ := u8_nat w3
 have b4 := _root_.Go.bounds_i64 w4
 refine ⟨op, a, b, c, k4, ?_, b0, b1, b2, b3, b4.1, b4.2⟩
 have e0 := one_of_take h0
 have e1 := one_of_take h1
 have e2 := one_of_take h2
 have e3 := one_of_take h3
 have e4 := one_of_take h4
 match cs, hl', e0, e1, e2, e3, e4 with
 | [v, x, y, z, u], _, e0, e1, e2, e3, e4 =>
  simp only [List.getElem?_cons_zero, List.getElem?_cons_succ, Option.some.injEq] at e0 e1 e2 e3 e4
  subst e0 e1 e2 e3 e4
  rfl
set_option maxRecDepth 100000 in
theorem open_ins {r0 : Reach} {b0 : Nat} {v : Value} {d : DataW H} {ps : List MemPlace} (hval : Value.okWide Tryz.prog W r0 b0 173 v) (h : DataW.Trod enc Tryz.prog W base sp hd 173 v d ps) :
  ∃ (op a b c : Nat) (n : Int), v = .agg #[.int .u8 op, .int .u8 a, .int .u8 b, .int .u8 c, .int .i64 n] ∧ Ins.Bd ⟨op, a, b, c, n⟩ := by
 obtain ⟨cs, rfl, _⟩ := okWide_struct Tryz.underlying173 hval
 obtain ⟨fuel, hf⟩ := h
 obtain ⟨op, a, b, c, n, hr, ho⟩ := ins_cells hf
 refine ⟨op, a, b, c, n, ?_, ho⟩
 congr 1
 exact Array.toList_inj.1 hr
end
end
end Go.Proofs.YtmnaleaghfbclaaGreatDoor
