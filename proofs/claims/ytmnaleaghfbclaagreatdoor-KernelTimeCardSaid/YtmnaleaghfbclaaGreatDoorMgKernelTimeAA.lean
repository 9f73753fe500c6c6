/- KernelTime, part 27 of 28: contracts of the functions that it reaches, and the laws that they need, merged and shortened (from my texts XKerV, XGrB, XApSim, XTwo, XTmW, XPost, XOpen, XSized, XGrL). -/
import Derived.Test.YtmnaleaghfbclaaGreatDoorMgKernelTimeA
import Derived.Test.YtmnaleaghfbclaaGreatDoorMgKernelTimeG
import Derived.Test.YtmnaleaghfbclaaGreatDoorMgKernelTimeI
import Derived.Test.YtmnaleaghfbclaaGreatDoorMgKernelTimeO
import Derived.Test.YtmnaleaghfbclaaGreatDoorMgKernelTimeQ
import Derived.Test.YtmnaleaghfbclaaGreatDoorMgKernelTimeR
import Derived.Test.YtmnaleaghfbclaaGreatDoorMgKernelTimeS
import Derived.Test.YtmnaleaghfbclaaGreatDoorMgKernelTimeZ
import Derived.ProofKit
import Derived.WalkKit
import Derived.OpenShut
import Derived.ReadAgain
import Derived.SizedLaws
namespace Go.Proofs.YtmnaleaghfbclaaGreatDoor
set_option linter.unusedVariables false
set_option linter.unusedSimpArgs false
set_option maxHeartbeats 8000000
section
open Go.RowKit
theorem KerB.bound {N : Nat → Prop} {w : World} {k : Kn} {a : KAt} (h : KerB N w k a) : ∀ b, a.own b → b < w.heap.size := by
 rintro b (rfl | rfl | e)
 ·obtain ⟨vq, h1, _⟩ := h.cell
  exact blk_lt h1
 ·obtain ⟨m, ⟨⟨es, clock, h1, _⟩, _⟩, _⟩ := h.inp
  exact (Array.getElem?_eq_some_iff.1 h1).1
 ·obtain ⟨xss, ⟨_, h2⟩, _⟩ := h.parts
  rcases h2 with h0 | ⟨g, cap, cur, e2, hB, hb, r1⟩
  ·rw [h0.1] at e; cases e
  ·rw [e2] at e
   injection e with e
   subst e
   exact (Array.getElem?_eq_some_iff.1 hb).1
theorem sh_good1 : shK1.Good := sh_good.ticked
theorem sh_good2 : shK2.Good := sh_good1.ticked
theorem sh_good3 : shK3.Good := sh_good2.ticked
theorem sh_good4 : shK4.Good := sh_good3.ticked
theorem sh_in65 : shK4.inputE 1 (List.replicate 65 0) = 4 ∧ shK4.input 1 (List.replicate 65 0) = shK4 := by
 have h : shK4.inputE 1 (List.replicate 65 0) = 4 := by decide +kernel
 exact ⟨h, by unfold Kn.input; rw [h]; rfl⟩
theorem sh_in2 : shK4.inputE 2 [] = 2 ∧ shK4.input 2 [] = shK4 := by
 have h : shK4.inputE 2 [] = 2 := by decide +kernel
 exact ⟨h, by unfold Kn.input; rw [h]; rfl⟩
theorem sh_load : shK4.loadE 1 16 [1] = 180 ∧ shK4.load 1 16 [1] = shK4 := by
 obtain ⟨p, hp, _, _, _, hm⟩ := sh_part
 have h := load_some (id := 1) (at_ := 16) (b := [1]) (i := 0) sh_idx.1 hp
 have hE : memE p.mem 16 ([1] : List UInt8).length = 180 := by
  unfold memE
  simp [hm]
 rw [hE] at h
 exact ⟨h.1, h.2⟩
def shK5 : Kn := shK4.input 1 [1, 2]
theorem sh_in1 : shK4.inputE 1 [1, 2] = 0 := by decide +kernel
theorem sh_w5 : (shK5.waits 1).length = 2 := by decide +kernel
theorem sh_w4 : (shK4.waits 1).length = 0 ∧ (shK4.waits 2).length = 0 := by decide +kernel
theorem sh_phys : (physL ((shCfg.ps.map rgOf).zip (shK4.s.parts.map (·.mem)))).length = 4096 := by decide +kernel
theorem sh_part8 : ∃ p, shK4.s.parts[0]? = some p ∧ p.r.length = 8 ∧ p.pc = 0 ∧ p.st = 0 := by
 have h : (shK4.s.parts[0]?.map fun p => (decide (p.r.length = 8) && decide (p.pc = 0) && decide (p.st = 0))) = some true := by decide +kernel
 obtain ⟨p, hp, hq⟩ := Option.map_eq_some_iff.1 h
 simp only [Bool.and_eq_true, decide_eq_true_eq] at hq
 exact ⟨p, hp, hq.1.1, hq.1.2, hq.2⟩
theorem sh_small : shK4.Small := ⟨sh_good4.small.1, sh_good4.small.2.1, sh_good4.small.2.2⟩
theorem mk65 (W : World) : (Instr.makeSlice 50 (.int .i64 65) (.int .i64 65)).run Tryz.prog W = .ok (.slice (some ⟨W.heap.size, 0, none⟩) 65 65) (W.alloc (.cells (Array.replicate 65 (.int .u8 0)) 5)) := by
 have := mk_bytes (65 : Int) (by omega) (by omega) W
 simpa using this
theorem rd_zero {w : World} {g : Nat} {t : TypeId} {fr : Nat × Nat} (n : Nat) (h : w.heap[g]? = some (.cells (Array.replicate n (.int .u8 0)) t fr)) : Rd w (some ⟨g, 0, none⟩) (List.replicate n 0) := by
 intro i x hx
 obtain ⟨hi, rfl⟩ := List.getElem?_eq_some_iff.1 hx
 have hi2 : i < n := by simpa using hi
 exact ⟨g, 0, rfl, blk_cell h (0 + i) (by simp [hi2])⟩
theorem row4 {w : World} {g : Nat} {t : TypeId} {b0 b1 b2 b3 : Bool} (h : w.heap[g]? = some (.cells #[.bool b0, .bool b1, .bool b2, .bool b3] t (0, 0))) : w.cell? ⟨g, 0, none⟩ = some (.bool b0) ∧ w.cell? ⟨g, 1, none⟩ = some (.bool b1) ∧ w.cell? ⟨g, 2, none⟩ = some (.bool b2) ∧ w.cell? ⟨g, 3, none⟩ = some (.bool b3) := ⟨blk_cell h 0 rfl, blk_cell h 1 rfl, blk_cell h 2 rfl, blk_cell h 3 rfl⟩
set_option maxRecDepth 100000 in
theorem awake_ok (w : World) (hE : Env w) :
  Calls Tryz.prog 16 #[] w fun e w' => e = .returned (.bool true) ∧ Chg Non w w' := by
 have HE := Lib.hid hE
 clear hE
 go_enter Tryz.func16, Tryz.ntmps16
 go_wp2_with fail
 refine (shown_ok w HE.out).mono ?_
 rintro e u ⟨A1, A2, rfl, hc, hg⟩
 have HC := Lib.hid hc
 have HG := Lib.hid hg
 clear hc hg
 go_wp2_with fail
 refine (made_ok (fun _ => True) u shCfg 1 A1 A2 none 2 1 0 HC.out sh_fits sh_is ⟨by decide, by decide⟩).mono ?_
 rintro e v ⟨a, rfl, hk, hge, hg⟩
 have HKv : Hid (KerB a.own v shK0 a) := Lib.hid hk
 have HL0 : Hid (∀ b, a.own b → w.heap.size ≤ b) := Lib.hid (fun b e => Nat.le_trans HG.out.size (hge b e))
 have HGv := Lib.hid (HG.out.then_non hg)
 have HL : Hid (∀ b, a.own b → b < v.heap.size) := Lib.hid hk.bound
 clear hk hge hg
 go_wp2_with fail
 have hW0 : Chg Non v (v.alloc (.cells #[.bool false, .bool false, .bool true, .bool false] 4)) := (Chg.refl Non v).alloc _
 have HR0 := Lib.hid (heap_alloc_new v (.cells #[.bool false, .bool false, .bool true, .bool false] 4))
 have HK0 := Lib.hid (HKv.out.non hW0)
 have HG0 := Lib.hid (HGv.out.then_non hW0)
 clear hW0
 obtain ⟨r, hr⟩ : ∃ r, v.heap.size = r := ⟨_, rfl⟩
 rw [hr] at HR0 HL ⊢
 generalize v.alloc (.cells #[.bool false, .bool false, .bool true, .bool false] 4) = W0 at HR0 HK0 HG0 ⊢
 clear hr
 refine wp_loop_rounds 5 ?_
 rw [rounds_succ]
 go_wp2_with fail
 refine (tick_ok a.own W0 shK0 a HK0.out HK0.out.bound sh_good).mono ?_
 rintro e W1 ⟨rfl, hk, hg⟩
 have hrow := blk_keep HR0.out hg (fun e => by have := HK0.out.bound _ e; have := HL.out _ e; omega)
 have HR1 := Lib.hid hrow
 have HK1 : Hid (KerB a.own W1 shK1 a) := Lib.hid hk
 have HG1 := Lib.hid (HG0.out.then_new hg (fun x e => HL0.out x e))
 rw [sh_ends.1]
 obtain ⟨c0, c1, c2, c3⟩ := row4 hrow
 clear hk hg hrow
 go_wp2_with fail
 clear c0 c1 c2 c3
 rw [rounds_succ]
 go_wp2_with fail
 refine (tick_ok a.own W1 shK1 a HK1.out HK1.out.bound sh_good1).mono ?_
 rintro e W2 ⟨rfl, hk, hg⟩
 have hrow := blk_keep HR1.out hg (fun e => by have := HK1.out.bound _ e; have := HL.out _ e; omega)
 have HR2 := Lib.hid hrow
 have HK2 : Hid (KerB a.own W2 shK2 a) := Lib.hid hk
 have HG2 := Lib.hid (HG1.out.then_new hg (fun x e => HL0.out x e))
 rw [sh_ends.2.1]
 obtain ⟨c0, c1, c2, c3⟩ := row4 hrow
 clear hk hg hrow
 go_wp2_with fail
 clear c0 c1 c2 c3
 rw [rounds_succ]
 go_wp2_with fail
 refine (tick_ok a.own W2 shK2 a HK2.out HK2.out.bound sh_good2).mono ?_
 rintro e W3 ⟨rfl, hk, hg⟩
 have hrow := blk_keep HR2.out hg (fun e => by have := HK2.out.bound _ e; have := HL.out _ e; omega)
 have HR3 := Lib.hid hrow
 have HK3 : Hid (KerB a.own W3 shK3 a) := Lib.hid hk
 have HG3 := Lib.hid (HG2.out.then_new hg (fun x e => HL0.out x e))
 rw [sh_ends.2.2.1]
 obtain ⟨c0, c1, c2, c3⟩ := row4 hrow
 clear hk hg hrow
 go_wp2_with fail
 clear c0 c1 c2 c3
 rw [rounds_succ]
 go_wp2_with fail
 refine (tick_ok a.own W3 shK3 a HK3.out HK3.out.bound sh_good3).mono ?_
 rintro e W4 ⟨rfl, hk, hg⟩
 have hrow := blk_keep HR3.out hg (fun e => by have := HK3.out.bound _ e; have := HL.out _ e; omega)
 have HR4 := Lib.hid hrow
 have HK4 : Hid (KerB a.own W4 shK4 a) := Lib.hid hk
 have HG4 := Lib.hid (HG3.out.then_new hg (fun x e => HL0.out x e))
 rw [sh_ends.2.2.2]
 obtain ⟨c0, c1, c2, c3⟩ := row4 hrow
 clear hk hg hrow
 go_wp2_with fail
 clear c0 c1 c2 c3
 rw [rounds_succ]
 go_wp2_with fail
 refine (look_ok a.own W4 shK4 a 1 HK4.out).mono ?_
 rintro e W5 ⟨hlook, hg⟩
 have HK5 := Lib.hid (HK4.out.non hg)
 have HG5 := Lib.hid (HG4.out.then_non hg)
 clear hg
 obtain ⟨p, m, rfl, hpp, h8, hpc, hst, ho⟩ : ∃ (p : Pt) (m : Value), e = .returned (.tuple #[.agg (partC p m), .bool true]) ∧ shK4.s.parts[0]? = some p ∧ p.r.length = 8 ∧ p.pc = 0 ∧ p.st = 0 ∧ m.oneCell' = true := by
  obtain ⟨p, hp, h8, hpc, hst⟩ := sh_part8
  rcases hlook with ⟨j, x, m, hj, hx, e1, A, c, rfl, _⟩ | ⟨hj, _⟩
  ·have hj0 : j = 0 := by have := hj.symm.trans sh_idx.1; omega
   subst hj0
   rw [hp] at hx
   injection hx with hx
   subst hx
   exact ⟨p, _, e1, hp, h8, hpc, hst, rfl⟩
  ·rw [sh_idx.1] at hj
   omega
 clear hlook
 have HP := Lib.hid (And.intro hpp (And.intro hpc hst))
 clear hpp hpc hst
 go_wp2_with (refine sel none (.store 69 (.tmp 6) (.tmp 37)) ?_; refine Vm_stop ?_)
 refine HoleV.mk ?_
 refine wpList_store_rowA rfl 69 (.tmp 6) (.tmp 37) rfl W5.heap.size (partC p m) rfl rfl 69 zeroPart (blk_new _ _) (by rw [partC_size h8]; exact info_part) (by rw [partC_size h8]; rfl) (partC_one _ _ ho) ?_
 intro W6 hgW hbW
 have hNW : Chg Non W5 W6 := ((Chg.refl Non W5).alloc _).then_new hgW (fun x e => by omega)
 have HB6 := Lib.hid hbW
 have HK6 := Lib.hid (HK5.out.non hNW)
 have HG6 := Lib.hid (HG5.out.then_non hNW)
 have hL6 : ∀ b, a.own b → b ≠ W5.heap.size := fun b e => by have := HK5.out.bound b e; omega
 have HL6 := Lib.hid hL6
 obtain ⟨t, ht⟩ : ∃ t, W5.heap.size = t := ⟨_, rfl⟩
 rw [ht] at HB6 HL6 ⊢
 clear hNW hgW hbW hL6 ht
 go_wp2_with fail
 refine (at_ok a.own W6 shK4 a HK6.out).mono ?_
 rintro e W7 ⟨rfl, hg⟩
 rw [sh_at.1]
 have HK7 := Lib.hid (HK6.out.non hg)
 have HG7 := Lib.hid (HG6.out.then_non hg)
 have HB7 := Lib.hid (blk_keep HB6.out hg (fun e => e))
 clear hg
 go_wp2_with fail
 refine (state_ok a.own W7 shK4 a HK7.out sh_small).mono ?_
 rintro e W8 ⟨sb, sd, rfl, _, hg⟩
 rw [sh_at.2.1]
 have HK8 := Lib.hid (HK7.out.non hg)
 have HG8 := Lib.hid (HG7.out.then_non hg)
 have HB8 := Lib.hid (blk_keep HB7.out hg (fun e => e))
 clear hg
 obtain ⟨Z, hZ⟩ : ∃ Z, Array.replicate 65 (Value.int .u8 0) = Z := ⟨_, rfl⟩
 have hmk : ∀ W : World, (Instr.makeSlice 50 (.int .i64 65) (.int .i64 65)).run Tryz.prog W = .ok (.slice (some ⟨W.heap.size, 0, none⟩) 65 65) (W.alloc (.cells Z 5)) := fun W => by rw [← hZ]; exact mk65 W
 have hA8 : Chg Non W8 (W8.alloc (.cells Z 5)) := (Chg.refl Non W8).alloc _
 have hz8 := heap_alloc_new W8 (.cells Z 5)
 rw [← hZ] at hz8
 have HI9 := Lib.hid (input_ok a.own _ shK4 a 1 (some ⟨W8.heap.size, 0, none⟩) (List.replicate 65 0) 65 (HK8.out.non hA8) (HK8.out.non hA8).bound ⟨by decide, by decide⟩ (by rw [sh_w4.1]; decide) (hZ ▸ rd_zero 65 hz8) (by simp))
 rw [sh_in65.1, sh_in65.2] at HI9
 have HA8 := Lib.hid hA8
 clear hA8 hz8 hZ
 go_wp2_with (refine sel (some 45) (.field 30 (.tmp 44) 0) ?_; refine wpList_pureW (some 45) (.int .i64 1) rfl (by kernel_rfl) (by kernel_rfl) ?_)
 refine HI9.out.mono ?_
 rintro e W9 ⟨rfl, hk, hg⟩
 have HK9 := Lib.hid hk
 have HG9 := Lib.hid ((HG8.out.then_non HA8.out).then_new hg (fun x e => HL0.out x e))
 have HB9 := Lib.hid (blk_keep (blk_keep HB8.out HA8.out (fun e => e)) hg (fun e => HL6.out _ e rfl))
 clear hk hg hmk HI9 HA8
 have HI10 := Lib.hid (input_ok a.own W9 shK4 a 2 none [] 0 HK9.out HK9.out.bound ⟨by decide, by decide⟩ (by rw [sh_w4.2]; decide) (Rd.nil _ _) (by simp))
 rw [sh_in2.1, sh_in2.2] at HI10
 go_wp2_with fail
 refine HI10.out.mono ?_
 rintro e W10 ⟨rfl, hk, hg⟩
 have HK10 := Lib.hid hk
 have HG10 := Lib.hid (HG9.out.then_new hg (fun x e => HL0.out x e))
 have HB10 := Lib.hid (blk_keep HB9.out hg (fun e => HL6.out _ e rfl))
 clear hk hg HI10
 have HA10 : Hid (Chg Non W10 (W10.alloc (.cells #[.int .u8 1] 5))) := Lib.hid ((Chg.refl Non W10).alloc _)
 have HI11 := Lib.hid (load_ok a.own _ shK4 a 1 16 (some ⟨W10.heap.size, 0, none⟩) [1] 1 (HK10.out.non HA10.out) (HK10.out.non HA10.out).bound (fun p hp => partOk_mem (sh_good4.pm p hp)) ⟨by decide, by decide⟩ (by
   have hb := heap_alloc_new W10 (.cells #[.int .u8 1] 5)
   intro i x hx
   refine ⟨_, _, rfl, blk_cell hb _ ?_⟩
   rcases i with _ | i
   · simp at hx; subst hx; rfl
   · simp at hx) (by decide))
 rw [sh_load.1, sh_load.2] at HI11
 go_wp2_with fail
 refine HI11.out.mono ?_
 rintro e W11 ⟨rfl, hk, hg⟩
 have HK11 := Lib.hid hk
 have HG11 := Lib.hid ((HG10.out.then_non HA10.out).then_new hg (fun x e => HL0.out x e))
 have HB11 := Lib.hid (blk_keep (blk_keep HB10.out HA10.out (fun e => e)) hg (fun e => HL6.out _ e rfl))
 clear hk hg HI11 HA10
 have t11 : W11.cell? ⟨t, 11, none⟩ = some (.int .u32 0) := by
  have h := blk_cell HB11.out 11 ((partC_end h8 m 0 (by omega)).trans rfl)
  rw [HP.out.2.1] at h
  exact h
 have t12 : W11.cell? ⟨t, 12, none⟩ = some (.int .u8 0) := by
  have h := blk_cell HB11.out 12 ((partC_end h8 m 1 (by omega)).trans rfl)
  rw [HP.out.2.2] at h
  exact h
 go_wp2_with fail
 clear t11 t12
 have HI12 := Lib.hid (phys_ok a.own W11 shK4 a HK11.out HK11.out.bound (by rw [sh_c.1, sh_at.2.2.1]; rfl) (by rw [sh_at.2.2.1]; decide) (by rw [sh_at.2.2.1]; decide) (fun i p q hp hq => by
   rw [sh_c.1] at hp
   have hi : i = 0 := by have := (List.getElem?_eq_some_iff.1 hp).1; simp [shCfg] at this; omega
   subst hi
   obtain ⟨p', hp', _, _, _, hm'⟩ := sh_part
   rw [hp'] at hq
   injection hq with hq
   subst hq
   simp [shCfg] at hp
   subst hp
   exact ⟨by decide +kernel, by rw [hm']; rfl⟩) (by rw [sh_c.1]; exact regAll_one (by decide +kernel)))
 rw [sh_c.1] at HI12
 refine HI12.out.mono ?_
 rintro e W12 ⟨v9, rfl, ⟨A9, c9, rfl, _⟩, hg⟩
 rw [sh_phys]
 have HK12 := Lib.hid (HK11.out.non hg)
 have HG12 := Lib.hid (HG11.out.then_non hg)
 clear hg HI12
 have HA12 : Hid (Chg Non W12 (W12.alloc (.cells #[.int .u8 1, .int .u8 2] 5))) := Lib.hid ((Chg.refl Non W12).alloc _)
 have HI13 := Lib.hid (input_ok a.own _ shK4 a 1 (some ⟨W12.heap.size, 0, none⟩) [1, 2] 2 (HK12.out.non HA12.out) (HK12.out.non HA12.out).bound ⟨by decide, by decide⟩ (by rw [sh_w4.1]; decide) (by
   have hb := heap_alloc_new W12 (.cells #[.int .u8 1, .int .u8 2] 5)
   intro i x hx
   refine ⟨_, _, rfl, blk_cell hb _ ?_⟩
   rcases i with _ | _ | i
   · simp at hx; subst hx; rfl
   · simp at hx; subst hx; rfl
   · simp at hx) (by decide))
 rw [sh_in1] at HI13
 go_wp2_with fail
 refine HI13.out.mono ?_
 rintro e W13 ⟨rfl, hk, hg⟩
 have HK13 : Hid (KerB a.own W13 shK5 a) := Lib.hid hk
 have HG13 := Lib.hid ((HG12.out.then_non HA12.out).then_new hg (fun x e => HL0.out x e))
 clear hk hg HI13 HA12
 have HI14 := Lib.hid (waits_ok a.own W13 shK5 a 1 ⟨by decide, by decide⟩ HK13.out)
 rw [sh_w5] at HI14
 go_wp2_with fail
 refine HI14.out.mono ?_
 rintro e W14 ⟨rfl, hg⟩
 have HG14 := Lib.hid (HG13.out.then_non hg)
 clear hg HI14
 go_wp2_with fail
 go_ret
 exact ⟨rfl, HG14.out⟩
end
section
open Go.RowKit
set_option maxRecDepth 100000 in
theorem great11_ok (I : Nat → Prop) (w : World) (c : Cfg) (A1 A2 A3 : Option Addr) (c1 c2 c3 : Nat) (h : CfgR I w c A1 A2 A3 c1 c2 c3) :
  Calls Tryz.prog 8 #[.agg #[.slice A1 c.ws.length c1, .slice A2 c.ps.length c2, .slice A3 c.cs.length c3]] w fun e w' => ∃ r : Bool, e = .returned (.bool r) ∧ (r = false → c.ws.length ≤ 40 ∧ c.ps.length ≤ 20 ∧ c.cs.length ≤ 40) ∧ Chg Non w w' := by
 have HC := Lib.hid h
 clear h
 by_cases h1 : 40 < c.ws.length
 ·have d1 : decide ((40 : Int) < (c.ws.length : Int)) = true := by rw [decide_eq_true_eq]; omega
  go_enter Tryz.func8, Tryz.ntmps8
  go_wp2_with fail
  all_goals go_ret
  all_goals exact ⟨true, rfl, (fun e => absurd e (by simp)), (Chg.refl _ _).alloc _⟩
 have d1 : decide ((40 : Int) < (c.ws.length : Int)) = false := by rw [decide_eq_false_iff_not]; omega
 by_cases h2 : 20 < c.ps.length
 ·have d2 : decide ((20 : Int) < (c.ps.length : Int)) = true := by rw [decide_eq_true_eq]; omega
  go_enter Tryz.func8, Tryz.ntmps8
  go_wp2_with fail
  all_goals go_ret
  all_goals exact ⟨true, rfl, (fun e => absurd e (by simp)), (Chg.refl _ _).alloc _⟩
 have d2 : decide ((20 : Int) < (c.ps.length : Int)) = false := by rw [decide_eq_false_iff_not]; omega
 by_cases h3 : 40 < c.cs.length
 ·have d3 : decide ((40 : Int) < (c.cs.length : Int)) = true := by rw [decide_eq_true_eq]; omega
  go_enter Tryz.func8, Tryz.ntmps8
  go_wp2_with fail
  all_goals go_ret
  all_goals exact ⟨true, rfl, (fun e => absurd e (by simp)), (Chg.refl _ _).alloc _⟩
 have d3 : decide ((40 : Int) < (c.cs.length : Int)) = false := by rw [decide_eq_false_iff_not]; omega
 have hL : c.ws.length ≤ 40 ∧ c.ps.length ≤ 20 ∧ c.cs.length ≤ 40 := ⟨by omega, by omega, by omega⟩
 have h20 : c.ps.length ≤ 20 := hL.2.1
 have HL := Lib.hid hL
 clear h1 h2 h3 hL
 go_enter Tryz.func8, Tryz.ntmps8
 go_wp2_with fail
 have hblk := blk_new w (.cells #[.slice A1 c.ws.length c1, .slice A2 c.ps.length c2, .slice A3 c.cs.length c3] 26)
 obtain ⟨W1, hW1⟩ : ∃ W1, w.alloc (.cells #[.slice A1 c.ws.length c1, .slice A2 c.ps.length c2, .slice A3 c.cs.length c3] 26) = W1 := ⟨_, rfl⟩
 have HG1 : Hid (Chg Non w W1) := Lib.hid (by rw [← hW1]; exact (Chg.refl Non w).alloc _)
 have hlt0 : w.heap.size < W1.heap.size := by rw [← hW1]; simp
 rw [hW1] at hblk ⊢
 have HB := Lib.hid hblk
 clear hblk hW1 d1 d2 d3
 go_loopw [4, 3] (fun iv sv wr => ∃ (k : Nat) (x : Int), k ≤ c.ps.length ∧ iv = .int .i64 k ∧ sv = .int .i64 x ∧ Hid (Chg Non W1 wr)) (fun iv _ _ => c.ps.length - (intOf iv).toNat)
 case atStart => exact ⟨0, 0, Nat.zero_le _, rfl, rfl, Lib.hid (Chg.refl _ _)⟩
 case round =>
  obtain ⟨k, x, hk, rfl, rfl, HG⟩ := hrel
  have c1r := blk_cell (blk_keep HB.out HG.out (fun e => e)) 1 (v := .slice A2 c.ps.length c2) rfl
  have hltr : w.heap.size < wr.heap.size := Nat.lt_of_lt_of_le hlt0 HG.out.size
  by_cases hlt : k < c.ps.length
  ·have hltd : decide ((k : Int) < (c.ps.length : Int)) = true := by simpa using hlt
   obtain ⟨a, ha⟩ : ∃ a, c.ps[k]? = some a := ⟨_, List.getElem?_eq_getElem hlt⟩
   obtain ⟨b, o, m, rfl, k0, k1, k2, k3, k4, hbv, _, _, _, hil, hbl⟩ := pn_at HC.out.ps (HG1.out.then_non HG.out) ha
   obtain ⟨Am, cm, rfl, _⟩ := hbv
   clear k0 k1 k2 k3 ha
   go_wp2_with fail
   exact ⟨⟨k + 1, _, by omega, by simp, rfl, HG⟩, by simp [intOf]; omega⟩
  ·have hltd : decide ((k : Int) < (c.ps.length : Int)) = false := by simpa using hlt
   go_wp2_with fail
   go_ret
   exact ⟨_, rfl, fun _ => HL.out, HG1.out.then_non HG.out⟩
end
section
open Go.RowKit
section
variable {L : Int → Prop} {a b : Kn}
end
end
section
open Go.RowKit
section
variable {w W W' : World} {ka kb k' : Kn} {a b : KAt} {Na Nb : Nat → Prop} {M : Nat}
end
section
variable {c : Cfg} {who : Int} {ka kb : Kn}
end
theorem KerB.bdp {N : Nat → Prop} {w : World} {k : Kn} {a : KAt} (h : KerB N w k a) {j : Nat} {x : Pt} (hx : k.s.parts[j]? = some x) : x.Bd := by
 obtain ⟨A, c, _, _, _, hr⟩ := h.parts.rd
 obtain ⟨_, _, _, _, _, _, _, m, _, _, hbd, _⟩ := hr j x hx
 exact hbd
end
section
open Go.RowKit
def sAdd1 : List UInt8 := [97, 100, 100, 32, 48, 32, 48, 32, 49]
theorem c_cnt : codeC [sAdd1, sAdd1, sAdd1, sJmp0] = some cntCode := by decide +kernel
theorem rd_cnt (w : World) : RdS (w.alloc (.cells #[.string ⟨#[97, 100, 100, 32, 48, 32, 48, 32, 49]⟩, .string ⟨#[97, 100, 100, 32, 48, 32, 48, 32, 49]⟩, .string ⟨#[97, 100, 100, 32, 48, 32, 48, 32, 49]⟩, .string ⟨#[106, 109, 112, 32, 48]⟩] 9)) (some ⟨w.heap.size, 0, none⟩) [sAdd1, sAdd1, sAdd1, sJmp0] := by
 have hb := heap_alloc_new w (.cells #[.string ⟨#[97, 100, 100, 32, 48, 32, 48, 32, 49]⟩, .string ⟨#[97, 100, 100, 32, 48, 32, 48, 32, 49]⟩, .string ⟨#[97, 100, 100, 32, 48, 32, 48, 32, 49]⟩, .string ⟨#[106, 109, 112, 32, 48]⟩] 9)
 intro i x hx
 refine ⟨_, _, rfl, row_cell hb ?_⟩
 rcases i with _ | _ | _ | _ | i
 ·simp at hx; subst hx; rfl
 ·simp at hx; subst hx; rfl
 ·simp at hx; subst hx; rfl
 ·simp at hx; subst hx; rfl
 ·simp at hx
def cntTo (k : Nat) (ps : List Pn) : List Pn := (ps.take k).map cntP ++ ps.drop k
theorem cntTo_len (k : Nat) (ps : List Pn) : (cntTo k ps).length = ps.length := by simp [cntTo]; omega
theorem cntTo_get {k : Nat} {ps : List Pn} {a : Pn} (h : ps[k]? = some a) : (cntTo k ps)[k]? = some a := by
 obtain ⟨hk, rfl⟩ := List.getElem?_eq_some_iff.1 h
 unfold cntTo
 rw [List.getElem?_append_right (by simp; omega)]
 simp [Nat.min_eq_left (Nat.le_of_lt hk), List.getElem?_drop]
theorem cntTo_set {k : Nat} {ps : List Pn} {a : Pn} (h : ps[k]? = some a) : (cntTo k ps).set k (cntP a) = cntTo (k + 1) ps := by
 obtain ⟨hk, rfl⟩ := List.getElem?_eq_some_iff.1 h
 unfold cntTo
 rw [List.take_succ_eq_append_getElem hk, List.map_append, List.set_append_right _ _ (by simp; omega)]
 have hd : ps.drop k = ps[k] :: ps.drop (k + 1) := by rw [List.drop_eq_getElem_cons hk]
 have he : k - ((ps.take k).map cntP).length = 0 := by simp; omega
 rw [he, hd, List.set_cons_zero]
 simp
theorem cntTo_end (ps : List Pn) : cntTo ps.length ps = ps.map cntP := by simp [cntTo]
theorem own_neP {α : Type} {R : World → α → List Value → Prop} {B1 B2 sz : Nat} {w : World} {v1 v2 : Value} {l1 : List α} {l2 : List UInt8} (h1 : OwnL R B1 83 sz w v1 l1) (h2 : OwnR B2 w v2 l2) : ∀ g, v1.ownBlock = some g → v2.ownBlock ≠ some g := by
 rintro g e1 e2
 obtain ⟨xss, ⟨_, hx⟩, _⟩ := h1
 obtain ⟨_, hy⟩ := h2
 rcases hx with ⟨rfl, _⟩ | ⟨g1, cap, cur, rfl, _, hb1, _⟩
 ·simp [Value.ownBlock] at e1
 rcases hy with ⟨rfl, _⟩ | ⟨g2, cap2, cur2, rfl, _, hb2, _⟩
 ·simp [Value.ownBlock] at e2
 obtain rfl : g1 = g := by simpa [Value.ownBlock] using e1
 obtain rfl : g2 = g1 := by simpa [Value.ownBlock] using e2
 rw [hb1] at hb2
 injection hb2 with hb2
 injection hb2 with _ hb2 _
 exact absurd hb2 (by decide)
structure TimeW (W1 W : World) (c : Cfg) (a : KAt) (f t : Nat) (k : Kn) : Prop where
 ker : KerB a.own W k a
 tm : TimeK c f t k
 chg : Chg a.own W1 W
def TickS (n : Nat) (W1 W : World) (c : Cfg) (a : KAt) (f t : Nat) : Prop := ∃ k, if t < n then TimeW W1 W c a f t k else TimeW W1 W c a (f + 1) 0 k
theorem TimeW.non {W1 W W' : World} {c : Cfg} {a : KAt} {f t : Nat} {k : Kn} (h : TimeW W1 W c a f t k) (hg : Chg Non W W') : TimeW W1 W' c a f t k := ⟨h.ker.non hg, h.tm, h.chg.trans_same hg.of_non⟩
set_option maxRecDepth 100000 in
theorem KernelTime_ok (I : Nat → Prop) (w : World) (hE : Env w) (c : Cfg) (A1 A2 A3 : Option Addr) (c1 c2 c3 : Nat) (hc : CfgR I w c A1 A2 A3 c1 c2 c3) (fr : Int) (hfr : I64 fr) :
  Calls Tryz.prog 7 #[.agg #[.slice A1 c.ws.length c1, .slice A2 c.ps.length c2, .slice A3 c.cs.length c3], .int .i64 fr] w fun e w' => e = .returned (.bool true) ∧ Chg Non w w' := by
 have hg0 : Chg Non w (w.alloc (.cells #[.slice A1 c.ws.length c1, .slice A2 c.ps.length c2, .slice A3 c.cs.length c3] 26)) := (Chg.refl Non w).alloc _
 have HE := Lib.hid (hE.non hg0)
 have HE0 := Lib.hid hE
 have HC := Lib.hid (hc.non hg0)
 have hB1 := blk_new w (.cells #[.slice A1 c.ws.length c1, .slice A2 c.ps.length c2, .slice A3 c.cs.length c3] 26)
 have HG0 := Lib.hid hg0
 have hlt1 : w.heap.size < (w.alloc (.cells #[.slice A1 c.ws.length c1, .slice A2 c.ps.length c2, .slice A3 c.cs.length c3] 26)).heap.size := by simp
 clear hE hc hg0
 go_enter Tryz.func7, Tryz.ntmps7
 go_wp2_with fail
 obtain ⟨W1, hW1⟩ : ∃ W1, w.alloc (.cells #[.slice A1 c.ws.length c1, .slice A2 c.ps.length c2, .slice A3 c.cs.length c3] 26) = W1 := ⟨_, rfl⟩
 rw [hW1] at HE HC HG0 hB1 hlt1 ⊢
 clear hW1
 have HB1 := Lib.hid hB1
 clear hB1
 refine (great11_ok I W1 c A1 A2 A3 c1 c2 c3 HC.out).mono ?_
 rintro e u1 ⟨r1, rfl, hr1, hg1⟩
 have HG1 := Lib.hid hg1
 clear hg1
 cases r1 with
 | true =>
  go_wp2_with fail
  refine (awake_ok _ (HE.out.non HG1.out)).mono ?_
  rintro e v ⟨rfl, hg⟩
  go_wp2_with fail
  go_ret
  exact ⟨rfl, (HG0.out.then_non HG1.out).then_non hg⟩
 | false =>
  obtain ⟨hcw, hcp, hcc⟩ := hr1 rfl
  clear hr1
  have HB2 := Lib.hid (blk_keep HB1.out HG1.out (fun e => e))
  have q0 := blk_cell HB2.out 0 (v := .slice A1 c.ws.length c1) rfl
  have q1 := blk_cell HB2.out 1 (v := .slice A2 c.ps.length c2) rfl
  have q2 := blk_cell HB2.out 2 (v := .slice A3 c.cs.length c3) rfl
  have hlt2 := Nat.lt_of_lt_of_le hlt1 HG1.out.size
  go_wp2_with fail
  refine (fits_ok I u1 c A1 A2 A3 c1 c2 c3 (HC.out.non HG1.out) (by omega)).mono ?_
  rintro e u3 ⟨rfl, hg3⟩
  have HG3 := Lib.hid (HG1.out.then_non hg3)
  have HB3 := Lib.hid (blk_keep HB2.out hg3 (fun e => e))
  have hlt3 := Nat.lt_of_lt_of_le hlt2 hg3.size
  clear hg3 q0 q1 q2
  by_cases hfit : fitsB c = true
  rotate_left
  ·have hfit' : fitsB c = false := by simpa using hfit
   rw [hfit']
   clear hfit hfit'
   go_wp2_with fail
   refine (awake_ok _ (HE.out.non HG3.out)).mono ?_
   rintro e v ⟨rfl, hg⟩
   go_wp2_with fail
   go_ret
   exact ⟨rfl, (HG0.out.then_non HG3.out).then_non hg⟩
  rw [hfit]
  obtain ⟨hp1, hp6, hc8⟩ := fits_lens hfit
  have HF := Lib.hid hfit
  have HIl : Hid (∀ a ∈ c.ps, a.img.length ≤ 512) := Lib.hid (fun a ha => by
    obtain ⟨n, h1, h2, h3, h4⟩ := fits_part hfit ha
    omega)
  clear hfit
  have q0 := blk_cell HB3.out 0 (v := .slice A1 c.ws.length c1) rfl
  have q1 := blk_cell HB3.out 1 (v := .slice A2 c.ps.length c2) rfl
  have q2 := blk_cell HB3.out 2 (v := .slice A3 c.cs.length c3) rfl
  go_wp2_with fail
  refine (cpd_ok I u3 c A1 A2 A3 c1 c2 c3 (HC.out.non HG3.out) (by omega) (by omega) (by omega) HIl.out).mono ?_
  rintro e u4 ⟨A4, A5, A6, c4, c5, c6, M, rfl, hcp4, hg4⟩
  have HG4 := Lib.hid (HG3.out.then_non hg4)
  have HB4 := Lib.hid (blk_keep HB3.out hg4 (fun e => e))
  have HP4 := Lib.hid hcp4
  have hlt4 := Nat.lt_of_lt_of_le hlt3 hg4.size
  have hM3 := hcp4.m
  clear hg4 hcp4 q0 q1 q2
  obtain ⟨g0, hg0⟩ : ∃ g0, w.heap.size = g0 := ⟨_, rfl⟩
  have hg0M : g0 < M := by omega
  have hg0u : g0 < u3.heap.size := by omega
  rw [hg0] at HB4 ⊢
  go_wp2_with (refine sel none (.store 26 (.tmp 2) (.tmp 26)) ?_; refine Vm_stop ?_)
  refine HoleV.mk ?_
  refine wpList_store_rowA rfl 26 (.tmp 2) (.tmp 26) rfl g0 #[.slice A4 c.ws.length c4, .slice A5 c.ps.length c5, .slice A6 c.cs.length c6] rfl rfl 26 #[.slice A1 c.ws.length c1, .slice A2 c.ps.length c2, .slice A3 c.cs.length c3] HB4.out (by kernel_rfl) rfl (by simp [Value.oneCell']) ?_
  intro W5 hgW hbW
  have HG5 := Lib.hid ((HG0.out.then_non HG4.out).then_new hgW (fun x e => by have e : x = g0 := e; omega))
  clear hg0
  have HB5 := Lib.hid hbW
  have HWs5 : Hid (RdL winV (fun b => u3.heap.size ≤ b ∧ b < M) 2 W5 A4 c.ws) := Lib.hid (HP4.out.ws.keep hgW (fun b e (e2 : b = g0) => by have := e.1; omega) (fun _ _ _ h => h))
  have HCs5 : Hid (RdL chV (fun b => u3.heap.size ≤ b ∧ b < M) 5 W5 A6 c.cs) := Lib.hid (HP4.out.cs.keep hgW (fun b e (e2 : b = g0) => by have := e.1; omega) (fun _ _ _ h => h))
  have HPs5 := Lib.hid (HP4.out.ps.keep hgW (fun b e (e2 : b = g0) => by have := (HP4.out.ps.ge e).1; omega) (fun a vs h => h.keep hgW (fun b e (e2 : b = g0) => by have := e.1; omega)))
  have HLn := Lib.hid (And.intro HP4.out.l1 (And.intro HP4.out.l2 HP4.out.l3))
  have HE5 := Lib.hid (HE0.out.non HG5.out)
  clear hgW hbW HP4 HB4 HG1 HG3 HG4 HB1 HB2 HB3 HE
  obtain ⟨g5, cap5, cur5, e5, hM5, hb5, _, _, _, _⟩ := HPs5.out.shape (by omega)
  obtain ⟨rfl, _, rfl⟩ : A5 = some ⟨g5, 0, none⟩ ∧ True ∧ c5 = cap5 := by injection e5 with e1 e2 e3; exact ⟨e1, trivial, e3⟩
  have hg5l := blk_lt hb5
  clear e5 hb5
  go_wp2_with fail
  have hgs : Chg Non W5 (W5.alloc (.cells #[.string ⟨#[97, 100, 100, 32, 48, 32, 48, 32, 49]⟩, .string ⟨#[97, 100, 100, 32, 48, 32, 48, 32, 49]⟩, .string ⟨#[97, 100, 100, 32, 48, 32, 48, 32, 49]⟩, .string ⟨#[106, 109, 112, 32, 48]⟩] 9)) := (Chg.refl Non W5).alloc _
  refine (Code_own (some ⟨W5.heap.size, 0, none⟩) 4 [sAdd1, sAdd1, sAdd1, sJmp0] _ (HE5.out.non hgs) (rd_cnt _) (by decide) (by decide)).mono ?_
  rintro e u6 ⟨hg6, hret⟩
  rw [c_cnt] at hret
  obtain ⟨vb, rfl, hob⟩ := hret
  have HG6 := Lib.hid (hgs.then_non hg6)
  have hsz6 : M < u6.heap.size := by have := hgs.size; have := hg6.size; omega
  have HPs6 := Lib.hid (HPs5.out.non HG6.out (fun a vs h => h.keep HG6.out (fun _ _ e => e)))
  have hobM : ∀ g, vb.ownBlock = some g → M ≤ g := fun g e => by have := hob.ge e; have := hgs.size; omega
  have hobN := own_neP HPs6.out hob
  obtain ⟨Ab, cb, rfl, hb1, hb2, hb3⟩ := hob.rd
  have HBy : Hid (BytesV (Exc M (.slice (some ⟨g5, 0, none⟩) c.ps.length c5)) u6 cntCode (.slice Ab cntCode.length cb)) := Lib.hid ⟨Ab, cb, rfl, hb1, hb2, hb3, fun b o e _ => by
    subst e
    have ho : (Value.slice (some ⟨b, o, none⟩) cntCode.length cb).ownBlock = some b := by
      rcases hob.2 with ⟨h0, _⟩ | ⟨g', cap', cur', e3, _⟩
      · cases h0
      · injection e3 with e3 _ _
        injection e3 with e3
        injection e3 with e3 e4 _
        subst e3 e4
        rfl
    exact ⟨hobM b ho, fun e => hobN _ e ho⟩⟩
  have HE6 := Lib.hid (HE5.out.non HG6.out)
  obtain ⟨n16, hn16⟩ : ∃ n, cntCode.length = n := ⟨_, rfl⟩
  rw [hn16] at HBy ⊢
  have HGa := Lib.hid (HG5.out.then_non HG6.out)
  have HB6 := Lib.hid (blk_keep HB5.out HG6.out (fun e => e))
  have hg5u : g5 < u6.heap.size := Nat.lt_of_lt_of_le hg5l HG6.out.size
  clear hg6 hob hobM hobN hb1 hb2 hb3 hgs HG5 HB5 HPs5 HE5 HE6 hg5l
  have hps0 : cntTo 0 c.ps = c.ps := by simp [cntTo]
  have HPs0 : Hid (OwnL (pnV (Exc M (.slice (some ⟨g5, 0, none⟩) c.ps.length c5))) M 83 5 u6 (.slice (some ⟨g5, 0, none⟩) c.ps.length c5) (cntTo 0 c.ps)) := Lib.hid (by rw [hps0]; exact HPs6.out)
  clear hps0 HPs6
  go_wp2_with fail
  go_loopw [7] (fun iv wr => ∃ k : Nat, k ≤ c.ps.length ∧ iv = .int .i64 k ∧ Hid (OwnL (pnV (Exc M (.slice (some ⟨g5, 0, none⟩) c.ps.length c5))) M 83 5 wr (.slice (some ⟨g5, 0, none⟩) c.ps.length c5) (cntTo k c.ps)) ∧ Hid (Chg (fun b => b = g5) u6 wr)) (fun iv _ => c.ps.length - (intOf iv).toNat)
  case atStart => exact ⟨0, Nat.zero_le _, rfl, HPs0, Lib.hid (Chg.refl _ _)⟩
  case round =>
   clear HPs0
   obtain ⟨k, hk, rfl, HO, HG⟩ := hrel
   have HBx := Lib.hid (blk_keep HB6.out HG.out (fun e => by have e : g0 = g5 := e; omega))
   have b1 := blk_cell HBx.out 1 (v := .slice (some ⟨g5, 0, none⟩) c.ps.length c5) rfl
   by_cases hlt : k < c.ps.length
   ·have hltd : decide ((k : Int) < (c.ps.length : Int)) = true := by simpa using hlt
    have hki : (k : Int) < (c.ps.length : Int) := by omega
    obtain ⟨a, ha⟩ : ∃ a, c.ps[k]? = some a := ⟨_, List.getElem?_eq_getElem hlt⟩
    have hget := cntTo_get ha
    have HSet := Lib.hid (cntTo_set ha)
    obtain ⟨g', cap', cur, e1, hBg, hgb, _, _, _, hel⟩ := HO.out.shape (by rw [cntTo_len]; omega)
    injection e1 with e1 _ _
    injection e1 with e1
    injection e1 with e1 _ _
    subst e1
    obtain ⟨vs, hvl, hrg, m, rfl, hbm, hbd, hml⟩ := hel k a hget
    have fm : wr.cell? ⟨g5, k * 5 + 4, none⟩ = some m := hrg 4 _ rfl
    have zm := blk_free hgb (k * 5 + 4)
    have HGet := Lib.hid hget
    obtain ⟨A', c', rfl, _⟩ := hbm
    clear hel hrg hgb hget ha hbd
    go_wp2_with fail
    have hst := chg_set wr g5 (k * 5 + 4) (.slice Ab n16 cb)
    have hcell := OwnL.cell (R := pnV (Exc M (.slice (some ⟨g5, 0, none⟩) c.ps.length c5))) (R' := pnV (Exc M (.slice (some ⟨g5, 0, none⟩) c.ps.length c5))) (j := 4) (u := .slice Ab n16 cb) (a' := cntP a) HO.out HGet.out (by omega) (fun a vs h => h.keep hst (fun b e (e2 : b = g5) => e.2 (by rw [e2]; rfl))) (fun vs hvl h => by
      obtain ⟨m, rfl, _, hbd, hml⟩ := h
      exact ⟨.slice Ab n16 cb, rfl, (HBy.out.keep HG.out (fun b e (e2 : b = g5) => e.2 (by rw [e2]; rfl))).keep hst (fun b e (e2 : b = g5) => e.2 (by rw [e2]; rfl)), hbd, by simp [cntP, cntCode]⟩)
    rw [HSet.out] at hcell
    exact ⟨⟨k + 1, by omega, by simp, Lib.hid hcell, Lib.hid (HG.out.trans_same hst)⟩, by simp [intOf]; omega⟩
   ·obtain rfl : k = c.ps.length := by omega
    have hltd : decide ((c.ps.length : Int) < (c.ps.length : Int)) = false := by simp
    have b0 := blk_cell HBx.out 0 (v := .slice A4 c.ws.length c4) rfl
    have b2 := blk_cell HBx.out 2 (v := .slice A6 c.cs.length c6) rfl
    rw [cntTo_end] at HO
    have hgr := HG.out.size
    have HGb := Lib.hid (HGa.out.then_new HG.out (fun x e => by have e : x = g5 := e; omega))
    have hws := (HWs5.out.non HG6.out (fun _ _ h => h)).keep HG.out (fun b e (e2 : b = g5) => by have := e.2; omega) (fun _ _ _ h => h)
    have hcs := (HCs5.out.non HG6.out (fun _ _ h => h)).keep HG.out (fun b e (e2 : b = g5) => by have := e.2; omega) (fun _ _ _ h => h)
    have HWs6 : Hid (RdL winV (fun b => b < wr.heap.size) 2 wr A4 c.ws) := Lib.hid (hws.mono (fun b e => by have := e.2; omega) (fun _ _ _ h => h))
    obtain ⟨A7, c7, e7, _, _, hps⟩ := HO.out.rd
    obtain ⟨rfl, _, rfl⟩ : A7 = some ⟨g5, 0, none⟩ ∧ True ∧ c5 = c7 := by injection e7 with e1 e2 e3; exact ⟨e1.symm, trivial, e3⟩
    have hlen : (c.ps.map cntP).length = c.ps.length := by simp
    have hcfg : CfgR (fun _ => True) wr (cntC c) A4 (some ⟨g5, 0, none⟩) A6 c4 c5 c6 := ⟨hws.mono (fun _ _ => trivial) (fun _ _ _ h => h), hps.mono (fun _ _ => trivial) (fun _ _ _ h => h.mono (fun _ _ => trivial)), hcs.mono (fun _ _ => trivial) (fun _ _ _ h => h), HLn.out.1, by show (c.ps.map cntP).length ≤ c5 ∧ _; rw [hlen]; exact HLn.out.2.1, HLn.out.2.2⟩
    have hfc := cntC_fits HF.out
    have hmd := made_ok (fun _ => True) wr (cntC c) 1 A4 (some ⟨g5, 0, none⟩) A6 c4 c5 c6 hcfg hfc (fresh_is hfc) ⟨by decide, by decide⟩
    rw [show (cntC c).ps.length = c.ps.length from hlen, show (cntC c).ws.length = c.ws.length from rfl, show (cntC c).cs.length = c.cs.length from rfl] at hmd
    have HMd := Lib.hid hmd
    have HIds : Hid (∀ (i : Nat) (x : Pn), c.ps[i]? = some x → wr.cell? ⟨g5, i * 5, none⟩ = some (.int .i64 x.id)) := Lib.hid (fun i x hx => by
      obtain ⟨b, o, vs, e, _, hl, hrg, m, rfl, _⟩ := hps i (cntP x) (by rw [List.getElem?_map, hx]; rfl)
      injection e with e
      injection e with e1 e2 _
      subst e1 e2
      have := hrg 0 _ rfl
      rw [Nat.add_zero, Nat.zero_add] at this
      exact this)
    clear hmd hcfg hws hcs hps e7 HO hfc hlen HCs5 HWs5 HBy
    go_wp2_with fail
    refine HMd.out.mono ?_
    rintro e u7 ⟨a, rfl, hk7, ho7, hg7⟩
    have hmay := fits_ws HF.out
    obtain ⟨nF, hnF⟩ : ∃ nF : Nat, wsum c.ws = nF := ⟨(wsum c.ws).toNat, by have := wsum_pos hmay; omega⟩
    have hnF0 : 0 < nF := by have := wsum_pos hmay; omega
    have hnF64 : nF ≤ 64 := by have := (schMay_bd hmay).2.2.2; omega
    have HWm := Lib.hid hnF
    have HSf : Hid (schFrame c.ws = (nF : Int)) := Lib.hid (by rw [schFrame, if_pos hmay, hnF])
    have HMay := Lib.hid hmay
    have HT0 : Hid (TimeW u7 u7 c a 0 0 (kFresh (cntC c) 1)) := Lib.hid ⟨hk7, TimeK.first HF.out, Chg.refl _ _⟩
    have HO7 := Lib.hid ho7
    have HG7 := Lib.hid (HGb.out.then_non hg7)
    have hz7 := hg7.size
    have HB7 := Lib.hid (blk_keep HBx.out hg7 (fun e => e))
    have HW7 : Hid (RdL winV (fun b => b < wr.heap.size) 2 u7 A4 c.ws) := Lib.hid (HWs6.out.non hg7 (fun _ _ h => h))
    have HI7 : Hid (∀ (i : Nat) (x : Pn), c.ps[i]? = some x → u7.cell? ⟨g5, i * 5, none⟩ = some (.int .i64 x.id)) := Lib.hid (fun i x hx => hg7.cell_some (HIds.out i x hx) (fun e => e))
    have hg5r : g5 < wr.heap.size := by have := hgr; omega
    clear hk7 ho7 hg7 b0 b1 b2 HMd hmay hnF HIds HWs6 HGa HGb HBx HB6 HG HG6
    obtain ⟨B0, hB0⟩ : ∃ B0, wr.heap.size = B0 := ⟨_, rfl⟩
    rw [hB0] at HO7 HW7 hz7 hg5r
    have n0 := blk_cell HB7.out 0 (v := .slice A4 c.ws.length c4) rfl
    go_wp2_with fail
    refine (schFrame_ok _ A4 c.ws c4 u7 HW7.out HLn.out.1.1 HLn.out.1.2).mono ?_
    rintro e u8 ⟨rfl, hg8⟩
    rw [HSf.out]
    have HT8 : Hid (TimeW u7 u8 c a 0 0 (kFresh (cntC c) 1)) := Lib.hid (HT0.out.non hg8)
    clear hg8 HT0 n0
    obtain ⟨nq, hnq, hnq5⟩ : ∃ n : Nat, (IntKind.u64.wrap fr).tmod 5 = n ∧ n < 5 := ⟨((IntKind.u64.wrap fr).tmod 5).toNat, by
      have h0 : 0 ≤ IntKind.u64.wrap fr := by show 0 ≤ fr % 18446744073709551616; omega
      have h1 := Int.tmod_nonneg (5 : Int) h0
      have h2 := Int.tmod_lt_of_pos (IntKind.u64.wrap fr) (show (0 : Int) < 5 by omega)
      omega⟩
    go_wp2_with fail
    clear hnq
    go_loopw [10] (fun fv wr => ∃ q : Nat, q ≤ nq + 1 ∧ fv = .int .i64 (q + 1 : Nat) ∧ Hid (∃ k, TimeW u7 wr c a q 0 k)) (fun fv _ => nq + 2 - (intOf fv).toNat)
    case atStart => exact ⟨0, by omega, rfl, Lib.hid ⟨_, HT8.out⟩⟩
    case round =>
     clear HT8
     obtain ⟨q, hq, rfl, HT⟩ := hrel
     obtain ⟨f, hf⟩ : ∃ f, q + 1 = f := ⟨_, rfl⟩
     rw [hf]
     by_cases hlf : f ≤ nq + 1
     ·have hfd : decide ((f : Int) ≤ 1 + (nq : Int)) = true := by rw [decide_eq_true_eq]; omega
      go_wp2_with fail
      go_loopw [11] (fun tv wr => ∃ t : Nat, t ≤ nF ∧ tv = .int .i64 t ∧ Hid (TickS nF u7 wr c a q t)) (fun tv _ => nF - (intOf tv).toNat)
      case atStart => exact ⟨0, Nat.zero_le _, rfl, Lib.hid (by obtain ⟨k, hk⟩ := HT.out; exact ⟨k, by rw [if_pos hnF0]; exact hk⟩)⟩
      case round =>
       clear HT
       obtain ⟨t, ht, rfl, HS⟩ := hrel
       by_cases htl : t < nF
       ·have htd : decide ((t : Int) < (nF : Int)) = true := by simpa using htl
        obtain ⟨k, hk⟩ := HS.out
        rw [if_pos htl] at hk
        have htick : k.tick = t := hk.tm.cnt.tick
        have hne := hk.tm.tick HF.out (by rw [HWm.out]; omega) (by omega)
        rw [HWm.out] at hne
        have HK := Lib.hid hk
        have HNe := Lib.hid hne
        clear hk hne HS
        go_wp2_with fail
        refine (at_ok a.own wr k a HK.out.ker).mono ?_
        rintro e u9 ⟨rfl, hg9⟩
        rw [htick]
        have HK9 := Lib.hid (HK.out.non hg9)
        have hbn : ((t : Int) != (t : Int)) = false := by simp
        clear hg9 HK htick
        go_wp2_with fail
        refine (tick_ok a.own _ k a HK9.out.ker (fun b e => HK9.out.ker.bound b e) HK9.out.tm.good).mono ?_
        rintro e u10 ⟨rfl, hk10, hg10⟩
        have HK10 := Lib.hid (And.intro hk10 (HK9.out.chg.trans_same hg10))
        clear hk10 hg10 HK9 hbn
        by_cases hl1 : t + 1 < nF
        ·have h := HNe.out
         rw [if_pos (by omega)] at h
         rw [h.2]
         have HTk := Lib.hid h.1
         have heq : ((t : Int) == (nF : Int) - 1) = false := by rw [beq_eq_false_iff_ne]; omega
         clear h HNe
         go_wp2_with fail
         exact ⟨⟨t + 1, by omega, by simp, Lib.hid ⟨k.ticked, by rw [if_pos hl1]; exact ⟨HK10.out.1, HTk.out, HK10.out.2⟩⟩⟩, by simp [intOf]; omega⟩
        ·have h := HNe.out
         rw [if_neg (by omega)] at h
         rw [h.2]
         have HTk := Lib.hid h.1
         have heq : ((t : Int) == (nF : Int) - 1) = true := by rw [beq_iff_eq]; omega
         clear h HNe
         go_wp2_with fail
         exact ⟨⟨t + 1, by omega, by simp, Lib.hid ⟨k.ticked, by rw [if_neg (by omega)]; exact ⟨HK10.out.1, HTk.out, HK10.out.2⟩⟩⟩, by simp [intOf]; omega⟩
       ·have htd : decide ((t : Int) < (nF : Int)) = false := by simpa using htl
        obtain ⟨k, hk⟩ := HS.out
        rw [if_neg htl, hf] at hk
        have hfr2 : k.s.frames = (f : Int) := hk.tm.cnt.fr
        have HK := Lib.hid hk
        clear hk HS
        go_wp2_with fail
        refine (state_ok a.own wr k a HK.out.ker ⟨HK.out.tm.good.small.1, HK.out.tm.good.small.2.1, HK.out.tm.good.small.2.2⟩).mono ?_
        rintro e u11 ⟨bs, ds, rfl, hso, hg11⟩
        obtain ⟨Rs, crs, rfl, _, _, _⟩ := hso.ps.rd
        obtain ⟨Qs, cqs, rfl, _, _, _⟩ := hso.qs.rd
        clear hso
        have hfld : ∀ W, (Instr.field 30 (.agg #[.int .i64 (f : Int), .slice Rs k.s.parts.length crs, .slice Qs k.s.queues.length cqs]) 0).run Tryz.prog W = .ok (.int .i64 (f : Int)) W := fun _ => by kernel_rfl
        rw [hfr2]
        have HK11 := Lib.hid (HK.out.non hg11)
        have hbn : ((f : Int) != (f : Int)) = false := by simp
        clear hg11 HK hfr2 htd htl ht
        go_wp2_with fail
        clear hbn
        go_loopw [14] (fun iv wr => ∃ i : Nat, i ≤ c.ps.length ∧ iv = .int .i64 i ∧ Hid (TimeW u7 wr c a f 0 k)) (fun iv _ => c.ps.length - (intOf iv).toNat)
        case atStart => exact ⟨0, Nat.zero_le _, rfl, HK11⟩
        case round =>
         clear HK11
         obtain ⟨i, hi, rfl, HK⟩ := hrel
         have HB4 : Hid (wr.heap[g0]? = some (.cells #[.slice A4 c.ws.length c4, .slice (some ⟨g5, 0, none⟩) c.ps.length c5, .slice A6 c.cs.length c6] 26 (0, 0))) := Lib.hid (blk_keep HB7.out HK.out.chg (fun e => by have := HO7.out _ e; omega))
         have n1 := blk_cell HB4.out 1 (v := .slice (some ⟨g5, 0, none⟩) c.ps.length c5) rfl
         by_cases hil : i < c.ps.length
         ·have hid : decide ((i : Int) < (c.ps.length : Int)) = true := by simpa using hil
          have hii : (i : Int) < (c.ps.length : Int) := by omega
          obtain ⟨x, hx⟩ : ∃ x, c.ps[i]? = some x := ⟨_, List.getElem?_eq_getElem hil⟩
          have ni := HK.out.chg.cell_some (HI7.out i x hx) (fun e => by have e : a.own g5 := e; have := HO7.out _ e; omega)
          obtain ⟨j0, p0, hj0, hp0, hst0, hpc0⟩ := HK.out.tm.part hx
          obtain ⟨xid, hxid⟩ : ∃ y, x.id = y := ⟨_, rfl⟩
          rw [hxid] at ni hj0 hpc0
          have HJ := Lib.hid (And.intro hj0 hp0)
          have HSt := Lib.hid (And.intro hst0 hpc0)
          clear hx hxid hj0 hp0 hst0 hpc0
          go_wp2_with fail
          refine (look_ok a.own wr k a xid HK.out.ker).mono ?_
          rintro e u12 ⟨hcase, hgl⟩
          have HK12 := Lib.hid (HK.out.non hgl)
          have HB12 := Lib.hid (blk_keep HB4.out hgl (fun e => e))
          have ni2 := hgl.cell_some ni (fun e => e)
          rcases hcase with ⟨j1, p1, m1, hj', hp', rfl, hbv⟩ | ⟨hno, _⟩
          rotate_left
          ·exfalso
           have := HJ.out.1
           omega
          obtain rfl : j0 = j1 := by have := HJ.out.1; omega
          obtain rfl : p0 = p1 := by have h1 := HJ.out.2; rw [hp'] at h1; injection h1 with h1; exact h1.symm
          obtain ⟨Ap, cp, rfl, _, _, hRl, _⟩ := hbv
          have hP8 : p0.r.length = 8 := (HK12.out.ker.bdp HJ.out.2).r8
          have HP8 := Lib.hid hP8
          clear hgl hj' hp' hRl ni HB4 HK n1
          go_wp2_with (refine sel none (.store 69 (.tmp 15) (.tmp 109)) ?_; refine Vm_stop ?_)
          refine HoleV.mk ?_
          refine wpList_store_rowA rfl 69 (.tmp 15) (.tmp 109) rfl u12.heap.size (partC p0 (.slice Ap p0.mem.length cp)) rfl rfl 69 zeroPart (blk_new _ _) (by rw [partC_size HP8.out]; exact info_part) (by rw [partC_size HP8.out]; rfl) (partC_one _ _ rfl) ?_
          intro W9 hgW hbW
          have huW : Chg Non u12 W9 := ((Chg.refl Non u12).alloc _).then_new hgW (fun x e => by omega)
          have HK13 := Lib.hid (HK12.out.non huW)
          have HB13 := Lib.hid (blk_keep HB12.out huW (fun e => e))
          have ni := huW.cell_some ni2 (fun e => e)
          have n1 := blk_cell HB13.out 1 (v := .slice (some ⟨g5, 0, none⟩) c.ps.length c5) rfl
          have n0 := blk_cell HB13.out 0 (v := .slice A4 c.ws.length c4) rfl
          obtain ⟨gp, hgp⟩ : ∃ g, u12.heap.size = g := ⟨_, rfl⟩
          rw [hgp] at hbW ⊢
          have hpb : PartB W9 gp p0 (.slice Ap p0.mem.length cp) := ⟨hbW, hP8⟩
          obtain ⟨_, _, _, n11, n12, _⟩ := hpb.cells
          obtain ⟨hst0, hpc0⟩ := HSt.out
          rw [hst0] at n12
          have htk64 : ticksV c.ws xid ≤ 64 := by
           have h1 := whole_take_len HMay.out c.ws.length
           rw [List.take_length] at h1
           exact Nat.le_trans List.count_le_length h1
          obtain ⟨tk, htk⟩ : ∃ tk, ticksV c.ws xid = tk := ⟨_, rfl⟩
          rw [htk] at htk64 hpc0
          obtain ⟨pm, hpm⟩ : ∃ pm : Nat, f * tk = pm := ⟨_, rfl⟩
          have hpm9 : pm ≤ 640 := by rw [← hpm]; exact Nat.mul_le_mul (show f ≤ 10 by omega) htk64
          have hpmI : (f : Int) * (tk : Int) = (pm : Int) := by rw [← hpm]; simp
          rw [hpm] at hpc0
          obtain ⟨rm, hrm⟩ : ∃ rm : Nat, pm % 4 = rm := ⟨_, rfl⟩
          have hrmI : (pm : Int).tmod 4 = (rm : Int) := by rw [← hrm, Int.tmod_eq_emod_of_nonneg (by omega)]; omega
          have hrm4 : rm < 4 := by omega
          rw [hrm] at hpc0
          obtain ⟨pc, hpc⟩ : ∃ pc, p0.pc = pc := ⟨_, rfl⟩
          rw [hpc] at hpc0 n11
          have hpcl : (((pc : Nat) : Int) != 4 * (rm : Int)) = false := by rw [hpc0]; simp
          have hpcb : pc < 4294967296 := by omega
          have hpcw : IntKind.i64.wrap (pc : Int) = (pc : Int) := Go.IntWalk.i64_in _ (by omega)
          have hpmw : IntKind.i64.wrap (pm : Int) = (pm : Int) := Go.IntWalk.i64_in _ (by omega)
          have hrmw : IntKind.i64.wrap (4 * (rm : Int)) = 4 * (rm : Int) := Go.IntWalk.i64_in _ (by omega)
          have HW9 : Hid (∀ W, Chg Non W9 W → Calls Tryz.prog 40 #[.slice A4 c.ws.length c4, .int .i64 xid] W fun e w' => e = .returned (.int .i64 (tk : Nat)) ∧ Chg Non W w') := Lib.hid (fun W hW => by
            rw [← htk]
            exact ticks_ok (fun b => b < B0) A4 c.ws c4 xid W ((HW7.out.keep HK13.out.chg (fun b e e2 => by have := HO7.out _ e2; omega) (fun _ _ _ h => h)).non hW (fun _ _ h => h)) HLn.out.1.1 HLn.out.1.2 HMay.out)
          clear hgW hbW huW hgp hpb hst0 hpc0 htk htk64 hpm hrm hpc HB13 HB12 ni2 HK12 HSt
          go_wp2_with fail
          refine wp_region_held_drew (S := fun W => Chg Non W9 W) (by kernel_rfl) ((Chg.refl Non _).drew) (fun hHeld => ?_)
          clear hHeld
          refine hp 0 111 (.bool true) rfl ((Chg.refl Non _).drew) ?_
          refine hp 1 112 (.bool false) rfl ((Chg.refl Non _).drew) ?_
          refine hp 2 113 (.bool false) rfl ((Chg.refl Non _).drew) ?_
          refine hp 3 114 (.pointer (some ⟨gp, 12, none⟩)) rfl ((Chg.refl Non _).drew) ?_
          refine hp 4 115 (.int .u8 0) rfl ((Chg.refl Non _).drew) ?_ (he := (fun W hW => by have hc := hW.cell_some n12 (fun e => e); go_simp))
          refine hp 5 116 (.bool false) rfl ((Chg.refl Non _).drew) ?_
          refine hp 6 117 (.bool false) rfl ((Chg.refl Non _).drew) ?_
          refine hp 7 118 (.bool false) rfl ((Chg.refl Non _).drew) ?_
          refine hp 8 119 (.pointer (some ⟨gp, 11, none⟩)) rfl ((Chg.refl Non _).drew) ?_
          refine hp 9 120 (.int .u32 (pc : Nat)) rfl ((Chg.refl Non _).drew) ?_ (he := (fun W hW => by have hc := hW.cell_some n11 (fun e => e); go_simp))
          refine hp 10 121 (.int .i64 (pc : Nat)) rfl ((Chg.refl Non _).drew) ?_ (he := (fun W hW => by go_simp))
          refine hp 11 122 (.int .i64 (f : Nat)) rfl ((Chg.refl Non _).drew) ?_
          refine hp 12 123 (.pointer (some ⟨g0, 0, none⟩)) rfl ((Chg.refl Non _).drew) ?_
          refine hp 13 124 (.slice A4 c.ws.length c4) rfl ((Chg.refl Non _).drew) ?_ (he := (fun W hW => by have hc := hW.cell_some n0 (fun e => e); go_simp))
          refine hp 14 125 (.pointer (some ⟨g0, 1, none⟩)) rfl ((Chg.refl Non _).drew) ?_
          refine hp 15 126 (.slice (some ⟨g5, 0, none⟩) c.ps.length c5) rfl ((Chg.refl Non _).drew) ?_ (he := (fun W hW => by have hc := hW.cell_some n1 (fun e => e); go_simp))
          refine hp 16 127 (.int .i64 (i : Nat)) rfl ((Chg.refl Non _).drew) ?_
          refine hp 17 128 (.pointer (some ⟨g5, i * 5, none⟩)) rfl ((Chg.refl Non _).drew) ?_
          refine hp 18 129 (.pointer (some ⟨g5, i * 5, none⟩)) rfl ((Chg.refl Non _).drew) ?_
          refine hp 19 130 (.int .i64 xid) rfl ((Chg.refl Non _).drew) ?_ (he := (fun W hW => by have hc := hW.cell_some ni (fun e => e); go_simp))
          refine h_one 20 (by kernel_rfl) rfl (by kernel_rfl) ?_
          intro K hK
          go_simp
          refine (HW9.out W9.drew ((Chg.refl Non _).drew)).mono ?_
          rintro e v1 ⟨rfl, hg1⟩
          have HKv := Lib.hid (HK13.out.non (((Chg.refl Non W9).drew).then_non hg1))
          refine hK.out _ _ (((Chg.refl Non _).drew).then_non hg1) (fun _ => ?_)
          have HV := Lib.hid (((Chg.refl Non W9).drew).then_non hg1)
          clear hK K hg1
          try simp only [Act.put, sA, sB, sC]
          refine hp 21 132 (.int .i64 (pm : Nat)) rfl HV.out ?_
          refine hp 22 133 (.int .i64 (rm : Nat)) rfl HV.out ?_
          refine hp 23 134 (.int .i64 (4 * (rm : Int))) rfl HV.out ?_
          refine hp 24 135 (.bool false) rfl HV.out ?_
          refine hp 25 136 (.bool false) rfl HV.out ?_
          refine wpAnyH_done (by kernel_rfl) ?_ _
          go_wp2_with fail
          exact ⟨⟨i + 1, by omega, by simp, HKv⟩, by simp [intOf]; omega⟩
         ·obtain rfl : i = c.ps.length := by omega
          have hid : decide ((c.ps.length : Int) < (c.ps.length : Int)) = false := by simp
          go_wp2_with fail
          exact ⟨⟨q + 1, by omega, by rw [hf]; simp, Lib.hid ⟨k, by rw [hf]; exact HK.out⟩⟩, by simp [intOf]; omega⟩
     ·have hfd : decide ((f : Int) ≤ 1 + (nq : Int)) = false := by rw [decide_eq_false_iff_not]; omega
      obtain ⟨k, hk⟩ := HT.out
      have htick : k.tick = 0 := hk.tm.cnt.tick
      have HK := Lib.hid hk
      clear hk HT
      go_wp2_with fail
      refine (at_ok a.own wr k a HK.out.ker).mono ?_
      rintro e w5 ⟨rfl, hg5⟩
      rw [htick]
      have HGf := Lib.hid ((HG7.out.then_new HK.out.chg (fun x e => by have := HO7.out _ e; omega)).then_non hg5)
      clear hg5 HK
      go_wp2_with fail
      refine (awake_ok _ (HE0.out.non HGf.out)).mono ?_
      rintro e v ⟨rfl, hg⟩
      go_wp2_with fail
      go_ret
      exact ⟨rfl, HGf.out.then_non hg⟩
end
section
open Go.ChangeShapes Go.WideShapes Go.ChangeAt Go.RowKit
theorem post_below {H : Type} {enc : TypeId × Value → H} {P : Program} {f : Func} {s : ChangeSpec} {apart fresh handsOn again : Bool} {W W' : World} {args : Array Value} {v : Value} {ds gs : List (DataW H)} {before pa pv : List MemPlace}
  (hW : DataW.Whole enc P f.params.toList s.vars apart W args.toList ds gs before)
  (hres : ∀ (b : Nat) (sp : Nat → Bool) (hd : Bool), DataW.TrodAll enc P W' b sp hd f.resultTypes.toList (v.resultList f.resultTypes.size) (s.fn H (ds ++ gs)).results [])
  (hargs : ∀ sp : Nat → Bool, (∀ p ∈ before, sp p.block = true) → DataW.TrodAll enc P W' 0 sp true f.params.toList args.toList (s.fn H (ds ++ gs)).args pa)
  (hvars : ∀ sp : Nat → Bool, (∀ p ∈ before, sp p.block = true) → DataW.TrodVars enc P W' sp s.vars (s.fn H (ds ++ gs)).vars pv)
  (hps : before = pa ++ pv) (hb : Below W.heap.size W W')
  (hok : ∀ (j : Nat) (t : TypeId) (r : Value), f.resultTypes[j]? = some t → (v.resultList f.resultTypes.size)[j]? = some r → Value.okWide P W' .any 0 t r) :
  s.post enc P f apart fresh handsOn again W args v W' := by
 have hlt := hW.lt
 have hold : ∀ p ∈ before, (fun b => decide (b < W.heap.size)) p.block = true := fun p hp => by simpa using hlt p hp
 refine ⟨ds, gs, before, [], pa, pv, hW, hres _ _ _, hargs _ hold, hvars _ hold, World.keptBut_mono (fun p hp => ⟨hp, ?_⟩) (hb.frame (· ∈ before)), fun _ => ?_⟩
 ·rw [hps, List.mem_append] at hp
  exact Or.inr hp
 ·obtain ⟨_, _, _, _, _, hz, hn⟩ := hW
  refine ⟨hok, _, _, ([] ++ pa) ++ pv, ⟨[] ++ pa, pv, trodAll_append (hargs _ (fun _ _ => rfl)) (hres _ _ _), hvars _ (fun _ _ => rfl), rfl, ?_, ?_⟩, ?_⟩
  ·intro b off hp
   have hp' : MemPlace.cell b off ∈ before := by rw [hps]; simpa using hp
   rw [hb.frozen (show b < W.heap.size from hlt _ hp')]
   exact hz b off hp'
  ·intro ha
   have := hn ha
   rw [hps] at this
   simpa using this
  ·intro p hp _
   rw [hps]
   simpa using hp
end
section
open Go.ChangeShapes Go.WideShapes Go.ChangeAt Go.RowKit
section
variable {H : Type} {enc : TypeId × Value → H} {P : Program}
theorem sameAt_below {W W' : World} (hb : Below W.heap.size W W') {p : MemPlace} (hp : p.block < W.heap.size) : W.sameAt W' p := by
 cases p with
 | cell b off => exact hb.cell (p := ⟨b, off, none⟩) hp
 | map b => exact hb.block b hp
theorem trodAll_carry {W W' : World} {base : Nat} {sp : Nat → Bool} {hd : Bool} : ∀ {ts : List TypeId} {vs : List Value} {ds : List (DataW H)} {ps : List MemPlace},
  DataW.TrodAll enc P W base sp hd ts vs ds ps → (∀ p ∈ ps, W.sameAt W' p) → DataW.TrodAll enc P W' base sp hd ts vs ds ps
 | [], [], [], _, h, _ => h
 | _ :: _, _ :: _, _ :: _, _, ⟨p, q, ⟨n, h1⟩, h2, e⟩, hs =>
  ⟨p, q, ⟨n, DataW.trod_carry n _ _ _ h1 (fun x hx => hs x (by rw [e]; exact List.mem_append_left _ hx))⟩,
    trodAll_carry h2 (fun x hx => hs x (by rw [e]; exact List.mem_append_right _ hx)), e⟩
theorem post_law {f : Func} {s : ChangeSpec} {apart fresh handsOn again : Bool} {W W' : World} {args : Array Value} {tb : TypeId} {ds gs : List (DataW H)} {before : List MemPlace}
  (K : Kids P (· < P.types.size)) (hz : ∀ t e, t < P.types.size → P.underlying t = some (.slice e) → 0 < P.cellsOf e)
  (hT : ∀ t ∈ f.params.toList, t < P.types.size) (hr : f.resultTypes = #[tb]) (hub : P.underlying tb = some .bool)
  (hW : DataW.Whole enc P f.params.toList s.vars apart W args.toList ds gs before) (hv : s.vars = [])
  (hs : (s.fn H (ds ++ gs)).results = [.lit (.bool true)]) (ha : (s.fn H (ds ++ gs)).args = ds) (hv2 : (s.fn H (ds ++ gs)).vars = []) (hb : Below W.heap.size W W') :
  s.post enc P f apart fresh handsOn again W args (.bool true) W' := by
 have hW' := hW
 have hlt := hW.lt
 obtain ⟨p, q, hA, hV, rfl, hfz, hnd⟩ := hW
 rw [hv] at hV
 obtain ⟨rfl, rfl⟩ := trodVars_none hV
 rw [List.append_nil] at hlt
 refine post_below (pa := p) (pv := []) hW' ?_ ?_ ?_ rfl hb ?_
 ·intro b sp hd
  rw [hr, hs]
  exact trodAll_cons_mk (shut_bool hub _) trodAll_mk0
 ·intro sp hsp
  rw [ha]
  exact DataW.TrodAll.respare K hz hT (trodAll_carry hA (fun x hx => sameAt_below hb (hlt x hx))) (fun x hx => hsp x (by simpa using hx))
 ·intro sp _
  rw [hv, hv2]
  rfl
 ·exact ok_one hr rfl (okWide_bool_mk hub _)
theorem open_bytes {r : Reach} {b0 : Nat} {W : World} {t e : TypeId} {v : Value} {d : DataW H} {ps : List MemPlace} (ht : P.underlying t = some (.slice e)) (he : P.underlying e = some (.int .u8)) (hc : P.cellsOf e = 1)
  (hval : Value.okWide P W r b0 t v) (h : DataW.Trod enc P W 0 (fun _ => true) true t v d ps) :
  ∃ (B : Option Addr) (l : List UInt8) (c : Nat), v = .slice B l.length c ∧ Rd W B l ∧ l.length ≤ c ∧ c ≤ maxLen := by
 obtain ⟨a, len, cap, rfl⟩ := okWide_slice ht hval
 obtain ⟨fuel, hf⟩ := h
 rcases open_ints ht he hc hf with ⟨h0, _⟩ | ⟨a', len', cap', zs, h0, _, hl, hm, hzl, _, hcell, hwf⟩
 ·simp only [Value.cells, List.cons.injEq, Value.slice.injEq, and_true] at h0
  obtain ⟨rfl, rfl, rfl⟩ := h0
  exact ⟨none, [], 0, rfl, Rd.nil _ _, Nat.le_refl _, by simp⟩
 ·simp only [Value.cells, List.cons.injEq, Value.slice.injEq, and_true] at h0
  obtain ⟨rfl, rfl, rfl⟩ := h0
  simp only [if_true] at hzl
  have hnum : ∀ n ∈ zs, ((UInt8.ofNat n.toNat).toNat : Int) = n := by
   intro n hn
   obtain ⟨h1, h2⟩ := bounds_u8 (hwf n hn)
   simp only [UInt8.toNat_ofNat']
   omega
  refine ⟨some a', (zs.take len).map (fun n => UInt8.ofNat n.toNat), cap, by simp [hzl, Nat.min_eq_left hl], ?_, by simp [hzl, hl, Nat.min_eq_left hl], hm⟩
  intro i x hx
  rw [List.getElem?_map] at hx
  obtain ⟨n, hn, rfl⟩ := Option.map_eq_some_iff.1 hx
  have hi : i < (zs.take len).length := (List.getElem?_eq_some_iff.1 hn).1
  rw [List.length_take] at hi
  have hn' : zs[i]? = some n := by rw [← hn, List.getElem?_take_of_lt (by omega)]
  obtain ⟨b, off, rfl, hc2⟩ := ints_at hcell (by omega)
  refine ⟨b, off, rfl, ?_⟩
  rw [hc2 i (by omega), List.getD, hn', Option.getD_some, hnum n (List.mem_of_getElem? hn')]
end
end
section
open Go.ChangeShapes Go.WideShapes Go.ChangeAt Go.RowKit
section
variable {H : Type} {P : Program}
theorem wt_all {e : TypeId} {d : DataW H} {n : Nat} : ∀ {l : List (DataW H)}, d ∈ l → n ∈ d.weights P e → n ∈ DataW.weightsAll P e l
 | x :: r, h, hn => by
  simp only [DataW.weightsAll, List.mem_append]
  rcases List.mem_cons.1 h with rfl | h
  ·exact .inl hn
  ·exact .inr (wt_all h hn)
def SizedD (P : Program) (t : TypeId) (d : DataW H) : Prop := ∀ n ∈ d.weights P t, n ≤ reachBytes
theorem SizedD.elem {t e : TypeId} {a b : List (DataW H)} (h : SizedD P t (.slice a b)) (hu : P.underlying t = some (.slice e)) {d : DataW H} (hd : d ∈ a) : SizedD P e d := fun n hn => by
 refine h n ?_
 simp only [DataW.weights, hu, List.mem_cons, List.mem_append]
 exact .inr (.inl (wt_all hd hn))
theorem SizedD.len {t e : TypeId} {a b : List (DataW H)} (h : SizedD P t (.slice a b)) (hu : P.underlying t = some (.slice e)) : (a.length + b.length) * P.bytesOf e ≤ reachBytes := by
 refine h _ ?_
 simp only [DataW.weights, hu, List.mem_cons, true_or]
theorem SizedD.field {t : TypeId} {fs : Array Field} {parts : List (DataW H)} (h : SizedD P t (.agg parts)) (hu : P.underlying t = some (.struct fs)) {i : Nat} {f : Field} {d : DataW H} (hi : fs[i]? = some f) (hd : parts[i]? = some d) : SizedD P f.type d := fun n hn => by
 refine h n ?_
 simp only [DataW.weights, hu]
 refine DataW.weights_mem_each (j := i) (t := f.type) ?_ hd n hn
 rw [List.getElem?_map, Array.getElem?_toList, hi]
 rfl
end
section
variable {H : Type} {enc : TypeId × Value → H} {W : World}
theorem bytes_is {P : Program} {t e : TypeId} {fuel : Nat} {cs : List Value} {x : DataW H × List MemPlace} (ht : P.underlying t = some (.slice e)) (he : P.underlying e = some (.int .u8)) (hc : P.cellsOf e = 1)
  (hf : DataW.trod enc P W 0 (fun _ => true) true fuel t cs = some x) : ∃ (B : Option Addr) (l : List UInt8) (c : Nat), cs = [.slice B l.length c] ∧ Rd W B l ∧ l.length ≤ c ∧ c ≤ maxLen ∧ (P.bytesOf e = 1 → SizedD P t x.1 → c ≤ 140737488351232) := by
 rcases open_ints ht he hc hf with ⟨h0, _⟩ | ⟨a', len', cap', zs, h0, _, hl, hm, hzl, hx, hcell, hwf⟩
 ·exact ⟨none, [], 0, h0, Rd.nil _ _, Nat.le_refl _, by simp, fun _ _ => by omega⟩
 ·simp only [if_true] at hzl
  have hnum : ∀ n ∈ zs, ((UInt8.ofNat n.toNat).toNat : Int) = n := by
   intro n hn
   obtain ⟨h1, h2⟩ := bounds_u8 (hwf n hn)
   simp only [UInt8.toNat_ofNat']
   omega
  refine ⟨some a', (zs.take len').map (fun n => UInt8.ofNat n.toNat), cap', by rw [h0]; simp [hzl, Nat.min_eq_left hl], ?_, by simp [hzl, hl, Nat.min_eq_left hl], hm, ?_⟩
  ·intro i x hx
   rw [List.getElem?_map] at hx
   obtain ⟨n, hn, rfl⟩ := Option.map_eq_some_iff.1 hx
   have hi : i < (zs.take len').length := (List.getElem?_eq_some_iff.1 hn).1
   rw [List.length_take] at hi
   have hn' : zs[i]? = some n := by rw [← hn, List.getElem?_take_of_lt (by omega)]
   obtain ⟨b, off, rfl, hc2⟩ := ints_at hcell (by omega)
   refine ⟨b, off, rfl, ?_⟩
   rw [hc2 i (by omega), List.getD, hn', Option.getD_some, hnum n (List.mem_of_getElem? hn')]
  ·intro hb hs
   rw [hx] at hs
   have := hs.len ht
   rw [hb] at this
   simp only [lits, List.length_map, List.length_take, List.length_drop, Nat.mul_one, reachBytes] at this
   omega
end
end
section
open Go.RowKit
structure Ak where
 what : Nat
 part : Int
 pl : Int
 by_ : List UInt8
def actV (I : Nat → Prop) : World → Ak → List Value → Prop := fun w a vs => ∃ m, vs = [.int .u8 a.what, .int .i64 a.part, .int .i64 a.pl, m] ∧ BytesV I w a.by_ m ∧ a.what < 256 ∧ I64 a.part ∧ I64 a.pl
end
end Go.Proofs.YtmnaleaghfbclaaGreatDoor
