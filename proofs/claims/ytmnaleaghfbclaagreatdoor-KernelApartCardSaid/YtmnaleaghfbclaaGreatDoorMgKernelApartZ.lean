/- KernelApart, part 26 of 27: contracts of the functions that it reaches, and the laws that they need, merged and shortened (from my texts XKerV, XOwnP, XMadeP, XApSim, XTwo, XApT, XGrB, XVmSm). -/
import Derived.Test.YtmnaleaghfbclaaGreatDoorMgKernelApartA
import Derived.Test.YtmnaleaghfbclaaGreatDoorMgKernelApartB
import Derived.Test.YtmnaleaghfbclaaGreatDoorMgKernelApartE
import Derived.Test.YtmnaleaghfbclaaGreatDoorMgKernelApartH
import Derived.Test.YtmnaleaghfbclaaGreatDoorMgKernelApartL
import Derived.Test.YtmnaleaghfbclaaGreatDoorMgKernelApartO
import Derived.Test.YtmnaleaghfbclaaGreatDoorMgKernelApartP
import Derived.Test.YtmnaleaghfbclaaGreatDoorMgKernelApartW
import Derived.Test.YtmnaleaghfbclaaGreatDoorMgKernelApartX
import Derived.Test.YtmnaleaghfbclaaGreatDoorMgKernelApartY
namespace Go.Proofs.YtmnaleaghfbclaaGreatDoor
set_option linter.unusedVariables false
set_option linter.unusedSimpArgs false
set_option maxHeartbeats 8000000
section
open Go.RowKit
theorem KerB.bound {N : Nat → Prop} {w : World} {k : Kn} {a : KAt} (h : KerB N w k a) : ∀ b, a.own b → b < w.heap.size := by
 rintro b (rfl | rfl | e)
 ·obtain ⟨vq, h1, _⟩ := h.cell
  exact blk_lt h1
 ·obtain ⟨m, ⟨⟨es, clock, h1, _⟩, _⟩, _⟩ := h.inp
  exact (Array.getElem?_eq_some_iff.1 h1).1
 ·obtain ⟨xss, ⟨_, h2⟩, _⟩ := h.parts
  rcases h2 with h0 | ⟨g, cap, cur, e2, hB, hb, r1⟩
  ·rw [h0.1] at e; cases e
  ·rw [e2] at e
   injection e with e
   subst e
   exact (Array.getElem?_eq_some_iff.1 hb).1
theorem sh_good1 : shK1.Good := sh_good.ticked
theorem sh_good2 : shK2.Good := sh_good1.ticked
theorem sh_good3 : shK3.Good := sh_good2.ticked
theorem sh_good4 : shK4.Good := sh_good3.ticked
theorem sh_in65 : shK4.inputE 1 (List.replicate 65 0) = 4 ∧ shK4.input 1 (List.replicate 65 0) = shK4 := by
 have h : shK4.inputE 1 (List.replicate 65 0) = 4 := by decide +kernel
 exact ⟨h, by unfold Kn.input; rw [h]; rfl⟩
theorem sh_in2 : shK4.inputE 2 [] = 2 ∧ shK4.input 2 [] = shK4 := by
 have h : shK4.inputE 2 [] = 2 := by decide +kernel
 exact ⟨h, by unfold Kn.input; rw [h]; rfl⟩
theorem sh_load : shK4.loadE 1 16 [1] = 180 ∧ shK4.load 1 16 [1] = shK4 := by
 obtain ⟨p, hp, _, _, _, hm⟩ := sh_part
 have h := load_some (id := 1) (at_ := 16) (b := [1]) (i := 0) sh_idx.1 hp
 have hE : memE p.mem 16 ([1] : List UInt8).length = 180 := by
  unfold memE
  simp [hm]
 rw [hE] at h
 exact ⟨h.1, h.2⟩
def shK5 : Kn := shK4.input 1 [1, 2]
theorem sh_in1 : shK4.inputE 1 [1, 2] = 0 := by decide +kernel
theorem sh_w5 : (shK5.waits 1).length = 2 := by decide +kernel
theorem sh_w4 : (shK4.waits 1).length = 0 ∧ (shK4.waits 2).length = 0 := by decide +kernel
theorem sh_phys : (physL ((shCfg.ps.map rgOf).zip (shK4.s.parts.map (·.mem)))).length = 4096 := by decide +kernel
theorem sh_part8 : ∃ p, shK4.s.parts[0]? = some p ∧ p.r.length = 8 ∧ p.pc = 0 ∧ p.st = 0 := by
 have h : (shK4.s.parts[0]?.map fun p => (decide (p.r.length = 8) && decide (p.pc = 0) && decide (p.st = 0))) = some true := by decide +kernel
 obtain ⟨p, hp, hq⟩ := Option.map_eq_some_iff.1 h
 simp only [Bool.and_eq_true, decide_eq_true_eq] at hq
 exact ⟨p, hp, hq.1.1, hq.1.2, hq.2⟩
theorem sh_small : shK4.Small := ⟨sh_good4.small.1, sh_good4.small.2.1, sh_good4.small.2.2⟩
theorem mk65 (W : World) : (Instr.makeSlice 50 (.int .i64 65) (.int .i64 65)).run Tryz.prog W = .ok (.slice (some ⟨W.heap.size, 0, none⟩) 65 65) (W.alloc (.cells (Array.replicate 65 (.int .u8 0)) 5)) := by
 have := mk_bytes (65 : Int) (by omega) (by omega) W
 simpa using this
theorem rd_zero {w : World} {g : Nat} {t : TypeId} {fr : Nat × Nat} (n : Nat) (h : w.heap[g]? = some (.cells (Array.replicate n (.int .u8 0)) t fr)) : Rd w (some ⟨g, 0, none⟩) (List.replicate n 0) := by
 intro i x hx
 obtain ⟨hi, rfl⟩ := List.getElem?_eq_some_iff.1 hx
 have hi2 : i < n := by simpa using hi
 exact ⟨g, 0, rfl, blk_cell h (0 + i) (by simp [hi2])⟩
theorem row4 {w : World} {g : Nat} {t : TypeId} {b0 b1 b2 b3 : Bool} (h : w.heap[g]? = some (.cells #[.bool b0, .bool b1, .bool b2, .bool b3] t (0, 0))) : w.cell? ⟨g, 0, none⟩ = some (.bool b0) ∧ w.cell? ⟨g, 1, none⟩ = some (.bool b1) ∧ w.cell? ⟨g, 2, none⟩ = some (.bool b2) ∧ w.cell? ⟨g, 3, none⟩ = some (.bool b3) := ⟨blk_cell h 0 rfl, blk_cell h 1 rfl, blk_cell h 2 rfl, blk_cell h 3 rfl⟩
set_option maxRecDepth 100000 in
theorem awake_ok (w : World) (hE : Env w) :
  Calls Tryz.prog 16 #[] w fun e w' => e = .returned (.bool true) ∧ Chg Non w w' := by
 have HE := Lib.hid hE
 clear hE
 go_enter Tryz.func16, Tryz.ntmps16
 go_wp2_with fail
 refine (shown_ok w HE.out).mono ?_
 rintro e u ⟨A1, A2, rfl, hc, hg⟩
 have HC := Lib.hid hc
 have HG := Lib.hid hg
 clear hc hg
 go_wp2_with fail
 refine (made_ok (fun _ => True) u shCfg 1 A1 A2 none 2 1 0 HC.out sh_fits sh_is ⟨by decide, by decide⟩).mono ?_
 rintro e v ⟨a, rfl, hk, hge, hg⟩
 have HKv : Hid (KerB a.own v shK0 a) := Lib.hid hk
 have HL0 : Hid (∀ b, a.own b → w.heap.size ≤ b) := Lib.hid (fun b e => Nat.le_trans HG.out.size (hge b e))
 have HGv := Lib.hid (HG.out.then_non hg)
 have HL : Hid (∀ b, a.own b → b < v.heap.size) := Lib.hid hk.bound
 clear hk hge hg
 go_wp2_with fail
 have hW0 : Chg Non v (v.alloc (.cells #[.bool false, .bool false, .bool true, .bool false] 4)) := (Chg.refl Non v).alloc _
 have HR0 := Lib.hid (heap_alloc_new v (.cells #[.bool false, .bool false, .bool true, .bool false] 4))
 have HK0 := Lib.hid (HKv.out.non hW0)
 have HG0 := Lib.hid (HGv.out.then_non hW0)
 clear hW0
 obtain ⟨r, hr⟩ : ∃ r, v.heap.size = r := ⟨_, rfl⟩
 rw [hr] at HR0 HL ⊢
 generalize v.alloc (.cells #[.bool false, .bool false, .bool true, .bool false] 4) = W0 at HR0 HK0 HG0 ⊢
 clear hr
 refine wp_loop_rounds 5 ?_
 rw [rounds_succ]
 go_wp2_with fail
 refine (tick_ok a.own W0 shK0 a HK0.out HK0.out.bound sh_good).mono ?_
 rintro e W1 ⟨rfl, hk, hg⟩
 have hrow := blk_keep HR0.out hg (fun e => by have := HK0.out.bound _ e; have := HL.out _ e; omega)
 have HR1 := Lib.hid hrow
 have HK1 : Hid (KerB a.own W1 shK1 a) := Lib.hid hk
 have HG1 := Lib.hid (HG0.out.then_new hg (fun x e => HL0.out x e))
 rw [sh_ends.1]
 obtain ⟨c0, c1, c2, c3⟩ := row4 hrow
 clear hk hg hrow
 go_wp2_with fail
 clear c0 c1 c2 c3
 rw [rounds_succ]
 go_wp2_with fail
 refine (tick_ok a.own W1 shK1 a HK1.out HK1.out.bound sh_good1).mono ?_
 rintro e W2 ⟨rfl, hk, hg⟩
 have hrow := blk_keep HR1.out hg (fun e => by have := HK1.out.bound _ e; have := HL.out _ e; omega)
 have HR2 := Lib.hid hrow
 have HK2 : Hid (KerB a.own W2 shK2 a) := Lib.hid hk
 have HG2 := Lib.hid (HG1.out.then_new hg (fun x e => HL0.out x e))
 rw [sh_ends.2.1]
 obtain ⟨c0, c1, c2, c3⟩ := row4 hrow
 clear hk hg hrow
 go_wp2_with fail
 clear c0 c1 c2 c3
 rw [rounds_succ]
 go_wp2_with fail
 refine (tick_ok a.own W2 shK2 a HK2.out HK2.out.bound sh_good2).mono ?_
 rintro e W3 ⟨rfl, hk, hg⟩
 have hrow := blk_keep HR2.out hg (fun e => by have := HK2.out.bound _ e; have := HL.out _ e; omega)
 have HR3 := Lib.hid hrow
 have HK3 : Hid (KerB a.own W3 shK3 a) := Lib.hid hk
 have HG3 := Lib.hid (HG2.out.then_new hg (fun x e => HL0.out x e))
 rw [sh_ends.2.2.1]
 obtain ⟨c0, c1, c2, c3⟩ := row4 hrow
 clear hk hg hrow
 go_wp2_with fail
 clear c0 c1 c2 c3
 rw [rounds_succ]
 go_wp2_with fail
 refine (tick_ok a.own W3 shK3 a HK3.out HK3.out.bound sh_good3).mono ?_
 rintro e W4 ⟨rfl, hk, hg⟩
 have hrow := blk_keep HR3.out hg (fun e => by have := HK3.out.bound _ e; have := HL.out _ e; omega)
 have HR4 := Lib.hid hrow
 have HK4 : Hid (KerB a.own W4 shK4 a) := Lib.hid hk
 have HG4 := Lib.hid (HG3.out.then_new hg (fun x e => HL0.out x e))
 rw [sh_ends.2.2.2]
 obtain ⟨c0, c1, c2, c3⟩ := row4 hrow
 clear hk hg hrow
 go_wp2_with fail
 clear c0 c1 c2 c3
 rw [rounds_succ]
 go_wp2_with fail
 refine (look_ok a.own W4 shK4 a 1 HK4.out).mono ?_
 rintro e W5 ⟨hlook, hg⟩
 have HK5 := Lib.hid (HK4.out.non hg)
 have HG5 := Lib.hid (HG4.out.then_non hg)
 clear hg
 obtain ⟨p, m, rfl, hpp, h8, hpc, hst, ho⟩ : ∃ (p : Pt) (m : Value), e = .returned (.tuple #[.agg (partC p m), .bool true]) ∧ shK4.s.parts[0]? = some p ∧ p.r.length = 8 ∧ p.pc = 0 ∧ p.st = 0 ∧ m.oneCell' = true := by
  obtain ⟨p, hp, h8, hpc, hst⟩ := sh_part8
  rcases hlook with ⟨j, x, m, hj, hx, e1, A, c, rfl, _⟩ | ⟨hj, _⟩
  ·have hj0 : j = 0 := by have := hj.symm.trans sh_idx.1; omega
   subst hj0
   rw [hp] at hx
   injection hx with hx
   subst hx
   exact ⟨p, _, e1, hp, h8, hpc, hst, rfl⟩
  ·rw [sh_idx.1] at hj
   omega
 clear hlook
 have HP := Lib.hid (And.intro hpp (And.intro hpc hst))
 clear hpp hpc hst
 go_wp2_with (refine sel none (.store 69 (.tmp 6) (.tmp 37)) ?_; refine Vm_stop ?_)
 refine HoleV.mk ?_
 refine wpList_store_rowA rfl 69 (.tmp 6) (.tmp 37) rfl W5.heap.size (partC p m) rfl rfl 69 zeroPart (blk_new _ _) (by rw [partC_size h8]; exact info_part) (by rw [partC_size h8]; rfl) (partC_one _ _ ho) ?_
 intro W6 hgW hbW
 have hNW : Chg Non W5 W6 := ((Chg.refl Non W5).alloc _).then_new hgW (fun x e => by omega)
 have HB6 := Lib.hid hbW
 have HK6 := Lib.hid (HK5.out.non hNW)
 have HG6 := Lib.hid (HG5.out.then_non hNW)
 have hL6 : ∀ b, a.own b → b ≠ W5.heap.size := fun b e => by have := HK5.out.bound b e; omega
 have HL6 := Lib.hid hL6
 obtain ⟨t, ht⟩ : ∃ t, W5.heap.size = t := ⟨_, rfl⟩
 rw [ht] at HB6 HL6 ⊢
 clear hNW hgW hbW hL6 ht
 go_wp2_with fail
 refine (at_ok a.own W6 shK4 a HK6.out).mono ?_
 rintro e W7 ⟨rfl, hg⟩
 rw [sh_at.1]
 have HK7 := Lib.hid (HK6.out.non hg)
 have HG7 := Lib.hid (HG6.out.then_non hg)
 have HB7 := Lib.hid (blk_keep HB6.out hg (fun e => e))
 clear hg
 go_wp2_with fail
 refine (state_ok a.own W7 shK4 a HK7.out sh_small).mono ?_
 rintro e W8 ⟨sb, sd, rfl, _, hg⟩
 rw [sh_at.2.1]
 have HK8 := Lib.hid (HK7.out.non hg)
 have HG8 := Lib.hid (HG7.out.then_non hg)
 have HB8 := Lib.hid (blk_keep HB7.out hg (fun e => e))
 clear hg
 obtain ⟨Z, hZ⟩ : ∃ Z, Array.replicate 65 (Value.int .u8 0) = Z := ⟨_, rfl⟩
 have hmk : ∀ W : World, (Instr.makeSlice 50 (.int .i64 65) (.int .i64 65)).run Tryz.prog W = .ok (.slice (some ⟨W.heap.size, 0, none⟩) 65 65) (W.alloc (.cells Z 5)) := fun W => by rw [← hZ]; exact mk65 W
 have hA8 : Chg Non W8 (W8.alloc (.cells Z 5)) := (Chg.refl Non W8).alloc _
 have hz8 := heap_alloc_new W8 (.cells Z 5)
 rw [← hZ] at hz8
 have HI9 := Lib.hid (input_ok a.own _ shK4 a 1 (some ⟨W8.heap.size, 0, none⟩) (List.replicate 65 0) 65 (HK8.out.non hA8) (HK8.out.non hA8).bound ⟨by decide, by decide⟩ (by rw [sh_w4.1]; decide) (hZ ▸ rd_zero 65 hz8) (by simp))
 rw [sh_in65.1, sh_in65.2] at HI9
 have HA8 := Lib.hid hA8
 clear hA8 hz8 hZ
 go_wp2_with (refine sel (some 45) (.field 30 (.tmp 44) 0) ?_; refine wpList_pureW (some 45) (.int .i64 1) rfl (by kernel_rfl) (by kernel_rfl) ?_)
 refine HI9.out.mono ?_
 rintro e W9 ⟨rfl, hk, hg⟩
 have HK9 := Lib.hid hk
 have HG9 := Lib.hid ((HG8.out.then_non HA8.out).then_new hg (fun x e => HL0.out x e))
 have HB9 := Lib.hid (blk_keep (blk_keep HB8.out HA8.out (fun e => e)) hg (fun e => HL6.out _ e rfl))
 clear hk hg hmk HI9 HA8
 have HI10 := Lib.hid (input_ok a.own W9 shK4 a 2 none [] 0 HK9.out HK9.out.bound ⟨by decide, by decide⟩ (by rw [sh_w4.2]; decide) (Rd.nil _ _) (by simp))
 rw [sh_in2.1, sh_in2.2] at HI10
 go_wp2_with fail
 refine HI10.out.mono ?_
 rintro e W10 ⟨rfl, hk, hg⟩
 have HK10 := Lib.hid hk
 have HG10 := Lib.hid (HG9.out.then_new hg (fun x e => HL0.out x e))
 have HB10 := Lib.hid (blk_keep HB9.out hg (fun e => HL6.out _ e rfl))
 clear hk hg HI10
 have HA10 : Hid (Chg Non W10 (W10.alloc (.cells #[.int .u8 1] 5))) := Lib.hid ((Chg.refl Non W10).alloc _)
 have HI11 := Lib.hid (load_ok a.own _ shK4 a 1 16 (some ⟨W10.heap.size, 0, none⟩) [1] 1 (HK10.out.non HA10.out) (HK10.out.non HA10.out).bound (fun p hp => partOk_mem (sh_good4.pm p hp)) ⟨by decide, by decide⟩ (by
   have hb := heap_alloc_new W10 (.cells #[.int .u8 1] 5)
   intro i x hx
   refine ⟨_, _, rfl, blk_cell hb _ ?_⟩
   rcases i with _ | i
   · simp at hx; subst hx; rfl
   · simp at hx) (by decide))
 rw [sh_load.1, sh_load.2] at HI11
 go_wp2_with fail
 refine HI11.out.mono ?_
 rintro e W11 ⟨rfl, hk, hg⟩
 have HK11 := Lib.hid hk
 have HG11 := Lib.hid ((HG10.out.then_non HA10.out).then_new hg (fun x e => HL0.out x e))
 have HB11 := Lib.hid (blk_keep (blk_keep HB10.out HA10.out (fun e => e)) hg (fun e => HL6.out _ e rfl))
 clear hk hg HI11 HA10
 have t11 : W11.cell? ⟨t, 11, none⟩ = some (.int .u32 0) := by
  have h := blk_cell HB11.out 11 ((partC_end h8 m 0 (by omega)).trans rfl)
  rw [HP.out.2.1] at h
  exact h
 have t12 : W11.cell? ⟨t, 12, none⟩ = some (.int .u8 0) := by
  have h := blk_cell HB11.out 12 ((partC_end h8 m 1 (by omega)).trans rfl)
  rw [HP.out.2.2] at h
  exact h
 go_wp2_with fail
 clear t11 t12
 have HI12 := Lib.hid (phys_ok a.own W11 shK4 a HK11.out HK11.out.bound (by rw [sh_c.1, sh_at.2.2.1]; rfl) (by rw [sh_at.2.2.1]; decide) (by rw [sh_at.2.2.1]; decide) (fun i p q hp hq => by
   rw [sh_c.1] at hp
   have hi : i = 0 := by have := (List.getElem?_eq_some_iff.1 hp).1; simp [shCfg] at this; omega
   subst hi
   obtain ⟨p', hp', _, _, _, hm'⟩ := sh_part
   rw [hp'] at hq
   injection hq with hq
   subst hq
   simp [shCfg] at hp
   subst hp
   exact ⟨by decide +kernel, by rw [hm']; rfl⟩) (by rw [sh_c.1]; exact regAll_one (by decide +kernel)))
 rw [sh_c.1] at HI12
 refine HI12.out.mono ?_
 rintro e W12 ⟨v9, rfl, ⟨A9, c9, rfl, _⟩, hg⟩
 rw [sh_phys]
 have HK12 := Lib.hid (HK11.out.non hg)
 have HG12 := Lib.hid (HG11.out.then_non hg)
 clear hg HI12
 have HA12 : Hid (Chg Non W12 (W12.alloc (.cells #[.int .u8 1, .int .u8 2] 5))) := Lib.hid ((Chg.refl Non W12).alloc _)
 have HI13 := Lib.hid (input_ok a.own _ shK4 a 1 (some ⟨W12.heap.size, 0, none⟩) [1, 2] 2 (HK12.out.non HA12.out) (HK12.out.non HA12.out).bound ⟨by decide, by decide⟩ (by rw [sh_w4.1]; decide) (by
   have hb := heap_alloc_new W12 (.cells #[.int .u8 1, .int .u8 2] 5)
   intro i x hx
   refine ⟨_, _, rfl, blk_cell hb _ ?_⟩
   rcases i with _ | _ | i
   · simp at hx; subst hx; rfl
   · simp at hx; subst hx; rfl
   · simp at hx) (by decide))
 rw [sh_in1] at HI13
 go_wp2_with fail
 refine HI13.out.mono ?_
 rintro e W13 ⟨rfl, hk, hg⟩
 have HK13 : Hid (KerB a.own W13 shK5 a) := Lib.hid hk
 have HG13 := Lib.hid ((HG12.out.then_non HA12.out).then_new hg (fun x e => HL0.out x e))
 clear hk hg HI13 HA12
 have HI14 := Lib.hid (waits_ok a.own W13 shK5 a 1 ⟨by decide, by decide⟩ HK13.out)
 rw [sh_w5] at HI14
 go_wp2_with fail
 refine HI14.out.mono ?_
 rintro e W14 ⟨rfl, hg⟩
 have HG14 := Lib.hid (HG13.out.then_non hg)
 clear hg HI14
 go_wp2_with fail
 go_ret
 exact ⟨rfl, HG14.out⟩
end
section
open Go.RowKit
def queO (id : Int) (p q : Qu) : Prop := p.ch = q.ch ∧ (p.ch.src ≠ id → p.ch.dst ≠ id → p = q)
theorem queO.refl {id : Int} (a : Qu) : queO id a a := ⟨rfl, fun _ _ => rfl⟩
theorem queO.symm {id : Int} (a b : Qu) (h : queO id a b) : queO id b a := ⟨h.1.symm, fun e1 e2 => (h.2 (by rw [h.1]; exact e1) (by rw [h.1]; exact e2)).symm⟩
theorem do_own (n : Int) (p : Pt) (w : Wld) : SimL (queO p.id) w.qs (doV n p w).2.1.qs := by
 have hr : SimL (queO p.id) w.qs w.qs := .refl queO.refl _
 unfold doV
 split
 ·exact hr
 split
 ·split
  ·cases hg : qGet (idxOf (qidP (p.g 0)) w.qs) w.qs with
   | none => rw [sendV_none hg]; exact hr
   | some q =>
    rw [sendV_some hg]
    split
    ·rename_i hc
     refine (hr.symm queO.symm).setL (fun b hbq => ?_) |>.symm queO.symm
     rw [(qGet_mem hg).2] at hbq
     injection hbq with hbq
     subst hbq
     exact ⟨rfl, fun e _ => absurd hc.2.1 e⟩
    ·exact hr
  ·exact hr
 split
 ·split
  ·cases hg : qGet (idxOf (qidP (p.g 0)) w.qs) w.qs with
   | none => rw [recvV_none hg]; exact hr
   | some q =>
    by_cases hc : there p.mem (p.g 1) (p.g 2) = true ∧ q.ch.dst = p.id
    ·cases hm : q.msgs with
     | nil => rw [recvV_empty hg hc hm]; exact hr
     | cons m rest =>
      rw [recvV_take hg hc hm]
      refine (hr.symm queO.symm).setL (fun b hbq => ?_) |>.symm queO.symm
      rw [(qGet_mem hg).2] at hbq
      injection hbq with hbq
      subst hbq
      exact ⟨rfl, fun _ e => absurd hc.2 e⟩
    ·rw [recvV_bad hg hc]; exact hr
  ·exact hr
 split
 ·exact hr
 split
 ·unfold inputV
  split <;> exact hr
 split
 ·exact hr
 split <;> exact hr
structure OwnT (id : Int) (a b : Kn) : Prop where
 ps : SimL (partR (· ≠ id)) a.s.parts b.s.parts
 qs : SimL (queO id) a.s.queues b.s.queues
 inp : ∀ x, x ≠ id → a.waits x = b.waits x
theorem OwnT.refl (id : Int) (a : Kn) : OwnT id a a := ⟨.refl partR.refl _, .refl queO.refl _, fun _ _ => rfl⟩
theorem does_own {k : Kn} (i : Nat) {p : Pt} (hi : k.s.parts[i]? = some p) : OwnT p.id k (doesV i k) := by
 have hset : ∀ q : Pt, q.id = p.id → SimL (partR (· ≠ p.id)) k.s.parts (k.s.parts.set i q) := fun q hq =>
  ((SimL.refl partR.refl k.s.parts).setL (fun b hbp => by
    rw [hi] at hbp
    injection hbp with hbp
    subst hbp
    exact ⟨hq, fun e => absurd hq e⟩)).symm partR.symm
 unfold doesV
 rw [hi]
 simp only
 split
 ·split
  ·exact ⟨hset _ (step_id p).1, .refl queO.refl _, fun _ _ => rfl⟩
  ·refine ⟨hset _ ((do_id _ _ _).1.trans (step_id p).1), ?_, fun id e => ?_⟩
   ·have := do_own (stepV p).2.1 (stepV p).1 (k.wld (stepV p).1)
    rw [(step_id p).1] at this
    exact this
   ·show _ = (((updI k.inp (stepV p).1.id _).find? (fun p => p.1 == id)).map (·.2)).getD []
    rw [waits_upd, if_neg (by rw [(step_id p).1]; rintro rfl; exact e rfl)]
    rfl
 ·exact OwnT.refl _ _
theorem tick_own (k : Kn) : OwnT (slotV k.c.ws k.tick).2 k k.ticked := by
 obtain ⟨h1, h2, h3, h4, h5⟩ := fresh_s k
 have hf : OwnT (slotV k.c.ws k.tick).2 k k.turn := by
  unfold Kn.turn
  split
  ·refine ⟨by rw [h1]; exact .refl partR.refl _, by rw [h1]; exact .refl queO.refl _, fun x _ => ?_⟩
   unfold Kn.waits
   rw [h4]
  ·rename_i hi
   obtain ⟨p, hp, hid⟩ := idx_at hi
   have := does_own (k := k.fresh) _ (by rw [h1]; exact hp)
   rw [hid] at this
   refine ⟨by have := this.ps; rw [h1] at this; exact this, by have := this.qs; rw [h1] at this; exact this, fun x e => ?_⟩
   have := this.inp x e
   unfold Kn.waits at this ⊢
   rw [h4] at this
   exact this
 unfold Kn.ticked Kn.next
 split
 ·exact ⟨hf.ps, hf.qs, hf.inp⟩
 ·exact ⟨hf.ps, hf.qs, hf.inp⟩
end
section
open Go.RowKit
theorem mayL_of {α : Type} {ok : α → Bool} {id : α → Int} {l : List α} (h : ∀ a ∈ l, ok a = true) (hr : rise (l.map id) = true) : mayL ok id l = true := by
 refine mayL_yes (fun j hj => ?_)
 have ha := List.getElem?_eq_getElem hj
 cases j with
 | zero => exact stepMay_zero ha (h _ (List.getElem_mem hj))
 | succ j =>
  have hb := List.getElem?_eq_getElem (l := l) (show j < l.length by omega)
  exact stepMay_succ ha (h _ (List.getElem_mem hj)) hb (rise_iff.1 hr j _ _ (by rw [List.getElem?_map, hb]; rfl) (by rw [List.getElem?_map, ha]; rfl))
theorem rise_tail {a : Int} {l : List Int} (h : rise (a :: l) = true) : rise l = true := by
 cases l with
 | nil => rfl
 | cons b t => simp only [rise, Bool.and_eq_true] at h; exact h.2
theorem rise_gt : ∀ {l : List Int} {a : Int}, rise (a :: l) = true → ∀ x ∈ l, a < x
 | [], _, _, x, hx => absurd hx (by simp)
 | b :: t, a, h, x, hx => by
  simp only [rise, Bool.and_eq_true, decide_eq_true_eq] at h
  rcases List.mem_cons.1 hx with rfl | hx
  ·exact h.1
  ·have := rise_gt h.2 x hx
   omega
theorem fits_ids {c : Cfg} (h : fitsB c = true) : rise (c.ps.map (·.id)) = true ∧ ∀ a ∈ c.ps, 1 ≤ a.id ∧ a.id ≤ 6 := by
 have h2 := (fits_iff.1 h).2.1
 simp only [partsBad, Bool.not_eq_false', Bool.and_eq_true, decide_eq_true_eq, List.all_eq_true] at h2
 exact ⟨rise_tail h2.1.2, fun a ha => ⟨by have := rise_gt h2.1.2 a.id (List.mem_map_of_mem ha); omega, h2.2 a ha⟩⟩
theorem fits_chs {c : Cfg} (h : fitsB c = true) : rise (c.cs.map (·.id)) = true ∧ ∀ a ∈ c.cs, a.may = true := by
 have h5 := (fits_iff.1 h).2.2.2.2
 simp only [channelsBad, Bool.or_eq_false_iff, decide_eq_false_iff_not, Decidable.not_not] at h5
 have h := h5.1.2
 unfold chAll at h
 split at h
 ·exact absurd h (by decide)
 ·rename_i hn
  split at h
  ·rename_i hr
   refine ⟨hr, fun a ha => ?_⟩
   by_cases hm : a.may = true
   ·exact hm
   ·exact absurd (List.any_eq_true.2 ⟨a, ha, by simpa using hm⟩) hn
  ·exact absurd h (by decide)
theorem fresh_partOk {c : Cfg} (h : fitsB c = true) {a : Pn} (ha : a ∈ c.ps) : partOk (freshP a) = true := by
 obtain ⟨n, hn, h1, h2, h3⟩ := fits_part h ha
 have hi := (fits_ids h).2 a ha
 have hr := (fits_iff.1 h).2.2.1
 unfold regionsBad at hr
 rw [List.any_eq_false] at hr
 have hr := hr a ha
 have hm : regMay a.base a.size = true := by
  unfold regBad at hr
  simp only [Bool.or_eq_true, Bool.not_eq_true', not_or, Bool.not_eq_false] at hr
  exact hr.1
 have hm := regMay_iff.1 hm
 have hz : regMay 0 a.size = true := regMay_iff.2 ⟨by omega, by omega, by omega, by omega, by omega, by omega⟩
 have hm2 : ((freshP a).mem.length : Int) = (freshP a).size := by
  show ((fillL a.size.toNat a.img).length : Int) = a.size
  rw [hn, Int.toNat_natCast, fillL_len h3]
 simp only [partOk, Bool.and_eq_true, decide_eq_true_eq]
 exact ⟨⟨⟨⟨hi.1, hi.2⟩, hz⟩, hm2⟩, by show ((0 : Nat) : Int) ≤ 4; omega⟩
theorem fresh_mayQ {c : Cfg} (h : fitsB c = true) {a : Ch} (ha : a ∈ c.cs) : mayQ (freshQ a) = true := by
 have hm := (fits_chs h).2 a ha
 have hc : 0 ≤ a.cap := by
  simp only [Ch.may, chMay, Bool.and_eq_true, decide_eq_true_eq] at hm
  omega
 simp [mayQ, freshQ, hm, hc]
theorem fresh_ids (c : Cfg) : (freshS c).parts.map Pt.id = c.ps.map (·.id) ∧ (freshS c).queues.map (fun q : Qu => q.ch.id) = c.cs.map (·.id) := by
 constructor <;> simp [freshS, freshP, freshQ, Function.comp_def]
theorem fresh_mayS {c : Cfg} (h : fitsB c = true) : mayS (freshS c) = true := by
 obtain ⟨h1, h2, h3⟩ := fits_lens h
 obtain ⟨e1, e2⟩ := fresh_ids c
 have hp : mayL partOk Pt.id (freshS c).parts = true := mayL_of (fun p hp => by
   obtain ⟨a, ha, rfl⟩ := List.mem_map.1 hp
   exact fresh_partOk h ha) (by rw [e1]; exact (fits_ids h).1)
 have hq : mayL mayQ (fun q : Qu => q.ch.id) (freshS c).queues = true := mayL_of (fun p hp => by
   obtain ⟨a, ha, rfl⟩ := List.mem_map.1 hp
   exact fresh_mayQ h ha) (by rw [e2]; exact (fits_chs h).1)
 have l1 : (freshS c).parts.length = c.ps.length := by simp [freshS]
 have l2 : (freshS c).queues.length = c.cs.length := by simp [freshS]
 simp only [mayS, Bool.and_eq_true, decide_eq_true_eq]
 exact ⟨⟨⟨⟨⟨by show (0 : Int) ≤ 0; omega, by show (0 : Int) ≤ _; omega⟩, by omega⟩, by omega⟩, hp⟩, hq⟩
theorem fresh_is {c : Cfg} (h : fitsB c = true) : isB (freshS c) c := by
 refine ⟨eqAll_iff.2 ⟨by simp [freshS], fun i a b ha hb => ?_⟩, eqAll_iff.2 ⟨by simp [freshS], fun i a b ha hb => ?_⟩, fresh_mayS h, h⟩
 ·simp only [freshS, List.getElem?_map, hb, Option.map_some, Option.some.injEq] at ha
  subst ha
  simp [sameP, freshP]
 ·simp only [freshS, List.getElem?_map, hb, Option.map_some, Option.some.injEq] at ha
  subst ha
  simp [sameQ, freshQ]
theorem fits_ws {c : Cfg} (h : fitsB c = true) : schMay c.ws = true := by
 have := (fits_iff.1 h).1
 simp only [windowsBad, Bool.or_eq_false_iff, Bool.not_eq_false'] at this
 exact this.1
theorem wsum_pos {ws : List Win} (h : schMay ws = true) : 0 < wsum ws := by
 obtain ⟨h1, _, h3, _⟩ := schMay_bd h
 cases ws with
 | nil => simp at h1
 | cons a r =>
  rw [wsum_cons]
  have := (winOk_iff.1 (h3 a (List.mem_cons_self ..))).1
  have := wsum_ge (ws := r) (fun b hb => h3 b (List.mem_cons_of_mem _ hb))
  omega
def kFresh (c : Cfg) (ver : Int) : Kn := ⟨c, freshS c, ver, 0, [], false⟩
theorem fresh_good {c : Cfg} (h : fitsB c = true) (ver : Int) : (kFresh c ver).Good := by
 obtain ⟨h1, h2, h3⟩ := fits_lens h
 refine ⟨fits_ws h, by show (0 : Int) ≤ 0; omega, wsum_pos (fits_ws h), by show (0 : Int) ≤ 0; omega, by show (0 : Int) ≤ _; omega, by simp [kFresh, freshS]; omega, by simp [kFresh, freshS]; omega, fun p hp => ?_, fun p hp => ?_, fun x hx => absurd hx (by simp [kFresh])⟩
 ·obtain ⟨a, ha, rfl⟩ := List.mem_map.1 hp
  exact fresh_partOk h ha
 ·obtain ⟨a, ha, rfl⟩ := List.mem_map.1 hp
  exact fresh_mayQ h ha
end
section
open Go.RowKit
theorem load_cases (k : Kn) (id at_ : Int) (b : List UInt8) : k.load id at_ b = k ∨ ∃ (i : Nat) (p : Pt), k.s.parts[i]? = some p ∧ p.id = id ∧ idxOf (idP id) k.s.parts = i ∧ memE p.mem at_ b.length = 0 ∧ k.load id at_ b = { k with s := { k.s with parts := k.s.parts.set i { p with mem := put p.mem at_.toNat b } } } := by
 by_cases hi : idxOf (idP id) k.s.parts < 0
 ·exact .inl (load_none hi).2
 ·obtain ⟨p, hp, hid⟩ := idx_at hi
  have hx : idxOf (idP id) k.s.parts = ((idxOf (idP id) k.s.parts).toNat : Int) := by omega
  have h2 := (load_some (at_ := at_) (b := b) hx hp).2
  by_cases hm : memE p.mem at_ b.length = 0
  ·rw [if_pos hm] at h2
   exact .inr ⟨_, p, hp, hid, hx, hm, h2⟩
  ·rw [if_neg hm] at h2
   exact .inl h2
theorem load_same (k : Kn) (id at_ : Int) (b : List UInt8) : (k.load id at_ b).c = k.c ∧ (k.load id at_ b).ver = k.ver ∧ (k.load id at_ b).tick = k.tick ∧ (k.load id at_ b).inp = k.inp ∧ (k.load id at_ b).yl = k.yl ∧ (k.load id at_ b).s.frames = k.s.frames ∧ (k.load id at_ b).s.queues = k.s.queues := by
 rcases load_cases k id at_ b with h | ⟨i, p, _, _, _, _, h⟩ <;> rw [h] <;> exact ⟨rfl, rfl, rfl, rfl, rfl, rfl, rfl⟩
theorem input_same (k : Kn) (id : Int) (b : List UInt8) : (k.input id b).c = k.c ∧ (k.input id b).ver = k.ver ∧ (k.input id b).tick = k.tick ∧ (k.input id b).s = k.s ∧ (k.input id b).yl = k.yl := by
 unfold Kn.input
 split <;> exact ⟨rfl, rfl, rfl, rfl, rfl⟩
theorem Kn.Good.load {k : Kn} (h : k.Good) (id at_ : Int) (b : List UInt8) : (k.load id at_ b).Good := by
 rcases load_cases k id at_ b with e | ⟨i, p, hp, hid, _, hm, e⟩
 ·rw [e]; exact h
 ·rw [e]
  have hpm := h.pm p (List.mem_of_getElem? hp)
  refine ⟨h.sch, h.t0, h.t1, h.f0, h.f1, by simpa using h.pl, h.ql, fun x hx => ?_, h.qm, h.il⟩
  rcases List.mem_or_eq_of_mem_set hx with hx | hx
  ·exact h.pm x hx
  ·rw [hx]
   refine partOk_of hpm rfl rfl ?_ (by simp [partOk] at hpm; show p.st ≤ 4; omega)
   show (put p.mem at_.toNat b).length = p.mem.length
   refine put_len ?_
   unfold memE at hm
   split at hm
   ·exact absurd hm (by decide)
   ·split at hm
    ·exact absurd hm (by decide)
    ·omega
theorem Kn.Good.input {k : Kn} (h : k.Good) (id : Int) (b : List UInt8) : (k.input id b).Good := by
 unfold Kn.input
 split
 ·rename_i he
  refine ⟨h.sch, h.t0, h.t1, h.f0, h.f1, h.pl, h.ql, h.pm, h.qm, fun x hx => ?_⟩
  rcases mem_updI hx with hx | hx
  ·exact h.il x hx
  ·rw [hx]
   unfold Kn.inputE at he
   split at he
   ·exact absurd he (by decide)
   ·split at he
    ·exact absurd he (by decide)
    ·rw [List.length_append]; omega
 ·exact h
section
variable {L : Int → Prop} {a b : Kn}
theorem load_quiet {id : Int} (hn : ¬ L id) (at_ : Int) (l : List UInt8) : SimK L a (a.load id at_ l) := by
 obtain ⟨s1, s2, s3, s4, s5, s6, s7⟩ := load_same a id at_ l
 refine ⟨s1.symm, s2.symm, s3.symm, s6.symm, ?_, by rw [s7]; exact .refl queR.refl _, fun i _ => by unfold Kn.waits; rw [s4]⟩
 rcases load_cases a id at_ l with e | ⟨i, p, hp, hid, _, hm, e⟩
 ·rw [e]; exact .refl partR.refl _
 ·rw [e]
  exact ((SimL.refl partR.refl a.s.parts).setL (fun q hq => by
    rw [hp] at hq
    injection hq with hq
    subst hq
    exact ⟨rfl, fun e => absurd (hid ▸ e) hn⟩)).symm partR.symm
theorem load_simK (h : SimK L a b) (id at_ : Int) (l m : List UInt8) (hl : L id → l = m) : SimK L (a.load id at_ l) (b.load id at_ m) := by
 by_cases hL : L id
 ·obtain rfl := hl hL
  obtain ⟨s1, s2, s3, s4, s5, s6, s7⟩ := load_same a id at_ l
  obtain ⟨t1, t2, t3, t4, t5, t6, t7⟩ := load_same b id at_ l
  refine ⟨by rw [s1, t1]; exact h.c, by rw [s2, t2]; exact h.ver, by rw [s3, t3]; exact h.tick, by rw [s6, t6]; exact h.fr, ?_, by rw [s7, t7]; exact h.qs, fun i hi => by unfold Kn.waits; rw [s4, t4]; exact h.inp i hi⟩
  have hx := h.idx id
  by_cases hi : idxOf (idP id) a.s.parts < 0
  ·rw [(load_none hi).2, (load_none (by rw [← hx]; exact hi)).2]
   exact h.ps
  ·obtain ⟨p, hp, hid⟩ := idx_at hi
   obtain ⟨q, hq, hR⟩ := h.ps.other hp
   obtain rfl := hR.2 (by rw [hid]; exact hL)
   have e1 : idxOf (idP id) a.s.parts = ((idxOf (idP id) a.s.parts).toNat : Int) := by omega
   have e2 : idxOf (idP id) b.s.parts = ((idxOf (idP id) a.s.parts).toNat : Int) := by omega
   rw [(load_some e1 hp).2, (load_some e2 hq).2]
   by_cases hm : memE p.mem at_ l.length = 0
   ·rw [if_pos hm, if_pos hm]
    exact h.ps.set (partR.refl _)
   ·rw [if_neg hm, if_neg hm]
    exact h.ps
 ·exact ((load_quiet hL at_ l).symm.trans h).trans (load_quiet hL at_ m)
theorem input_quiet {id : Int} (hn : ¬ L id) (l : List UInt8) : SimK L a (a.input id l) := by
 obtain ⟨s1, s2, s3, s4, s5⟩ := input_same a id l
 refine ⟨s1.symm, s2.symm, s3.symm, by rw [s4], by rw [s4]; exact .refl partR.refl _, by rw [s4]; exact .refl queR.refl _, fun i hi => ?_⟩
 unfold Kn.input
 split
 ·show a.waits i = (((updI a.inp id (a.waits id ++ l)).find? (fun p => p.1 == i)).map (·.2)).getD []
  rw [waits_upd, if_neg (by rintro rfl; exact hn hi)]
  rfl
 ·rfl
theorem input_simK (h : SimK L a b) (id : Int) (l m : List UInt8) (hl : L id → l = m) : SimK L (a.input id l) (b.input id m) := by
 by_cases hL : L id
 ·obtain rfl := hl hL
  obtain ⟨s1, s2, s3, s4, s5⟩ := input_same a id l
  obtain ⟨t1, t2, t3, t4, t5⟩ := input_same b id l
  refine ⟨by rw [s1, t1]; exact h.c, by rw [s2, t2]; exact h.ver, by rw [s3, t3]; exact h.tick, by rw [s4, t4]; exact h.fr, by rw [s4, t4]; exact h.ps, by rw [s4, t4]; exact h.qs, fun i hi => ?_⟩
  have hw := h.inp id hL
  have hE : a.inputE id l = b.inputE id l := by
   unfold Kn.inputE
   rw [h.idx id, hw]
  unfold Kn.input
  rw [← hE]
  split
  ·show (((updI a.inp id (a.waits id ++ l)).find? (fun p => p.1 == i)).map (·.2)).getD [] = (((updI b.inp id (b.waits id ++ l)).find? (fun p => p.1 == i)).map (·.2)).getD []
   rw [waits_upd, waits_upd, hw]
   split
   ·rfl
   ·exact h.inp i hi
  ·exact h.inp i hi
 ·exact ((input_quiet hL l).symm.trans h).trans (input_quiet hL m)
theorem load_sim (h : SimY L a b) (id at_ : Int) (l m : List UInt8) (hl : L id → l = m) : SimY L (a.load id at_ l) (b.load id at_ m) := by
 obtain ⟨s1, s2, s3, s4, s5, s6, s7⟩ := load_same a id at_ l
 obtain ⟨t1, t2, t3, t4, t5, t6, t7⟩ := load_same b id at_ m
 exact ⟨load_simK h.k id at_ l m hl, by rw [s1, s3, s5, t5]; exact h.y⟩
theorem input_sim (h : SimY L a b) (id : Int) (l m : List UInt8) (hl : L id → l = m) : SimY L (a.input id l) (b.input id m) := by
 obtain ⟨s1, s2, s3, s4, s5⟩ := input_same a id l
 obtain ⟨t1, t2, t3, t4, t5⟩ := input_same b id m
 exact ⟨input_simK h.k id l m hl, by rw [s1, s3, s5, t5]; exact h.y⟩
end
def chIn (cs : List Ch) (k : Kn) : Prop := ∀ q ∈ k.s.queues, q.ch ∈ cs
theorem chIn.tick {cs : List Ch} {k : Kn} (h : chIn cs k) : chIn cs k.ticked := fun q hq => by
 obtain ⟨i, hi, rfl⟩ := List.mem_iff_getElem.1 hq
 obtain ⟨p, hp, hR⟩ := ((tick_own k).qs.symm queO.symm).other (List.getElem?_eq_getElem hi)
 rw [hR.1]
 exact h p (List.mem_of_getElem? hp)
theorem chIn.load {cs : List Ch} {k : Kn} (h : chIn cs k) (id at_ : Int) (l : List UInt8) : chIn cs (k.load id at_ l) := by
 unfold chIn
 rw [(load_same k id at_ l).2.2.2.2.2.2]
 exact h
theorem chIn.input {cs : List Ch} {k : Kn} (h : chIn cs k) (id : Int) (l : List UInt8) : chIn cs (k.input id l) := by
 unfold chIn
 rw [(input_same k id l).2.2.2.1]
 exact h
theorem chIn.fresh (c : Cfg) (ver : Int) : chIn c.cs (kFresh c ver) := fun q hq => by
 obtain ⟨a, ha, rfl⟩ := List.mem_map.1 hq
 exact ha
theorem chIn.back {c : Cfg} (hf : fitsB c = true) {k : Kn} (h : chIn c.cs k) (who : Int) : ∀ q ∈ k.s.queues, leadsV c.cs q.ch.dst who = true → leadsV c.cs q.ch.src who = true := fun q hq hl => by
 have hc := h q hq
 have hm := (fits_chs hf).2 _ hc
 refine leads_back hc ?_ hl
 simp only [Ch.may, chMay, chPart, Bool.and_eq_true, decide_eq_true_eq] at hm
 simp only [Ch.edge, Bool.and_eq_true, decide_eq_true_eq]
 omega
end
section
open Go.RowKit
theorem KerB.more {N N' : Nat → Prop} {w : World} {k : Kn} {a : KAt} (h : KerB N w k a) (h1 : ∀ b, N' b → b < w.heap.size → N b) (h2 : ∀ b, N b → N' b) : KerB N' w k a := by
 have hI : ∀ b, ¬ N b ∧ b < w.heap.size → ¬ N' b := fun b e e2 => e.1 (h1 b e2 e.2)
 obtain ⟨⟨vq, a1, a2⟩, a3, a4, a5, a6, a7, a8, ⟨m, a9, a10⟩, a11⟩ := h
 exact ⟨⟨vq, a1, (a2.bound (by omega) (fun _ _ _ h => h.bound)).mono hI (fun _ _ _ h => h.mono hI)⟩, fun b e => h2 b (a3 b e), a4, (a5.bound (by omega) (fun _ _ _ h => h)).mono hI (fun _ _ _ h => h), (a6.bound (by omega) (fun _ _ _ h => h.bound)).mono hI (fun _ _ _ h => h.mono hI), (a7.bound (by omega) (fun _ _ _ h => h)).mono hI (fun _ _ _ h => h), a8.mono (fun _ _ h => h.bound.mono hI), ⟨m, a9, a10.1, fun i x y hx hy => ⟨(a10.2 i x y hx hy).1, (a10.2 i x y hx hy).2.1.bound.mono hI, (a10.2 i x y hx hy).2.2⟩⟩, a11⟩
structure TwoM (w W : World) (ka kb : Kn) (a b : KAt) (Na Nb : Nat → Prop) (M : Nat) : Prop where
 ha : KerB Na W ka a
 hb : KerB Nb W kb b
 na : ∀ x, Na x → x < M
 nb : ∀ x, Nb x → x < M
 m : M ≤ W.heap.size
 oa : ∀ x, a.own x → w.heap.size ≤ x
 ob : ∀ x, b.own x → w.heap.size ≤ x
 ab : ∀ x, a.own x → Nb x ∧ ¬ b.own x
 ba : ∀ x, b.own x → Na x ∧ ¬ a.own x
 chg : Chg Non w W
section
variable {w W W' : World} {ka kb k' : Kn} {a b : KAt} {Na Nb : Nat → Prop} {M : Nat}
theorem TwoM.non (h : TwoM w W ka kb a b Na Nb M) (hg : Chg Non W W') : TwoM w W' ka kb a b Na Nb M :=
 ⟨h.ha.non hg, h.hb.non hg, h.na, h.nb, Nat.le_trans h.m hg.size, h.oa, h.ob, h.ab, h.ba, h.chg.then_non hg⟩
theorem TwoM.setA (h : TwoM w W ka kb a b Na Nb M) (hk : KerB Na W' k' a) (hg : Chg a.own W W') : TwoM w W' k' kb a b Na Nb M :=
 ⟨hk, h.hb.keep hg (fun x e => (h.ab x e).1) (fun x e e2 => (h.ba x e).2 e2), h.na, h.nb, Nat.le_trans h.m hg.size, h.oa, h.ob, h.ab, h.ba, h.chg.then_new hg h.oa⟩
theorem TwoM.setB (h : TwoM w W ka kb a b Na Nb M) (hk : KerB Nb W' k' b) (hg : Chg b.own W W') : TwoM w W' ka k' a b Na Nb M :=
 ⟨h.ha.keep hg (fun x e => (h.ba x e).1) (fun x e e2 => (h.ab x e).2 e2), hk, h.na, h.nb, Nat.le_trans h.m hg.size, h.oa, h.ob, h.ab, h.ba, h.chg.then_new hg h.ob⟩
theorem TwoM.nA (h : TwoM w W ka kb a b Na Nb M) : ∀ x, Na x → x < W.heap.size := fun x e => Nat.lt_of_lt_of_le (h.na x e) h.m
theorem TwoM.nB (h : TwoM w W ka kb a b Na Nb M) : ∀ x, Nb x → x < W.heap.size := fun x e => Nat.lt_of_lt_of_le (h.nb x e) h.m
theorem two_made {w V1 u1 V2 u2 : World} (h1 : KerB (fun x => a.own x ∨ x < V1.heap.size) u1 ka a) (o1 : ∀ x, a.own x → V1.heap.size ≤ x) (g0 : Chg Non w V1) (g1 : Chg Non V1 u1) (g2 : Chg Non u1 V2)
  (h2 : KerB (fun x => b.own x ∨ x < V2.heap.size) u2 kb b) (o2 : ∀ x, b.own x → V2.heap.size ≤ x) (g3 : Chg Non V2 u2) :
  ∃ Na Nb M, TwoM w u2 ka kb a b Na Nb M := by
 have b1 := h1.bound
 have b2 := h2.bound
 have s0 := g0.size
 have s1 := g1.size
 have s2 := g2.size
 have s3 := g3.size
 refine ⟨fun x => (a.own x ∨ x < V1.heap.size) ∨ b.own x, fun x => b.own x ∨ x < V2.heap.size, u2.heap.size, ?_, h2, ?_, ?_, Nat.le_refl _, fun x e => by have := o1 x e; omega, fun x e => by have := o2 x e; omega, fun x e => ⟨.inr (by have := b1 x e; omega), fun e2 => by have := b1 x e; have := o2 x e2; omega⟩, fun x e => ⟨.inr e, fun e2 => by have := b1 x e2; have := o2 x e; omega⟩, ((g0.then_non g1).then_non g2).then_non g3⟩
 ·exact (h1.more (N' := fun x => (a.own x ∨ x < V1.heap.size) ∨ b.own x) (fun x e hx => e.elim id (fun e => by have := o2 x e; omega)) (fun _ e => .inl e)).non (g2.then_non g3)
 ·rintro x ((e | e) | e)
  ·have := b1 x e; omega
  ·omega
  ·exact b2 x e
 ·rintro x (e | e)
  ·exact b2 x e
  ·omega
end
structure SimG (c : Cfg) (who : Int) (ka kb : Kn) : Prop where
 ga : ka.Good
 gb : kb.Good
 sim : SimY (fun id => leadsV c.cs id who = true) ka kb
 ca : ka.c = c
 qa : chIn c.cs ka
 qb : chIn c.cs kb
 has : 0 ≤ idxOf (idP who) ka.s.parts
section
variable {c : Cfg} {who : Int} {ka kb : Kn}
theorem SimG.tick (hf : fitsB c = true) (h : SimG c who ka kb) : SimG c who ka.ticked kb.ticked ∧ ka.turn.ends = kb.turn.ends := by
 obtain ⟨h1, h2⟩ := tick_sim h.sim h.ga.sch h.ga.t0 (h.qa.back hf who) (h.qb.back hf who)
 refine ⟨⟨h.ga.ticked, h.gb.ticked, h1, ?_, h.qa.tick, h.qb.tick, by rw [← (tick_own ka).ps.idx (fun p q hR => by unfold idP; rw [hR.1])]; exact h.has⟩, h2⟩
 have := (turn_same ka).1
 show ka.turn.next.c = c
 unfold Kn.next
 split <;> exact this.trans h.ca
theorem SimG.load (h : SimG c who ka kb) (id at_ : Int) (l m : List UInt8) (hl : leadsV c.cs id who = true → l = m) : SimG c who (ka.load id at_ l) (kb.load id at_ m) :=
 ⟨h.ga.load id at_ l, h.gb.load id at_ m, load_sim h.sim id at_ l m hl, (load_same ka id at_ l).1.trans h.ca, h.qa.load id at_ l, h.qb.load id at_ m, by rw [← (load_quiet (L := fun _ => False) (a := ka) (fun e => e) at_ l).idx who]; exact h.has⟩
theorem SimG.input (h : SimG c who ka kb) (id : Int) (l m : List UInt8) (hl : leadsV c.cs id who = true → l = m) : SimG c who (ka.input id l) (kb.input id m) :=
 ⟨h.ga.input id l, h.gb.input id m, input_sim h.sim id l m hl, (input_same ka id l).1.trans h.ca, h.qa.input id l, h.qb.input id m, by rw [(input_same ka id l).2.2.2.1]; exact h.has⟩
theorem SimG.fresh (hf : fitsB c = true) (ver : Int) (hw : ∃ a ∈ c.ps, a.id = who) : SimG c who (kFresh c ver) (kFresh c ver) :=
 ⟨fresh_good hf ver, fresh_good hf ver, ⟨SimK.refl _ _, fun _ _ => rfl⟩, rfl, chIn.fresh c ver, chIn.fresh c ver, by
   obtain ⟨a, ha, e⟩ := hw
   rw [← decide_eq_true_eq (p := 0 ≤ idxOf (idP who) _), idx_ge, List.any_eq_true]
   exact ⟨freshP a, List.mem_map_of_mem ha, by simp [idP, freshP, e]⟩⟩
theorem SimG.found (h : SimG c who ka kb) : ∃ (j : Nat) (p : Pt), idxOf (idP who) ka.s.parts = j ∧ ka.s.parts[j]? = some p := by
 obtain ⟨p, hp, _⟩ := idx_at (k := ka) (id := who) (by have := h.has; omega)
 exact ⟨_, p, by have := h.has; omega, hp⟩
theorem SimG.waits (h : SimG c who ka kb) (h0 : 0 ≤ who) (h6 : who ≤ 6) : ka.waits who = kb.waits who := h.sim.k.inp who (leads_self h0 h6)
theorem SimG.look (h : SimG c who ka kb) (h0 : 0 ≤ who) (h6 : who ≤ 6) {j : Nat} {p : Pt} (hj : idxOf (idP who) ka.s.parts = j) (hp : ka.s.parts[j]? = some p) : idxOf (idP who) kb.s.parts = j ∧ kb.s.parts[j]? = some p := by
 obtain ⟨q, hq, hR⟩ := h.sim.k.ps.other hp
 have hx := h.sim.k.idx who
 have hid : p.id = who := by
  obtain ⟨p2, hp2, hid⟩ := idx_at (k := ka) (id := who) (by omega)
  rw [hj, Int.toNat_natCast, hp] at hp2
  injection hp2 with hp2
  rw [hp2]; exact hid
 obtain rfl := hR.2 (by rw [hid]; exact leads_self h0 h6)
 exact ⟨by rw [← hx]; exact hj, hq⟩
end
theorem KerB.bdp {N : Nat → Prop} {w : World} {k : Kn} {a : KAt} (h : KerB N w k a) {j : Nat} {x : Pt} (hx : k.s.parts[j]? = some x) : x.Bd := by
 obtain ⟨A, c, _, _, _, hr⟩ := h.parts.rd
 obtain ⟨_, _, _, _, _, _, _, m, _, _, hbd, _⟩ := hr j x hx
 exact hbd
end
section
open Go.RowKit
def subO : List Bool → Option Code → Option Code
 | [], o => o
 | d :: r, o => match o with
  | some (.seq a b) => subO r (some (if d then b else a))
  | some (.block _ a) => subO r (some a)
  | some (.loop a) => subO r (some a)
  | _ => none
theorem code_of {P : Program} {o : Option Code} {cd c : Code} {Q : Exit → Act → World → Prop} {a : Act} {w : World} (h : o = some cd) (hc : o = some c) (hw : c.wp P Q a w) : cd.wp P Q a w := by
 rw [h] at hc
 injection hc with hc
 subst hc
 exact hw
def slA (y : Nat → Value) (n cl : Nat) (B Bo Am : Option Addr) (no co cm : Nat) (who : Int) (g pa pb i gx : Nat) (m : List UInt8) : Array Value := #[y 0, .slice B n cl, .slice Bo no co, .int .i64 who, y 4, .pointer (some ⟨g, 0, none⟩), y 6, y 7, y 8, y 9, y 10, .pointer (some ⟨pa, 0, none⟩), .pointer (some ⟨pb, 0, none⟩), .int .i64 (i : Nat), .pointer (some ⟨gx, 0, none⟩), .slice Am m.length cm, y 16, y 17, y 18, y 19, y 20, y 21, y 22, y 23, y 24, y 25, y 26, y 27, y 28, y 29, y 30, y 31, y 32, y 33, y 34, y 35, y 36, y 37, y 38, y 39, y 40, y 41, y 42, y 43, y 44, y 45, y 46, y 47, y 48, y 49, y 50, y 51, y 52, y 53, y 54, y 55, y 56, y 57, y 58, y 59, y 60, y 61, y 62, y 63, y 64, y 65, y 66, y 67, y 68, y 69, y 70, y 71, y 72, y 73, y 74, y 75, y 76, y 77, y 78, y 79, y 80, y 81, y 82, y 83, y 84, y 85, y 86, y 87, y 88, y 89, y 90, y 91, y 92, y 93, y 94, y 95, y 96, y 97, y 98, y 99, y 100, y 101, y 102, y 103, y 104, y 105, y 106, y 107, y 108, y 109, y 110, y 111, y 112, y 113, y 114, y 115, y 116, y 117, y 118, y 119, y 120, y 121, y 122, y 123, y 124, y 125, y 126, y 127, y 128, y 129, y 130, y 131, y 132, y 133, y 134, y 135, y 136, y 137, y 138, y 139, y 140, y 141, y 142, y 143, y 144, y 145, y 146, y 147, y 148, y 149, y 150, y 151, y 152, y 153, y 154, y 155, y 156, y 157, y 158, y 159, y 160, y 161, y 162, y 163, y 164, y 165, y 166, y 167, y 168, y 169, y 170, y 171, y 172, y 173, y 174, y 175, y 176, y 177, y 178, y 179, y 180, y 181, y 182, y 183, y 184, y 185, y 186, y 187, y 188, y 189, y 190, y 191, y 192, y 193, y 194, y 195, y 196, y 197, y 198, y 199, y 200, y 201, y 202, y 203, y 204, y 205, y 206, y 207, y 208, y 209]
def putT (z : Nat → Value) (v : Value) (a : Act) : Act := ((((((((((((((((((((((((((((((((((a.put (some 74) (z 74)).put (some 75) (z 75)).put (some 76) (z 76)).put (some 77) (z 77)).put (some 78) (z 78)).put (some 79) (z 79)).put (some 80) (z 80)).put (some 81) (z 81)).put (some 82) (z 82)).put (some 83) (z 83)).put (some 84) (z 84)).put (some 85) (z 85)).put (some 86) (z 86)).put (some 87) (z 87)).put (some 88) (z 88)).put (some 89) (z 89)).put (some 90) (z 90)).put (some 91) (z 91)).put (some 92) (z 92)).put (some 93) (z 93)).put (some 94) (z 94)).put (some 95) (z 95)).put (some 96) (z 96)).put (some 97) (z 97)).put (some 98) (z 98)).put (some 99) (z 99)).put (some 100) (z 100)).put (some 101) (z 101)).put (some 102) (z 102)).put (some 103) (z 103)).put (some 104) (z 104)).put (some 105) (z 105)).put (some 106) (z 106)).put (some 107) (z 107)).put (some 15) v
def TurnP (w W : World) (c : Cfg) (x : Ak) (o : List (List UInt8)) (Bo B : Option Addr) (co n cl pa pb i gx g : Nat) (who : Int) (a0 : Act) (e : Exit) (a : Act) (v : World) : Prop :=
 e = .normal ∧ ∃ z Am m cm, a = putT z (.slice Am m.length cm) a0 ∧ Chg Non W v ∧ Rd w Am m ∧ m.length ≤ 600 ∧ (leadsV c.cs x.part who = true → x.by_ = m)
theorem TurnP.mk {w W : World} {c : Cfg} {x : Ak} {o : List (List UInt8)} {Bo B : Option Addr} {co n cl pa pb i gx g : Nat} {who : Int} {a0 : Act} {T : Array Value} {v : World} (Am : Option Addr) (m : List UInt8) (cm : Nat) (h : ⟨T, []⟩ = putT (fun j => T.getD j undef) (.slice Am m.length cm) a0) (h1 : Chg Non W v) (h2 : Rd w Am m) (h3 : m.length ≤ 600) (h4 : leadsV c.cs x.part who = true → x.by_ = m) : TurnP w W c x o Bo B co n cl pa pb i gx g who a0 .normal ⟨T, []⟩ v := ⟨rfl, _, Am, m, cm, h, h1, h2, h3, h4⟩
set_option maxRecDepth 100000 in
theorem turned_ok (I : Nat → Prop) (w W : World) (c : Cfg) (A1 A2 A3 : Option Addr) (c1 c2 c3 : Nat) (hc : CfgR I w c A1 A2 A3 c1 c2 c3) (hcl : c.cs.length ≤ 1000) (g gx : Nat) (hg : Chg Non w W)
  (hbox : W.heap[g]? = some (.cells (cfgC c A1 A2 A3 c1 c2 c3) 26 (0, 0))) (o : List (List UInt8)) (Bo : Option Addr) (co : Nat) (hro : RdL (msgV I) I 1 w Bo o) (hoc : o.length ≤ co) (hom : co ≤ maxLen)
  (x : Ak) (mx : Value) (hx : W.heap[gx]? = some (.cells #[.int .u8 x.what, .int .i64 x.part, .int .i64 x.pl, mx] 52 (0, 0))) (Ax : Option Addr) (cx : Nat) (hrx : Rd w Ax x.by_) (hxl : x.by_.length ≤ 600) (who : Int) (i n cl pa pb : Nat) (hin : i < 1000) (B : Option Addr)
  (cd : Code) (hcd : subO [true, true, true, true, true, false, true, false, false, true, false, false, true, true, false] Tryz.f5.body = some cd) (T : Array Value) (hT : T = slA (fun j => T.getD j undef) n cl B Bo Ax o.length co cx who g pa pb i gx x.by_) :
  cd.wp Tryz.prog (TurnP w W c x o Bo B co n cl pa pb i gx g who ⟨T, []⟩) ⟨T, []⟩ W := by
 have HX := Lib.hid hx
 have HB := Lib.hid hbox
 have x1 := blk_cell hx 1 (v := .int .i64 x.part) rfl
 have b0 := blk_cell hbox 0 (v := .slice A1 c.ws.length c1) rfl
 have b1 := blk_cell hbox 1 (v := .slice A2 c.ps.length c2) rfl
 have b2 := blk_cell hbox 2 (v := .slice A3 c.cs.length c3) rfl
 have lx := blk_lt hx
 have lg := blk_lt hbox
 have HC := Lib.hid (hc.non hg)
 have HRX := Lib.hid hrx
 have HRO := Lib.hid hro
 have HGw := Lib.hid hg
 clear hx hbox hc hrx hro hg
 refine code_of hcd rfl ?_
 rw [hT]
 generalize (fun j => T.getD j undef) = y
 clear hT T hcd cd
 simp only [slA]
 by_cases h1 : i < o.length
 ·have d1 : decide ((i : Int) < (o.length : Int)) = true := by simpa using h1
  obtain ⟨a, ha⟩ : ∃ a, o[i]? = some a := ⟨_, List.getElem?_eq_getElem h1⟩
  obtain ⟨bo, oo, vs, rfl, _, hl, hcell, m0, rfl, ⟨Am, cm, rfl, hm1, hm2, hm3, _⟩, hm5⟩ := HRO.out i a ha
  have o0 := HGw.out.cell_some (hcell 0 _ rfl) (fun e => e)
  simp only [Nat.add_zero, Nat.mul_one] at o0
  have HMR := Lib.hid hm3
  clear hm3 hcell hl ha
  by_cases h2 : a.length ≤ 600
  ·have d2 : decide ((a.length : Int) ≤ 600) = true := by rw [decide_eq_true_eq]; omega
   go_wp2_with fail
   refine (leads_ok I W c A1 A2 A3 c1 c2 c3 HC.out hcl x.part who).mono ?_
   rintro e W2 ⟨rfl, hg2⟩
   have HX2 := Lib.hid (blk_keep HX.out hg2 (fun e => e))
   have HG2 := Lib.hid hg2
   have o02 := hg2.cell_some o0 (fun e => e)
   have hsz := hg2.size
   clear hg2 x1 o0
   have x1 := blk_cell HX2.out 1 (v := .int .i64 x.part) rfl
   obtain ⟨q, hq⟩ : ∃ q, leadsV c.cs x.part who = q := ⟨_, rfl⟩
   have HQ := Lib.hid hq
   rw [hq]
   clear hq
   cases q with
   | true =>
    go_wp2_with fail
    exact TurnP.mk Ax x.by_ cx (by kernel_rfl) HG2.out HRX.out hxl (fun _ => rfl)
   | false =>
    by_cases h3 : 1 ≤ x.part
    ·have d3 : decide ((1 : Int) ≤ x.part) = true := by rw [decide_eq_true_eq]; omega
     by_cases h4 : x.part ≤ 6
     ·have d4 : decide (x.part ≤ (6 : Int)) = true := by rw [decide_eq_true_eq]; omega
      go_wp2_with fail
      exact TurnP.mk Am a cm (by kernel_rfl) HG2.out HMR.out h2 (fun e => absurd (HQ.out.symm.trans e) (by simp))
     ·have d4 : decide (x.part ≤ (6 : Int)) = false := by rw [decide_eq_false_iff_not]; omega
      go_wp2_with fail
      exact TurnP.mk Ax x.by_ cx (by kernel_rfl) HG2.out HRX.out hxl (fun _ => rfl)
    ·have d3 : decide ((1 : Int) ≤ x.part) = false := by rw [decide_eq_false_iff_not]; omega
     go_wp2_with fail
     exact TurnP.mk Ax x.by_ cx (by kernel_rfl) HG2.out HRX.out hxl (fun _ => rfl)
  ·have d2 : decide ((a.length : Int) ≤ 600) = false := by rw [decide_eq_false_iff_not]; omega
   go_wp2_with fail
   exact TurnP.mk Ax x.by_ cx (by kernel_rfl) (Chg.refl _ _) HRX.out hxl (fun _ => rfl)
 ·have d1 : decide ((i : Int) < (o.length : Int)) = false := by simpa using h1
  go_wp2_with fail
  exact TurnP.mk Ax x.by_ cx (by kernel_rfl) (Chg.refl _ _) HRX.out hxl (fun _ => rfl)
end
section
open Go.RowKit
set_option maxRecDepth 100000 in
theorem great11_ok (I : Nat → Prop) (w : World) (c : Cfg) (A1 A2 A3 : Option Addr) (c1 c2 c3 : Nat) (h : CfgR I w c A1 A2 A3 c1 c2 c3) :
  Calls Tryz.prog 8 #[.agg #[.slice A1 c.ws.length c1, .slice A2 c.ps.length c2, .slice A3 c.cs.length c3]] w fun e w' => ∃ r : Bool, e = .returned (.bool r) ∧ (r = false → c.ws.length ≤ 40 ∧ c.ps.length ≤ 20 ∧ c.cs.length ≤ 40) ∧ Chg Non w w' := by
 have HC := Lib.hid h
 clear h
 by_cases h1 : 40 < c.ws.length
 ·have d1 : decide ((40 : Int) < (c.ws.length : Int)) = true := by rw [decide_eq_true_eq]; omega
  go_enter Tryz.func8, Tryz.ntmps8
  go_wp2_with fail
  all_goals go_ret
  all_goals exact ⟨true, rfl, (fun e => absurd e (by simp)), (Chg.refl _ _).alloc _⟩
 have d1 : decide ((40 : Int) < (c.ws.length : Int)) = false := by rw [decide_eq_false_iff_not]; omega
 by_cases h2 : 20 < c.ps.length
 ·have d2 : decide ((20 : Int) < (c.ps.length : Int)) = true := by rw [decide_eq_true_eq]; omega
  go_enter Tryz.func8, Tryz.ntmps8
  go_wp2_with fail
  all_goals go_ret
  all_goals exact ⟨true, rfl, (fun e => absurd e (by simp)), (Chg.refl _ _).alloc _⟩
 have d2 : decide ((20 : Int) < (c.ps.length : Int)) = false := by rw [decide_eq_false_iff_not]; omega
 by_cases h3 : 40 < c.cs.length
 ·have d3 : decide ((40 : Int) < (c.cs.length : Int)) = true := by rw [decide_eq_true_eq]; omega
  go_enter Tryz.func8, Tryz.ntmps8
  go_wp2_with fail
  all_goals go_ret
  all_goals exact ⟨true, rfl, (fun e => absurd e (by simp)), (Chg.refl _ _).alloc _⟩
 have d3 : decide ((40 : Int) < (c.cs.length : Int)) = false := by rw [decide_eq_false_iff_not]; omega
 have hL : c.ws.length ≤ 40 ∧ c.ps.length ≤ 20 ∧ c.cs.length ≤ 40 := ⟨by omega, by omega, by omega⟩
 have h20 : c.ps.length ≤ 20 := hL.2.1
 have HL := Lib.hid hL
 clear h1 h2 h3 hL
 go_enter Tryz.func8, Tryz.ntmps8
 go_wp2_with fail
 have hblk := blk_new w (.cells #[.slice A1 c.ws.length c1, .slice A2 c.ps.length c2, .slice A3 c.cs.length c3] 26)
 obtain ⟨W1, hW1⟩ : ∃ W1, w.alloc (.cells #[.slice A1 c.ws.length c1, .slice A2 c.ps.length c2, .slice A3 c.cs.length c3] 26) = W1 := ⟨_, rfl⟩
 have HG1 : Hid (Chg Non w W1) := Lib.hid (by rw [← hW1]; exact (Chg.refl Non w).alloc _)
 have hlt0 : w.heap.size < W1.heap.size := by rw [← hW1]; simp
 rw [hW1] at hblk ⊢
 have HB := Lib.hid hblk
 clear hblk hW1 d1 d2 d3
 go_loopw [4, 3] (fun iv sv wr => ∃ (k : Nat) (x : Int), k ≤ c.ps.length ∧ iv = .int .i64 k ∧ sv = .int .i64 x ∧ Hid (Chg Non W1 wr)) (fun iv _ _ => c.ps.length - (intOf iv).toNat)
 case atStart => exact ⟨0, 0, Nat.zero_le _, rfl, rfl, Lib.hid (Chg.refl _ _)⟩
 case round =>
  obtain ⟨k, x, hk, rfl, rfl, HG⟩ := hrel
  have c1r := blk_cell (blk_keep HB.out HG.out (fun e => e)) 1 (v := .slice A2 c.ps.length c2) rfl
  have hltr : w.heap.size < wr.heap.size := Nat.lt_of_lt_of_le hlt0 HG.out.size
  by_cases hlt : k < c.ps.length
  ·have hltd : decide ((k : Int) < (c.ps.length : Int)) = true := by simpa using hlt
   obtain ⟨a, ha⟩ : ∃ a, c.ps[k]? = some a := ⟨_, List.getElem?_eq_getElem hlt⟩
   obtain ⟨b, o, m, rfl, k0, k1, k2, k3, k4, hbv, _, _, _, hil, hbl⟩ := pn_at HC.out.ps (HG1.out.then_non HG.out) ha
   obtain ⟨Am, cm, rfl, _⟩ := hbv
   clear k0 k1 k2 k3 ha
   go_wp2_with fail
   exact ⟨⟨k + 1, _, by omega, by simp, rfl, HG⟩, by simp [intOf]; omega⟩
  ·have hltd : decide ((k : Int) < (c.ps.length : Int)) = false := by simpa using hlt
   go_wp2_with fail
   go_ret
   exact ⟨_, rfl, fun _ => HL.out, HG1.out.then_non HG.out⟩
end
section
open Go.RowKit
theorem keyLits_u32n {P : Program} {e : TypeId} {D : Nat} (he : P.underlying e = some (.int .u32)) (b : Nat) (h : b < 4294967296) : P.keyLits (D + 1) e [.int .u32 b] = some [.int .u32 (b : Int)] := by
 unfold Program.keyLits
 rw [he]
 have hw : (Lit.int .u32 (b : Int)).wf = true := WalkArith.wf_u32 (by omega)
 simp only [true_and, hw, if_true]
def regC (p : Pt) : Array Value := #[.int .u32 (p.g 0 : Nat), .int .u32 (p.g 1 : Nat), .int .u32 (p.g 2 : Nat), .int .u32 (p.g 3 : Nat), .int .u32 (p.g 4 : Nat), .int .u32 (p.g 5 : Nat), .int .u32 (p.g 6 : Nat), .int .u32 (p.g 7 : Nat)]
def regLits (p : Pt) : List Lit := [.int .u32 (p.g 0 : Nat), .int .u32 (p.g 1 : Nat), .int .u32 (p.g 2 : Nat), .int .u32 (p.g 3 : Nat), .int .u32 (p.g 4 : Nat), .int .u32 (p.g 5 : Nat), .int .u32 (p.g 6 : Nat), .int .u32 (p.g 7 : Nat)]
set_option maxRecDepth 100000 in
theorem keyLits_reg (p : Pt) (h : p.Bd) : Tryz.prog.keyLits 3 67 (regC p).toList = some (regLits p) := by
 unfold Program.keyLits
 rw [Tryz.underlying67]
 have c8 : Tryz.prog.cellsOf 67 = 8 := by kernel_rfl
 have c1 : Tryz.prog.cellsOf 66 = 1 := by kernel_rfl
 have k : ∀ i, Tryz.prog.keyLits 2 66 [.int .u32 (p.g i : Nat)] = some [.int .u32 ((p.g i : Nat) : Int)] := fun i => keyLits_u32n (D := 1) Tryz.underlying66 _ (h.rb i)
 simp [regC, c1, c8, k, regLits, List.range, List.range.loop]
theorem reg_formed (p : Pt) : (Value.agg (regC p)).formed Tryz.prog 67 = true := by
 have c8 : Tryz.prog.cellsOf 67 = 8 := by kernel_rfl
 unfold Value.formed
 rw [Tryz.underlying67]
 simp [c8, regC]
theorem eq_reg (p : Pt) (h : p.Bd) (w : World) : (binOp .eql 67 (.agg (regC p)) (.agg (regC p))).run Tryz.prog w = .ok (.bool true) w := by
 have := (eq_agg (P := Tryz.prog) (t := 67) (p := True) (by simp) 3 (by omega) (by kernel_rfl) (reg_formed p) (reg_formed p) (keyLits_reg p h) (keyLits_reg p h) w).1
 simpa using this
theorem PartB.regs {W : World} {b : Nat} {p : Pt} {m : Value} (h : PartB W b p m) : W.rangeAt b 3 (regC p).toList := by
 intro j v hv
 have hj : j < 8 := by have := (List.getElem?_eq_some_iff.1 hv).1; simpa [regC] using this
 have hr := h.reg j hj
 rw [hr]
 have h' : j = 0 ∨ j = 1 ∨ j = 2 ∨ j = 3 ∨ j = 4 ∨ j = 5 ∨ j = 6 ∨ j = 7 := by omega
 rcases h' with rfl | rfl | rfl | rfl | rfl | rfl | rfl | rfl <;> simpa [regC] using hv
theorem info_regs : (Tryz.prog.info? 67).map (·.size) = some 8 := by kernel_rfl
set_option maxRecDepth 100000 in
theorem Same_eq (p : Pt) (A1 A2 : Option Addr) (l : List UInt8) (c1 c2 : Nat) (w : World) (hb : p.Bd) (h1 : Rd w A1 l) (h2 : Rd w A2 l) :
  Calls Tryz.prog 35 #[.agg (partC p (.slice A1 l.length c1)), .agg (partC p (.slice A2 l.length c2))] w fun e w' => e = .returned (.bool true) ∧ Chg Non w w' := by
 have h8 := hb.r8
 have hg0 : Chg Non w ((w.alloc (.cells (partC p (.slice A1 l.length c1)) 69)).alloc (.cells (partC p (.slice A2 l.length c2)) 69)) := ((Chg.refl Non w).alloc _).alloc _
 have hp1 : PartB ((w.alloc (.cells (partC p (.slice A1 l.length c1)) 69)).alloc (.cells (partC p (.slice A2 l.length c2)) 69)) w.heap.size p (.slice A1 l.length c1) := ⟨al_2_0 _ _ _, h8⟩
 have hp2 : PartB ((w.alloc (.cells (partC p (.slice A1 l.length c1)) 69)).alloc (.cells (partC p (.slice A2 l.length c2)) 69)) (w.heap.size + 1) p (.slice A2 l.length c2) := ⟨al_2_1 _ _ _, h8⟩
 have hs1 := str_of A1 l c1 _ (h1.non hg0)
 have hs2 := str_of A2 l c2 _ (h2.non hg0)
 obtain ⟨C1, hC1⟩ : ∃ C, partC p (.slice A1 l.length c1) = C := ⟨_, rfl⟩
 obtain ⟨C2, hC2⟩ : ∃ C, partC p (.slice A2 l.length c2) = C := ⟨_, rfl⟩
 have z1 : C1.size = 14 := by rw [← hC1]; exact partC_size h8 _
 have z2 : C2.size = 14 := by rw [← hC2]; exact partC_size h8 _
 rw [hC1, hC2] at hp1 hp2 hg0 hs1 hs2 ⊢
 clear hC1 hC2
 obtain ⟨W, hW⟩ : ∃ W, (w.alloc (.cells C1 69)).alloc (.cells C2 69) = W := ⟨_, rfl⟩
 have HP1 := Lib.hid hp1
 have HP2 := Lib.hid hp2
 have HG0 := Lib.hid hg0
 have HEq := Lib.hid (Tryz.bytes_Equal_strs _ _ _ _ _ hs1 hs2)
 have he8 := eq_reg p hb
 obtain ⟨a0, a1, a2, a3, a4, a5⟩ := hp1.cells
 obtain ⟨d0, d1, d2, d3, d4, d5⟩ := hp2.cells
 clear hp1 hp2 hg0 hs1 hs2 h1 h2 hW W
 go_enter Tryz.func35, Tryz.ntmps35
 go_wp2_with (first
   | (refine sel (some 26) (.load _ (.tmp 25)) ?_; refine Vm_stop ?_))
 refine HoleV.mk ?_
 refine wpList_loadW (some 26) 67 (.tmp 25) w.heap.size 3 (regC p) _ rfl rfl (by kernel_rfl) rfl HP1.out.regs Tryz.underlying67 rfl info_regs ?_
 go_wp2_with (first
   | (refine sel (some 28) (.load _ (.tmp 27)) ?_; refine Vm_stop ?_))
 refine HoleV.mk ?_
 refine wpList_loadW (some 28) 67 (.tmp 27) (w.heap.size + 1) 3 (regC p) _ rfl rfl (by kernel_rfl) rfl HP2.out.regs Tryz.underlying67 rfl info_regs ?_
 go_wp2_with fail
 refine HEq.out.mono ?_
 rintro e w' ⟨rfl, rfl⟩
 go_wp2_with fail
 go_ret
 exact ⟨by simp, HG0.out⟩
end
end Go.Proofs.YtmnaleaghfbclaaGreatDoor
