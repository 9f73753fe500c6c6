/- KernelApart, part 16 of 27: contracts of the functions that it reaches, and the laws that they need, merged and shortened (from my texts XKerI, XSCopyB, XVmM, XVmN). -/
import Derived.Test.YtmnaleaghfbclaaGreatDoorMgKernelApartA
import Derived.Test.YtmnaleaghfbclaaGreatDoorMgKernelApartK
import Derived.Test.YtmnaleaghfbclaaGreatDoorMgKernelApartN
import Derived.Test.YtmnaleaghfbclaaGreatDoorMgKernelApartO
namespace Go.Proofs.YtmnaleaghfbclaaGreatDoor
set_option linter.unusedVariables false
set_option linter.unusedSimpArgs false
set_option maxHeartbeats 8000000
section
open Go.RowKit
def Kn.loadE (k : Kn) (id at_ : Int) (b : List UInt8) : Int :=
 match (if idxOf (idP id) k.s.parts < 0 then none else k.s.parts[(idxOf (idP id) k.s.parts).toNat]?) with
 | none => 2
 | some p => memE p.mem at_ b.length
def Kn.load (k : Kn) (id at_ : Int) (b : List UInt8) : Kn :=
 match (if idxOf (idP id) k.s.parts < 0 then none else k.s.parts[(idxOf (idP id) k.s.parts).toNat]?) with
 | none => k
 | some p => if memE p.mem at_ b.length = 0 then { k with s := { k.s with parts := k.s.parts.set (idxOf (idP id) k.s.parts).toNat { p with mem := put p.mem at_.toNat b } } } else k
def Kn.inputE (k : Kn) (id : Int) (b : List UInt8) : Int := if idxOf (idP id) k.s.parts < 0 then 2 else if 64 < (k.waits id).length + b.length then 4 else 0
def Kn.input (k : Kn) (id : Int) (b : List UInt8) : Kn := if k.inputE id b = 0 then { k with inp := updI k.inp id (k.waits id ++ b) } else k
theorem load_none {k : Kn} {id at_ : Int} {b : List UInt8} (h : idxOf (idP id) k.s.parts < 0) : k.loadE id at_ b = 2 ∧ k.load id at_ b = k := by
 unfold Kn.loadE Kn.load
 simp only [if_pos h, and_self]
theorem load_some {k : Kn} {id at_ : Int} {b : List UInt8} {i : Nat} {p : Pt} (h : idxOf (idP id) k.s.parts = i) (hp : k.s.parts[i]? = some p) :
  k.loadE id at_ b = memE p.mem at_ b.length ∧ k.load id at_ b = if memE p.mem at_ b.length = 0 then { k with s := { k.s with parts := k.s.parts.set i { p with mem := put p.mem at_.toNat b } } } else k := by
 unfold Kn.loadE Kn.load
 have h0 : ¬ ((i : Int) < 0) := by omega
 rw [h, if_neg h0, Int.toNat_natCast, hp]
 exact ⟨rfl, rfl⟩
set_option maxRecDepth 100000 in
theorem load_ok (N : Nat → Prop) (w : World) (k : Kn) (a : KAt) (id at_ : Int) (Ab : Option Addr) (b : List UInt8) (cb : Nat) (h : KerB N w k a) (hN : ∀ b, N b → b < w.heap.size) (hmem : ∀ p ∈ k.s.parts, 16 ≤ p.mem.length ∧ p.mem.length ≤ 512) (hat : I64 at_) (hb : Rd w Ab b) (hbl : b.length ≤ 140737488351232) :
  Calls Tryz.prog 20 #[.pointer (some ⟨a.p, 0, none⟩), .int .i64 id, .int .i64 at_, .slice Ab b.length cb] w fun e w' => e = .returned (.int .i64 (k.loadE id at_ b)) ∧ KerB N w' (k.load id at_ b) a ∧ Chg a.own w w' := by
 obtain ⟨ap, q, v1, v2, v3, vp⟩ := a
 have HK := Lib.hid h
 have HRb := Lib.hid hb
 have HNo := Lib.hid (fun W (hg : Chg Non w W) => none_ok N W k ⟨ap, q, v1, v2, v3, vp⟩ (h.non hg))
 have HAt := Lib.hid (fun W (hg : Chg Non w W) => kAt_ok N W k ⟨ap, q, v1, v2, v3, vp⟩ id (h.non hg))
 have HGet := Lib.hid (fun (i : Nat) => idx_get (p := idP id) (l := k.s.parts) (k := i))
 have HBd := Lib.hid (idx_bd (idP id) k.s.parts)
 obtain ⟨j, hj⟩ : ∃ j, idxOf (idP id) k.s.parts = j := ⟨_, rfl⟩
 simp only [hj] at HAt HGet HBd
 have HJ := Lib.hid hj
 clear h hb hj
 show Calls _ _ #[.pointer (some ⟨ap, 0, none⟩), .int .i64 id, .int .i64 at_, .slice Ab b.length cb] _ _
 go_enter Tryz.func20, Tryz.ntmps20
 go_wp2_with fail
 refine (HNo.out _ (Chg.refl _ _)).mono ?_
 rintro e u ⟨rfl, hg⟩
 have HGu := Lib.hid hg
 clear hg
 go_wp2_with fail
 refine (HAt.out _ HGu.out).mono ?_
 rintro e u2 ⟨rfl, hg⟩
 have HG2 := Lib.hid (HGu.out.then_non hg)
 clear hg HGu
 by_cases hj0 : j < 0
 ·have d0 : decide (j < 0) = true := by simpa using hj0
  have HE := Lib.hid (load_none (k := k) (id := id) (at_ := at_) (b := b) (by rw [HJ.out]; exact hj0))
  go_wp2_with fail
  go_ret
  rw [HE.out.1, HE.out.2]
  exact ⟨rfl, HK.out.non HG2.out, HG2.out.of_non⟩
 have d0 : decide (j < 0) = false := by simpa using hj0
 obtain ⟨i, rfl⟩ : ∃ i : Nat, j = i := ⟨j.toNat, by omega⟩
 obtain ⟨p, hp, _⟩ := HGet.out i rfl
 have hil := (List.getElem?_eq_some_iff.1 hp).1
 have HE := load_some (k := k) (id := id) (at_ := at_) (b := b) HJ.out hp
 have HK2 := Lib.hid (HK.out.non HG2.out)
 obtain ⟨g, cap, cur, e1, hBg, hgb, r1, r2, r3, hel⟩ := HK2.out.parts.shape (by omega)
 simp only at e1
 subst e1
 obtain ⟨vs, hvl, hrg, m, rfl, hbm, hbd, hml⟩ := hel i p hp
 obtain ⟨A, c, rfl, hc, hcm, hrm, _⟩ := hbm
 obtain ⟨vq, hk2, _⟩ := HK2.out.cell
 have f5 : u2.cell? ⟨ap, 5, none⟩ = some (.slice (some ⟨g, 0, none⟩) k.s.parts.length cap) := blk_cell hk2 5 rfl
 have fm : u2.cell? ⟨g, i * 14 + 13, none⟩ = some (.slice A p.mem.length c) := hrg 13 _ (by have := partC_end hbd.r8 (.slice A p.mem.length c) 2 (by omega); simpa [partC] using this)
 have zm := blk_free hgb (i * 14 + 13)
 have hik : (i : Int) < (k.s.parts.length : Int) := by omega
 obtain ⟨hm16, hm512⟩ := hmem p (List.mem_of_getElem? hp)
 have HP := Lib.hid hp
 have HRm := Lib.hid hrm
 clear hp hel hrg hrm hk2 hgb r1 r2 r3
 by_cases hme : memE p.mem at_ b.length = 0
 ·have hat0 : 0 ≤ at_ := by
   unfold memE at hme
   split at hme
   ·omega
   ·split at hme
    ·omega
    ·omega
  obtain ⟨n, rfl⟩ : ∃ n : Nat, at_ = n := ⟨at_.toNat, by omega⟩
  rw [if_pos hme, hme, Int.toNat_natCast] at HE
  have HWr := Lib.hid (mwrite_ok A p.mem c n Ab b cb u2 HRm.out (HRb.out.non HG2.out) (by omega) hc hcm (memE_there.1 hme))
  have hpl : (put p.mem n b).length = p.mem.length := put_len ((there_iff _ _ _).1 (memE_there.1 hme)).2
  have HPl := Lib.hid hpl
  have HE := Lib.hid HE
  clear hme hpl
  go_wp2_with fail
  refine HWr.out.mono ?_
  rintro e u3 ⟨A2, c2, rfl, q1, q2, q3, hg3⟩
  have HG3 := Lib.hid (HG2.out.then_non hg3)
  have HK3 := Lib.hid (HK2.out.non hg3)
  have HM3 : Hid (BytesV (fun b => ¬ N b) u3 (put p.mem n b) (.slice A2 p.mem.length c2)) := Lib.hid (by
    have h := own_bytes q3 (by rw [HPl.out]; exact q1) q2
    rw [HPl.out] at h
    exact h.mono (fun b e e2 => by have := hN b e2; have e' : u2.heap.size ≤ b := e; have := HG2.out.size; omega))
  obtain ⟨vq3, hk3, _⟩ := HK3.out.cell
  have f53 : u3.cell? ⟨ap, 5, none⟩ = some (.slice (some ⟨g, 0, none⟩) k.s.parts.length cap) := blk_cell hk3 5 rfl
  have fm3 : u3.cell? ⟨g, i * 14 + 13, none⟩ = some (.slice A p.mem.length c) := hg3.cell_some fm (fun e => e)
  obtain ⟨_, _, _, e1, _, hgb3, _⟩ := HK3.out.parts.shape (show 0 < k.s.parts.length by omega)
  injection e1 with e1 _ _
  injection e1 with e1
  injection e1 with e1 _ _
  subst e1
  have zm3 := blk_free hgb3 (i * 14 + 13)
  clear hg3 q3 f5 fm zm hk3 hgb3
  go_wp2_with fail
  go_ret
  have hst := chg_set u3 g (i * 14 + 13) (.slice A2 p.mem.length c2)
  have hgN : N g := HK3.out.sub g (.inr (.inr rfl))
  have hkN : ∀ b, ¬ N b → ¬ b = g := fun b e e2 => e (by rw [e2]; exact hgN)
  have HOn : OwnL (ptV (fun b => ¬ N b)) 0 69 14 (u3.setCell ⟨g, i * 14 + 13, none⟩ (.slice A2 p.mem.length c2)) (.slice (some ⟨g, 0, none⟩) k.s.parts.length cap) (k.s.parts.set i { p with mem := put p.mem n b }) :=
   OwnL.cell (R := ptV (fun b => ¬ N b)) HK3.out.parts HP.out (by omega) (fun a vs h => h.keep hst hkN) (fun vs hvl h => by
     obtain ⟨m, rfl, _, hbd, hml⟩ := h
     have hs := part_set13 hbd.r8 m (.slice A2 p.mem.length c2)
     have hs' : (partL p m).set 13 (.slice A2 p.mem.length c2) = partL p (.slice A2 p.mem.length c2) := by
       have := congrArg Array.toList hs
       simpa [partC] using this
     rw [hs']
     exact ⟨.slice A2 p.mem.length c2, rfl, HM3.out.keep hst hkN, ⟨hbd.r8, hbd.rb, hbd.pcb, hbd.stb, hbd.idb, hbd.sizeb⟩, by show (put p.mem n b).length ≤ _; rw [HPl.out]; omega⟩)
  rw [HE.out.1, HE.out.2]
  exact ⟨rfl, HK3.out.setParts (hst.mono (fun x e => by subst e; rfl)) HOn HK3.out.ownN, (HG3.out.of_non).trans_same (hst.mono (fun x e => by subst e; exact .inr (.inr rfl)) : Chg (KAt.own ⟨ap, q, v1, v2, v3, .slice (some ⟨g, 0, none⟩) k.s.parts.length cap⟩) u3 _)⟩
 ·have HWr := mwrite_no A p.mem c at_ Ab b.length cb u2 hat hbl (by omega) hme
  rw [if_neg hme] at HE
  obtain ⟨er, her⟩ : ∃ er, memE p.mem at_ b.length = er := ⟨_, rfl⟩
  rw [her] at HWr HE hme
  replace HWr := Lib.hid HWr
  replace HE := Lib.hid HE
  have hde : (er == 0) = false := by simpa using hme
  clear her
  go_wp2_with fail
  refine HWr.out.mono ?_
  rintro e u3 ⟨rfl, hg3⟩
  have HG3 := Lib.hid (HG2.out.then_non hg3)
  clear hg3 f5 fm zm
  go_wp2_with fail
  go_ret
  rw [HE.out.1, HE.out.2]
  exact ⟨rfl, HK.out.non HG3.out, HG3.out.of_non⟩
set_option maxRecDepth 100000 in
theorem input_ok (N : Nat → Prop) (w : World) (k : Kn) (a : KAt) (id : Int) (Ab : Option Addr) (b : List UInt8) (cb : Nat) (h : KerB N w k a) (hN : ∀ b, N b → b < w.heap.size) (hid : I64 id) (hwl : (k.waits id).length ≤ 64) (hb : Rd w Ab b) (hbl : b.length ≤ 1000000) :
  Calls Tryz.prog 18 #[.pointer (some ⟨a.p, 0, none⟩), .int .i64 id, .slice Ab b.length cb] w fun e w' => e = .returned (.int .i64 (k.inputE id b)) ∧ KerB N w' (k.input id b) a ∧ Chg a.own w w' := by
 obtain ⟨ap, q, v1, v2, v3, vp⟩ := a
 have HK := Lib.hid h
 have HRb := Lib.hid hb
 have HNo := Lib.hid (fun W (hg : Chg Non w W) => none_ok N W k ⟨ap, q, v1, v2, v3, vp⟩ (h.non hg))
 have HAt := Lib.hid (fun W (hg : Chg Non w W) => kAt_ok N W k ⟨ap, q, v1, v2, v3, vp⟩ id (h.non hg))
 obtain ⟨j, hj⟩ : ∃ j, idxOf (idP id) k.s.parts = j := ⟨_, rfl⟩
 simp only [hj] at HAt
 have HJ := Lib.hid hj
 clear h hb hj
 show Calls _ _ #[.pointer (some ⟨ap, 0, none⟩), .int .i64 id, .slice Ab b.length cb] _ _
 go_enter Tryz.func18, Tryz.ntmps18
 go_wp2_with fail
 refine (HNo.out _ (Chg.refl _ _)).mono ?_
 rintro e u ⟨rfl, hg⟩
 have HGu := Lib.hid hg
 clear hg
 go_wp2_with fail
 refine (HAt.out _ HGu.out).mono ?_
 rintro e u2 ⟨rfl, hg⟩
 have HG2 := Lib.hid (HGu.out.then_non hg)
 clear hg HGu
 by_cases hj0 : j < 0
 ·have d0 : decide (j < 0) = true := by simpa using hj0
  have HE : Hid (k.inputE id b = 2 ∧ k.input id b = k) := Lib.hid (by
    have h1 : k.inputE id b = 2 := by unfold Kn.inputE; rw [HJ.out, if_pos hj0]
    exact ⟨h1, by unfold Kn.input; rw [h1]; rfl⟩)
  go_wp2_with fail
  go_ret
  rw [HE.out.1, HE.out.2]
  exact ⟨rfl, HK.out.non HG2.out, HG2.out.of_non⟩
 have d0 : decide (j < 0) = false := by simpa using hj0
 have HK2 := Lib.hid (HK.out.non HG2.out)
 obtain ⟨mm, hmm, hin⟩ := HK2.out.inp
 obtain ⟨vq, hk2, _⟩ := HK2.out.cell
 have f9 := blk_cell hk2 9 (v := .map (some q)) rfl
 have hlk := lookV_run hmm id hid u2 rfl
 have hbi := inp_look id hin
 obtain ⟨Av, cv, hv, hv1, hv2, _⟩ := _root_.id hbi
 have hww : ((k.inp.find? (fun p => p.1 == id)).map (·.2)).getD [] = k.waits id := rfl
 rw [hww] at hbi hv hv1
 rw [hv] at hlk hbi
 have HV := Lib.hid hv
 have HMM := Lib.hid (And.intro hmm hin)
 have HBi := Lib.hid hbi
 clear hk2 hin hmm hbi hv hww
 by_cases hfull : 64 < (k.waits id).length + b.length
 ·have d1 : decide (((k.waits id).length : Int) + (b.length : Int) > 64) = true := by simp; omega
  have HE : Hid (k.inputE id b = 4 ∧ k.input id b = k) := Lib.hid (by
    have h1 : k.inputE id b = 4 := by unfold Kn.inputE; rw [HJ.out, if_neg hj0, if_pos hfull]
    exact ⟨h1, by unfold Kn.input; rw [h1]; rfl⟩)
  go_wp2_with fail
  go_ret
  rw [HE.out.1, HE.out.2]
  exact ⟨rfl, HK2.out, HG2.out.of_non⟩
 have d1 : decide (((k.waits id).length : Int) + (b.length : Int) > 64) = false := by simp; omega
 have HE : Hid (k.inputE id b = 0 ∧ k.input id b = { k with inp := updI k.inp id (k.waits id ++ b) }) := Lib.hid (by
   have h1 : k.inputE id b = 0 := by unfold Kn.inputE; rw [HJ.out, if_neg hj0, if_neg hfull]
   exact ⟨h1, by unfold Kn.input; rw [h1]; rfl⟩)
 go_wp2_with fail
 obtain ⟨V, hV⟩ : ∃ x, x = u2.drew := ⟨_, rfl⟩
 have hgV : Chg Non u2 V := by rw [hV]; exact (Chg.refl Non u2).drew
 have HKV := Lib.hid (HK2.out.non hgV)
 have HGV := Lib.hid (HG2.out.then_non hgV)
 obtain ⟨hmm, hin⟩ := HMM.out
 replace hmm := hmm.keep hgV (fun e => e)
 have hinV := hin.keep hgV (fun _ _ e => e)
 have HInV := Lib.hid hinV
 obtain ⟨vqV, hkV, _⟩ := HKV.out.cell
 have c9 : V.cell? ⟨ap, 9, none⟩ = some (.map (some q)) := blk_cell hkV 9 rfl
 have hapq : ¬ (⟨ap, 9, none⟩ : Addr).block = q := fun e => HK.out.apart.1 e
 have hlk : (Instr.lookup 62 (.map (some q)) (.int .i64 id) false).run Tryz.prog V = .ok (.slice Av (k.waits id).length cv) V := by
  have := lookV_run hmm id hid V rfl
  rw [HV.out] at this
  exact this
 have HCon : Hid (Calls Tryz.prog 50 #[.slice (some ⟨V.heap.size, 0, none⟩) 2 2] (V.alloc (.cells #[.slice Av (k.waits id).length cv, .slice Ab b.length cb] 50)) (RetB (V.alloc (.cells #[.slice Av (k.waits id).length cv, .slice Ab b.length cb] 50)) (k.waits id ++ b))) := Lib.hid (by
   have hga : Chg Non V (V.alloc (.cells #[.slice Av (k.waits id).length cv, .slice Ab b.length cb] 50)) := (Chg.refl Non V).alloc _
   have hbk := heap_alloc_new V (.cells #[.slice Av (k.waits id).length cv, .slice Ab b.length cb] 50)
   have hP : PartsV (V.alloc (.cells #[.slice Av (k.waits id).length cv, .slice Ab b.length cb] 50)) V.heap.size [(Av, k.waits id, cv), (Ab, b, cb)] := by
     intro i p hp
     have hi : i = 0 ∨ i = 1 := by have := (List.getElem?_eq_some_iff.1 hp).1; simp at this; omega
     rcases hi with rfl | rfl
     · simp at hp
       subst hp
       obtain ⟨_, _, e, _, _, hr, _⟩ := HBi.out
       injection e with e _ _
       subst e
       exact ⟨row_cell hbk (by simp), (hr.non hgV).non hga⟩
     · simp at hp
       subst hp
       exact ⟨row_cell hbk (by simp), (HRb.out.non HGV.out).non hga⟩
   have := SlConcat_ok V.heap.size [(Av, k.waits id, cv), (Ab, b, cb)] 2 _ hP (by simp [catV]; omega) (by simp)
   simpa [catV] using this)
 clear hkV hgV hin hinV HMM
 refine wp_region_held_drew (S := Chg (fun b => b = q) u2.drew) (by kernel_rfl) (Chg.refl _ _) (fun hHeld => ?_)
 clear hHeld
 rw [← hV]
 clear hV
 refine hp 0 27 (.pointer (some ⟨ap, 0, none⟩)) rfl (Chg.refl _ _) ?_
 refine hp 1 28 (.pointer (some ⟨ap, 0, none⟩)) rfl (Chg.refl _ _) ?_
 refine hp 2 29 (.pointer (some ⟨ap, 9, none⟩)) rfl (Chg.refl _ _) ?_
 refine hp 3 30 (.map (some q)) rfl (Chg.refl _ _) ?_ (he := (fun W hW => by have hc := hW.cell_some c9 hapq; go_simp))
 refine hp 4 31 (.int .i64 id) rfl (Chg.refl _ _) ?_
 refine hp 5 32 (.pointer (some ⟨ap, 0, none⟩)) rfl (Chg.refl _ _) ?_
 refine hp 6 33 (.pointer (some ⟨ap, 0, none⟩)) rfl (Chg.refl _ _) ?_
 refine hp 7 34 (.pointer (some ⟨ap, 9, none⟩)) rfl (Chg.refl _ _) ?_
 refine hp 8 35 (.map (some q)) rfl (Chg.refl _ _) ?_ (he := (fun W hW => by have hc := hW.cell_some c9 hapq; go_simp))
 refine hp 9 36 (.int .i64 id) rfl (Chg.refl _ _) ?_
 refine hp 11 38 (.slice Ab b.length cb) rfl (Chg.refl _ _) ?_
 refine h_one 10 (by kernel_rfl) rfl (by kernel_rfl) ?_
 intro K hK
 go_simp
 refine hK.out _ _ (Chg.refl _ _) (fun _ => ?_)
 clear hK K
 try simp only [Act.put, sA, sB, sC]
 refine h_one 12 (by kernel_rfl) rfl (by kernel_rfl) ?_
 intro K hK
 go_simp
 refine hK.out _ _ ((Chg.refl _ _).alloc _) (fun _ => ?_)
 clear hK K
 try simp only [Act.put, sA, sB, sC]
 refine h_one 13 (by kernel_rfl) rfl (by kernel_rfl) ?_
 intro K hK
 go_simp
 refine (HCon.out).mono ?_
 rintro e u6 ⟨A2, c2, rfl, q1, q2, q3, hg⟩
 have HU := Lib.hid hg
 have HQ3 := Lib.hid q3
 have hV0u : Chg (fun b => b = q) V u6 := (((Chg.refl Non V).alloc _).then_non HU.out).of_non
 obtain ⟨W7, hup, hm7, hg7⟩ := updV_run (hmm.keep (((Chg.refl Non V).alloc _).then_non HU.out) (fun e => e)) id hid (.slice A2 (k.waits id ++ b).length c2)
 rw [List.length_append] at hup
 clear hg q3
 refine hK.out _ _ hV0u (fun _ => ?_)
 clear hK K
 try simp only [Act.put, sA, sB, sC]
 refine h_one 14 (by kernel_rfl) rfl (by kernel_rfl) ?_
 intro K hK
 go_simp
 refine hK.out _ _ (hV0u.trans_same hg7) (fun _ => ?_)
 clear hK K
 try simp only [Act.put, sA, sB, sC]
 refine wpAnyH_done (by kernel_rfl) ?_ _
 go_wp2_with fail
 go_ret
 have hVu : Chg Non V u6 := ((Chg.refl Non V).alloc _).then_non HU.out
 have hNq : ∀ b, ¬ N b → ¬ b = q := fun b e e2 => e (by rw [e2]; exact HK.out.sub q (.inr (.inl rfl)))
 have hI7 : BytesV (fun x => ¬ N x) W7 (k.waits id ++ b) (.slice A2 (k.waits id ++ b).length c2) := ((own_bytes HQ3.out q1 q2).mono (fun x e e2 => by
   have h1 := hN x e2
   have h2 := HGV.out.size
   have e' : (V.alloc (.cells #[.slice Av (k.waits id).length cv, .slice Ab b.length cb] 50)).heap.size ≤ x := e
   simp at e'
   omega)).keep hg7 hNq
 have hKn := (HKV.out.non hVu).setInp hg7 hm7 (inpV.upd id ((HInV.out.keep hVu (fun _ _ e => e)).keep hg7 hNq) hI7 (by rw [List.length_append]; omega))
 rw [HE.out.1, HE.out.2]
 exact ⟨rfl, hKn, ((HGV.out.then_non hVu).of_non).trans_same (hg7.mono (fun x e => .inr (.inl e)) : Chg (KAt.own ⟨ap, q, v1, v2, v3, vp⟩) u6 _)⟩
end
section
open Go.RowKit
set_option maxRecDepth 100000 in
theorem scopy_apart (I : Nat → Prop) (w : World) (s : Sta) (vb vd : Value) (hs : StaV I w s vb vd) (hpl : s.parts.length ≤ 1000) (hql : s.queues.length ≤ 1000) (hml : ∀ a ∈ s.queues, a.msgs.length ≤ 1000) :
  Calls Tryz.prog 45 #[.agg #[.int .i64 s.frames, vb, vd]] w fun e w' => ∃ b d, e = .returned (.agg #[.int .i64 s.frames, b, d]) ∧ StaO w.heap.size w' s b d ∧ (∃ M, w.heap.size ≤ M ∧ (∀ g, b.ownBlock = some g → g < M) ∧ SlV (quV (From M)) (From M) 6 w' s.queues d) ∧ Chg Non w w' := by
 obtain ⟨J, hJ⟩ : ∃ J : Nat → Prop, J = fun b => I b ∧ b < w.heap.size := ⟨_, rfl⟩
 have hJb : ∀ b, J b → b < w.heap.size := fun b e => by rw [hJ] at e; exact e.2
 obtain ⟨⟨A1, c1, rfl, hc1, hm1, hr1⟩, ⟨A2, c2, rfl, hc2, hm2, hr2⟩⟩ := hs
 have HPS : Hid (RdL (ptV J) J 14 w A1 s.parts) := Lib.hid (by rw [hJ]; exact hr1.bound (by omega) (fun a vs _ h => h.bound))
 have HQS : Hid (RdL (quV J) J 6 w A2 s.queues) := Lib.hid (by rw [hJ]; exact hr2.bound (by omega) (fun a vs _ h => h.bound))
 unfold maxLen at hm1 hm2
 clear hJ hr1 hr2
 go_enter Tryz.func45, Tryz.ntmps45
 go_wp2_with fail
 have hv : Chg Non w ((w.alloc (.cells #[.int .i64 s.frames, .slice A1 s.parts.length c1, .slice A2 s.queues.length c2] 30)).alloc (.cells #[.int .i64 0, .slice none 0 0, .slice none 0 0] 30)) := ((Chg.refl Non w).alloc _).alloc _
 refine (clonePt (ptV J) J ptV.keepL ptV_one A1 s.parts c1 _ (fun b e => by have := hJb b e; simp; omega) (HPS.out.non hv (fun a vs h => ptV_non _ _ _ _ hv h)) (by omega)).mono ?_
 rintro e u ⟨v1, rfl, ho1, hg⟩
 obtain ⟨hb0, hb1, hlt, hgw⟩ := blk_call2 hg
 have hlt0 : w.heap.size < u.heap.size := by omega
 have HB0 := Lib.hid hb0
 have HB1 := Lib.hid hb1
 have HG := Lib.hid hgw
 have HO1 := Lib.hid (ho1.base (B' := w.heap.size + 2) (by simp))
 have f1 := blk_cell hb0 1 (v := .slice A1 s.parts.length c1) rfl
 have fz := blk_free hb0 1
 obtain ⟨R1, d1, rfl, hd1, hdm1, _⟩ := ho1.rd
 unfold maxLen at hdm1
 clear ho1 hg hb0 hb1 hgw hv
 go_wp2_with fail
 have hs1 := chg_set u w.heap.size 1 (.slice R1 s.parts.length d1)
 obtain ⟨va, hva⟩ : ∃ v, v = u.setCell ⟨w.heap.size, 1, none⟩ (.slice R1 s.parts.length d1) := ⟨_, rfl⟩
 rw [← hva] at hs1 ⊢
 have HBP : Hid (va.heap[w.heap.size]? = some (.cells #[.int .i64 s.frames, .slice R1 s.parts.length d1, .slice A2 s.queues.length c2] 30 (0, 0))) := Lib.hid (by rw [hva]; exact blk_set 1 _ HB0.out)
 have HB1a := Lib.hid (blk_keep HB1.out hs1 (fun e => by omega))
 have HGa := Lib.hid (HG.out.then_new hs1 (fun x e => by omega))
 have HP0 := Lib.hid (HO1.out.keep hs1 (fun g e e2 => by have := (HO1.out.ge e).1; omega) (fun a vs h => h.keep hs1 (fun b e e2 => by have := hJb b e; omega)))
 have hvas := HGa.out.size
 have hvab := blk_lt HB1a.out
 clear hva hs1 f1 fz
 go_loopw [16] (fun iv wr => ∃ k : Nat, k ≤ s.parts.length ∧ iv = .int .i64 k ∧ Hid (OwnL (ptT J (From va.heap.size)) (w.heap.size + 2) 69 14 wr (.slice R1 s.parts.length d1) (tg k s.parts)) ∧ Hid (Chg (fun b => (Value.slice R1 s.parts.length d1).ownBlock = some b) va wr)) (fun iv _ => s.parts.length - (intOf iv).toNat)
 case atStart => exact ⟨0, Nat.zero_le _, rfl, Lib.hid (tg_zero HP0.out (fun a vs h => h)), Lib.hid (Chg.refl _ _)⟩
 case round =>
  obtain ⟨k, hk, rfl, HO, HGr⟩ := hrel
  obtain ⟨wo, hwo⟩ : ∃ x, x = wr := ⟨_, rfl⟩
  subst hwo
  have HBr := Lib.hid (blk_keep HBP.out HGr.out (fun e => by have := (HP0.out.ge e).1; omega))
  have hlw := blk_lt HBr.out
  have hsv := HGr.out.size
  by_cases hlt : k < s.parts.length
  ·obtain ⟨g, cap, cur, e1, hBg, hgb, r1, r2, r3, hat⟩ := HO.out.shape (by rw [tg_len]; omega)
   injection e1 with e1 e2 e3
   clear e2
   subst e1 e3
   rw [tg_len] at r1
   have hg0 : g < va.heap.size := (HP0.out.ge (g := g) rfl).2
   obtain ⟨a, ha⟩ : ∃ a, s.parts[k]? = some a := ⟨_, List.getElem?_eq_getElem hlt⟩
   have hltd : decide ((k : Int) < (s.parts.length : Int)) = true := by simpa using hlt
   obtain ⟨vs, hvl, hrg, hR⟩ := hat k (a, false) (by rw [tg_get, ha]; simp)
   obtain ⟨m, rfl, ⟨A, c5, rfl, hc5, hcm5, hrm, _⟩, hbd, hl5⟩ := (show ptV J wo a vs from hR)
   have HTS := Lib.hid (tg_set ha)
   have HA := Lib.hid ha
   have HBD := Lib.hid hbd
   have HRG := Lib.hid hrg
   have hcur : k * 14 + 14 ≤ cur.size := by omega
   clear hat hR ha hrg hbd r1 r2 r3
   go_wp2_with (first
     | (refine sel (some 20) (.load 69 _) ?_; refine wpList_load_mid rfl 69 (.tmp 19) rfl g (k * 14) rfl (partL a (.slice A a.mem.length c5)) _ HRG.out Tryz.underlying69 rfl (by rw [hvl]; exact info_part) ?_)
     | (refine sel none (.store 69 (.tmp 4) (.tmp 20)) ?_
        refine wpList_store_rowA rfl 69 (.tmp 4) (.tmp 20) rfl wo.heap.size (partC a (.slice A a.mem.length c5)) rfl rfl 69 zeroPart (blk_new _ _) (by rw [partC_size HBD.out.r8]; exact info_part) (by rw [partC_size HBD.out.r8]; rfl) (partC_one _ _ rfl) ?_
        intro W1 hgW hbW))
   obtain ⟨v, hv⟩ : ∃ v, v = W1.drew := ⟨_, rfl⟩
   have hv0 : v.heap[wo.heap.size]? = some (.cells (partC a (.slice A a.mem.length c5)) 69 (0, 0)) := by rw [hv]; exact hbW
   have hgv0 : Chg Non wo W1 := ((Chg.refl Non wo).alloc _).then_new hgW (fun x e => by omega)
   have hgv : Chg Non wo v := by rw [hv]; exact hgv0.drew
   have hvlt := blk_lt hv0
   have hbx : v.cell? ⟨w.heap.size, 1, none⟩ = some (.slice (some ⟨g, 0, none⟩) s.parts.length d1) := blk_cell (blk_keep HBr.out hgv (fun e => e)) 1 rfl
   have hne : ¬ (⟨w.heap.size, 1, none⟩ : Addr).block = g := fun e => by simp only at e; omega
   have hne2 : ¬ wo.heap.size = g := fun e => by omega
   have HGB := Lib.hid (blk_keep hgb hgv (fun e => e))
   have HRm := Lib.hid (hrm.non hgv)
   have HGV := Lib.hid hgv
   refine wp_region_held_drew (S := Chg (fun b => b = g) W1.drew) (by kernel_rfl) (Chg.refl _ _) (fun hHeld => ?_)
   clear hHeld
   rw [← hv]
   clear hv hgb hgv0 hgW hbW hrm hgv
   refine hp 0 21 (.pointer (some ⟨w.heap.size, 1, none⟩)) rfl (Chg.refl _ _) ?_
   refine hp 1 22 (.slice (some ⟨g, 0, none⟩) s.parts.length d1) rfl (Chg.refl _ _) ?_ (he := (fun W hW => by have hc := hW.cell_some hbx hne; go_simp))
   refine hp 2 23 (.int .i64 k) rfl (Chg.refl _ _) ?_
   refine h_load 3 (some 24) 69 (.tmp 4) wo.heap.size 0 (partC a (.slice A a.mem.length c5)) _ rfl (by kernel_rfl) (by kernel_rfl) (by kernel_rfl) (by kernel_rfl) (by kernel_rfl) (fun _ _ _ h => h) (by kernel_rfl) (by kernel_rfl) (fun W hW => range_keepS (blk_range hv0) hW hne2) Tryz.underlying69 rfl (by rw [partC_size HBD.out.r8]; exact info_part) (Chg.refl _ _) ?_
   simp only [Act.put, sA, sB, sC]
   refine h_one 4 (by kernel_rfl) rfl (by kernel_rfl) ?_
   intro K hK
   go_simp
   refine (Copy_ok a A a.mem c5 v HBD.out.r8 HRm.out (by omega)).mono ?_
   rintro e u1 ⟨A6, c6, rfl, q1, q2, q3, q4⟩
   have HQ := Lib.hid q3
   have HU := Lib.hid q4
   have HUg := Lib.hid (Chg.of_non q4 : Chg (fun b => b = g) v u1)
   have HGB1 := Lib.hid (blk_keep HGB.out q4 (fun e => e))
   clear q3 q4
   refine hK.out _ _ HUg.out (fun _ => ?_)
   clear hK K
   try simp only [Act.put, sA, sB, sC]
   refine hp 5 26 (.pointer (some ⟨g, k * 14, none⟩)) rfl HUg.out ?_
   refine h_one 6 (by kernel_rfl) rfl (by kernel_rfl) ?_
   intro K hK
   refine wp_store_mid 69 (.tmp 26) (.tmp 25) (by kernel_rfl) g (k * 14) (partC a (.slice A6 a.mem.length c6)) (by kernel_rfl) (by kernel_rfl) (by rw [partC_size HBD.out.r8]; exact blk_there HGB1.out (by omega)) (by rw [partC_size HBD.out.r8]; exact info_part) (partC_one _ _ rfl) ?_
   refine hK.out _ _ (HUg.out.trans_same (sCells_chg g (partC a (.slice A6 a.mem.length c6)).toList (k * 14) u1)) (fun _ => ?_)
   clear hK K
   try simp only [Act.put, sA, sB, sC]
   refine wpAnyH_done (by kernel_rfl) ?_ _
   have hst := sCells_chg g (partC a (.slice A6 a.mem.length c6)).toList (k * 14) u1
   have HU2 := Lib.hid (HGV.out.then_non HU.out)
   have hsu := HU2.out.size
   have hsu1 := HGV.out.size
   have HOn : Hid (OwnL (ptT J (From va.heap.size)) (w.heap.size + 2) 69 14 (u1.setCells g (k * 14) (partC a (.slice A6 a.mem.length c6)).toList) (.slice (some ⟨g, 0, none⟩) s.parts.length d1) (tg (k + 1) s.parts)) := Lib.hid (by
     rw [← HTS.out]
     refine OwnL.put (R := ptT J (From va.heap.size)) (HO.out.non HU2.out (fun a vs h => h.keep HU2.out (fun _ _ e => e) (fun _ _ e => e))) (by rw [tg_len]; exact hlt) (by rw [Array.length_toList, partC_size HBD.out.r8]) (fun a vs h => h.keep hst (fun b e e2 => by have := hJb b e; omega) (fun b e e2 => by have : va.heap.size ≤ b := e; omega)) ?_
     exact ⟨_, rfl, (own_bytes ((HQ.out.mono (by omega)).keep hst (fun b o e1 e2 e3 e4 => by omega)) q1 q2 : BytesV (From va.heap.size) _ _ _), HBD.out, hl5⟩)
   have HGn : Hid (Chg (fun b => (Value.slice (some ⟨g, 0, none⟩) s.parts.length d1).ownBlock = some b) va (u1.setCells g (k * 14) (partC a (.slice A6 a.mem.length c6)).toList)) := Lib.hid ((HGr.out.then_non HU2.out).trans_same (hst.mono (fun x e => by subst e; rfl)))
   clear HUg hst hbx hv0
   go_wp2_with fail
   exact ⟨⟨k + 1, by omega, by simp, HOn, HGn⟩, by simp [intOf]; omega⟩
  ·obtain rfl : k = s.parts.length := by omega
   have hltd : decide ((s.parts.length : Int) < (s.parts.length : Int)) = false := by simp
   have HP1 := Lib.hid (tg_all (R' := ptV (From va.heap.size)) HO.out (fun a vs h => h))
   have hgp : ∀ g, (Value.slice R1 s.parts.length d1).ownBlock = some g → w.heap.size + 2 ≤ g ∧ g < va.heap.size := fun g e => HP0.out.ge e
   have HB1w := Lib.hid (blk_keep HB1a.out HGr.out (fun e => by have := (hgp _ e).1; omega))
   have HGw := Lib.hid (HGa.out.then_new HGr.out (fun x e => by have := (hgp _ e).1; omega))
   have f2 := blk_cell HBr.out 2 (v := .slice A2 s.queues.length c2) rfl
   have hws := HGw.out.size
   clear HO
   go_wp2_with fail
   refine (cloneQu (quV J) J quV.keepL quV_one A2 s.queues c2 _ (fun b e => by have := hJb b e; omega) (HQS.out.non HGw.out (fun a vs h => quV_non _ _ _ _ HGw.out h)) (by omega)).mono ?_
   rintro e u3 ⟨v2, rfl, ho2, hg⟩
   have HB0c := Lib.hid (blk_keep HBr.out hg (fun e => e))
   have HB1c := Lib.hid (blk_keep HB1w.out hg (fun e => e))
   have HG3 := Lib.hid (HGw.out.then_non hg)
   have HP2 : Hid (OwnL (ptV (fun b => Exc w.heap.size (.slice R1 s.parts.length d1) b ∧ w.heap.size + 2 ≤ b ∧ b < wo.heap.size)) (w.heap.size + 2) 69 14 u3 (.slice R1 s.parts.length d1) s.parts) := Lib.hid ((HP1.out.mono (fun a vs h => h.bound.mono (fun b e => by
     have h1 : va.heap.size ≤ b := e.1
     exact ⟨⟨by omega, fun e2 => by have := (hgp b e2).2; omega⟩, by omega, e.2⟩))).non hg (fun a vs h => ptV_non _ _ _ _ hg h))
   have HO2 := Lib.hid (ho2.base (B' := w.heap.size + 2) (by omega))
   have fz' := blk_free HB0c.out 2
   have f0 := blk_cell HB0c.out 2 (v := .slice A2 s.queues.length c2) rfl
   have hlt3 := blk_lt HB0c.out
   have hlt3b := blk_lt HB1c.out
   obtain ⟨R2, d2, rfl, hd2, hdm2, _⟩ := ho2.rd
   have hR2 : ∀ g, (Value.slice R2 s.queues.length d2).ownBlock = some g → wo.heap.size ≤ g := fun g e => (ho2.ge e).1
   have hR1 : ∀ g, (Value.slice R1 s.parts.length d1).ownBlock = some g → g < wo.heap.size := fun g e => (HP1.out.ge e).2
   unfold maxLen at hdm2
   have hwou := hg.size
   clear ho2 hg f2
   go_wp2_with fail
   have hs3 := chg_set u3 w.heap.size 2 (.slice R2 s.queues.length d2)
   obtain ⟨v0, hv0⟩ : ∃ v, v = u3.setCell ⟨w.heap.size, 2, none⟩ (.slice R2 s.queues.length d2) := ⟨_, rfl⟩
   rw [← hv0] at hs3 ⊢
   have HBX : Hid (v0.heap[w.heap.size]? = some (.cells #[.int .i64 s.frames, .slice R1 s.parts.length d1, .slice R2 s.queues.length d2] 30 (0, 0))) := Lib.hid (by rw [hv0]; exact blk_set 2 _ HB0c.out)
   have HB1d := Lib.hid (blk_keep HB1c.out hs3 (fun e => by omega))
   have HG4 := Lib.hid (HG3.out.then_new hs3 (fun x e => by omega))
   have HP9 := Lib.hid (HP2.out.keep hs3 (fun g e e2 => by have := (HP2.out.ge e).1; omega) (fun a vs h => h.keep hs3 (fun b e e2 => by have := e.2.1; omega)))
   have HQ0 := Lib.hid (HO2.out.keep hs3 (fun g e e2 => by have := (HO2.out.ge e).1; omega) (fun a vs h => h.keep hs3 (fun b e e2 => by have := hJb b e; omega)))
   have hv0s := HG4.out.size
   have hv0b := blk_lt HB1d.out
   obtain ⟨wp0, hwp0⟩ : ∃ n, n = wo.heap.size := ⟨_, rfl⟩
   rw [← hwp0] at hR1 hR2 HP9
   have hwv0 : wp0 ≤ v0.heap.size := by have := hs3.size; omega
   have hwp1 : w.heap.size ≤ wp0 := by omega
   clear hv0 hs3 HBr HGr
   go_loopw [35] (fun iv wr => ∃ k : Nat, k ≤ s.queues.length ∧ iv = .int .i64 k ∧ Hid (OwnL (quT J (From v0.heap.size)) (w.heap.size + 2) 95 6 wr (.slice R2 s.queues.length d2) (tg k s.queues)) ∧ Hid (Chg (fun b => (Value.slice R2 s.queues.length d2).ownBlock = some b) v0 wr)) (fun iv _ => s.queues.length - (intOf iv).toNat)
   case atStart => exact ⟨0, Nat.zero_le _, rfl, Lib.hid (tg_zero HQ0.out (fun a vs h => h)), Lib.hid (Chg.refl _ _)⟩
   case round =>
    obtain ⟨k, hk, rfl, HO, HGr⟩ := hrel
    obtain ⟨wo, hwo⟩ : ∃ x, x = wr := ⟨_, rfl⟩
    subst hwo
    have HBr := Lib.hid (blk_keep HBX.out HGr.out (fun e => by have := (HQ0.out.ge e).1; omega))
    have hlw := blk_lt HBr.out
    have hsv := HGr.out.size
    by_cases hlt : k < s.queues.length
    ·obtain ⟨g, cap, cur, e1, hBg, hgb, r1, r2, r3, hat⟩ := HO.out.shape (by rw [tg_len]; omega)
     injection e1 with e1 e2 e3
     clear e2
     subst e1 e3
     have hg0 : g < v0.heap.size := (HQ0.out.ge (g := g) rfl).2
     obtain ⟨a, ha⟩ : ∃ a, s.queues[k]? = some a := ⟨_, List.getElem?_eq_getElem hlt⟩
     have hltd : decide ((k : Int) < (s.queues.length : Int)) = true := by simpa using hlt
     obtain ⟨vs, hvl, hrg, hR⟩ := hat k (a, false) (by rw [tg_get, ha]; simp)
     obtain ⟨m, rfl, ⟨A, c5, rfl, hc5, hcm5, hrm⟩, hbd, hl5⟩ := (show quV J wo a vs from hR)
     have hms : a.msgs.length ≤ 1000 := hml a (List.mem_of_getElem? ha)
     have HA := Lib.hid ha
     have HBD := Lib.hid hbd
     obtain ⟨⟨x1, x2, x3, x4, x5⟩, ms⟩ := a
     simp only at hl5 hrm hc5 hms
     unfold maxLen at hcm5
     have HRG := Lib.hid hrg
     have hm50 : wo.cell? ⟨g, k * 6 + 5, none⟩ = some (.slice A ms.length c5) := hrg 5 _ rfl
     clear hat hR r1 r2 r3 ha hrg hbd
     go_wp2_with (first
       | (refine sel (some 39) (.load 95 _) ?_; refine wpList_load_mid rfl 95 (.tmp 38) rfl g (k * 6) rfl [.int .i64 x1, .int .i64 x2, .int .i64 x3, .int .i64 x4, .int .i64 x5, .slice A ms.length c5] _ HRG.out Tryz.underlying95 rfl (by kernel_rfl) ?_)
       | (refine sel none (.store 95 (.tmp 6) (.tmp 39)) ?_
          refine wpList_store_rowA rfl 95 (.tmp 6) (.tmp 39) rfl wo.heap.size #[.int .i64 x1, .int .i64 x2, .int .i64 x3, .int .i64 x4, .int .i64 x5, .slice A ms.length c5] rfl rfl 95 _ (blk_new _ _) (by kernel_rfl) rfl (by simp [Value.oneCell']) ?_
          intro W1 hgW hbW))
     obtain ⟨v, hv⟩ : ∃ v, v = W1.drew := ⟨_, rfl⟩
     have hv0 : v.heap[wo.heap.size]? = some (.cells #[.int .i64 x1, .int .i64 x2, .int .i64 x3, .int .i64 x4, .int .i64 x5, .slice A ms.length c5] 95 (0, 0)) := by rw [hv]; exact hbW
     have hgv0 : Chg Non wo W1 := ((Chg.refl Non wo).alloc _).then_new hgW (fun x e => by omega)
     have hgv : Chg Non wo v := by rw [hv]; exact hgv0.drew
     have hvlt := blk_lt hv0
     have hbx : v.cell? ⟨w.heap.size, 2, none⟩ = some (.slice (some ⟨g, 0, none⟩) s.queues.length d2) := blk_cell (blk_keep HBr.out hgv (fun e => e)) 2 rfl
     have hne : ¬ (⟨w.heap.size, 2, none⟩ : Addr).block = g := fun e => by simp only at e; omega
     have hne2 : ¬ (⟨wo.heap.size, 5, none⟩ : Addr).block = g := fun e => by simp only at e; omega
     have hpm : v.cell? ⟨wo.heap.size, 5, none⟩ = some (.slice A ms.length c5) := blk_cell hv0 5 rfl
     have hm5 : v.cell? ⟨g, k * 6 + 5, none⟩ = some (.slice A ms.length c5) := hgv.cell_some hm50 (fun e => e)
     have HGB := Lib.hid (blk_keep hgb hgv (fun e => e))
     have HRm := Lib.hid (hrm.non hgv (fun a vs h => msgV_non _ _ _ _ hgv h))
     have HGV := Lib.hid hgv
     have HV6 := Lib.hid hv0
     refine wp_region_held_drew (S := Chg (fun b => b = g) W1.drew) (by kernel_rfl) (Chg.refl _ _) (fun hHeld => ?_)
     clear hHeld
     rw [← hv]
     clear hv hgb hgv0 hgW hbW hrm hm50 hv0 hgv
     refine hp 0 40 (.pointer (some ⟨w.heap.size, 2, none⟩)) rfl (Chg.refl _ _) ?_
     refine hp 1 41 (.slice (some ⟨g, 0, none⟩) s.queues.length d2) rfl (Chg.refl _ _) ?_ (he := (fun W hW => by have hc := hW.cell_some hbx hne; go_simp))
     refine hp 2 42 (.int .i64 k) rfl (Chg.refl _ _) ?_
     refine hp 3 43 (.pointer (some ⟨wo.heap.size, 5, none⟩)) rfl (Chg.refl _ _) ?_
     refine hp 4 44 (.slice A ms.length c5) rfl (Chg.refl _ _) ?_ (he := (fun W hW => by have hc := hW.cell_some hpm hne2; go_simp))
     refine h_one 5 (by kernel_rfl) rfl (by kernel_rfl) ?_
     intro K hK
     go_simp
     refine (cloneBy (msgV J) J msgV.keepL msgV_one A ms c5 v (fun b e => by have := hJb b e; omega) HRm.out (by omega)).mono ?_
     rintro e u1 ⟨vm, rfl, hom, hgm⟩
     have HOM := Lib.hid hom
     have HU := Lib.hid hgm
     have HUg := Lib.hid (Chg.of_non hgm : Chg (fun b => b = g) v u1)
     have hm6 : u1.cell? ⟨g, k * 6 + 5, none⟩ = some (.slice A ms.length c5) := hgm.cell_some hm5 (fun e => e)
     have hf6 : u1.frozen? ⟨g, k * 6 + 5, none⟩ = false := by have h := blk_keep HGB.out hgm (fun e => e); exact blk_free h _
     obtain ⟨RM, dm, rfl, hdm, hdmm, _⟩ := hom.rd
     clear hom hgm
     refine hK.out _ _ HUg.out (fun _ => ?_)
     clear hK K
     try simp only [Act.put, sA, sB, sC]
     refine hp 6 46 (.pointer (some ⟨g, k * 6, none⟩)) rfl HUg.out ?_
     refine hp 7 47 (.pointer (some ⟨g, k * 6 + 5, none⟩)) rfl HUg.out ?_
     refine h_one 8 (by kernel_rfl) rfl (by kernel_rfl) ?_
     intro K hK
     go_simp
     refine hK.out _ _ (HUg.out.trans_same (chg_set u1 g (k * 6 + 5) (.slice RM ms.length dm))) (fun _ => ?_)
     clear hK K
     try simp only [Act.put, sA, sB, sC]
     refine wpAnyH_done (by kernel_rfl) ?_ _
     have hst := chg_set u1 g (k * 6 + 5) (.slice RM ms.length dm)
     have HU2 := Lib.hid (HGV.out.then_non HU.out)
     have hsu := HU2.out.size
     have hvu := HU.out.size
     obtain ⟨w3, hw3⟩ : ∃ x, x = u1.setCell ⟨g, k * 6 + 5, none⟩ (.slice RM ms.length dm) := ⟨_, rfl⟩
     rw [← hw3] at hst ⊢
     have HOF : Hid (OwnL (fluxR (quT J (fun b => v0.heap.size ≤ b ∧ b < wo.heap.size)) (fun vs => vs = [.int .i64 x1, .int .i64 x2, .int .i64 x3, .int .i64 x4, .int .i64 x5, .slice RM ms.length dm])) (w.heap.size + 2) 95 6 w3 (.slice (some ⟨g, 0, none⟩) s.queues.length d2) (((tg k s.queues).map fun x => (x, false)).set k ((⟨⟨x1, x2, x3, x4, x5⟩, ms⟩, false), true))) := Lib.hid (by
       rw [hw3] at hst ⊢
       refine OwnL.cell (R := fluxR (quT J (fun b => v0.heap.size ≤ b ∧ b < wo.heap.size)) (fun vs => vs = [.int .i64 x1, .int .i64 x2, .int .i64 x3, .int .i64 x4, .int .i64 x5, .slice RM ms.length dm])) (j := 5) (a := ((⟨⟨x1, x2, x3, x4, x5⟩, ms⟩, false), false)) (OwnL.non (flux_in _ (HO.out.mono (fun a vs h => h.bound.mono (fun b e => e)))) HU2.out ?_) (by rw [List.getElem?_map, tg_get, HA.out]; simp) (by omega) ?_ ?_
       · intro x vs h
         obtain ⟨x, t⟩ := x
         cases t with
         | true => exact h
         | false => exact quT.keep (show quT J _ wo x vs from h) HU2.out (fun _ _ e => e) (fun _ _ e => e)
       · intro x vs h
         obtain ⟨x, t⟩ := x
         cases t with
         | true => exact h
         | false => exact quT.keep (show quT J _ u1 x vs from h) hst (fun b e e2 => by have := hJb b e; omega) (fun b e e2 => by omega)
       · intro vs hvl h
         obtain ⟨m, rfl, _⟩ := (show quV J u1 ⟨⟨x1, x2, x3, x4, x5⟩, ms⟩ vs from h)
         rfl)
     have HM3 := Lib.hid (HOM.out.keep hst (fun q e e2 => by have := (HOM.out.ge e).1; omega) (fun a vs h => h.keep hst (fun b e e2 => by have := hJb b e; omega)))
     have HB3 := Lib.hid (blk_keep (blk_keep HBr.out HU2.out (fun e => e)) hst (fun e => hne e))
     have HB36 := Lib.hid (blk_keep (blk_keep HV6.out HU.out (fun e => e)) hst (fun e => hne2 e))
     have HR3 := Lib.hid ((HRm.out.non HU.out (fun a vs h => msgV_non _ _ _ _ HU.out h)).keep hst (fun b e e2 => by have := hJb b e; omega) (fun a vs _ h => h.keep hst (fun b e e2 => by have := hJb b e; omega)))
     have HG3 : Hid (Chg (fun b => b = g) wo w3) := Lib.hid ((HU2.out.of_non : Chg (fun b => b = g) wo u1).trans_same hst)
     have hpq3 : w3.cell? ⟨g, k * 6 + 5, none⟩ = some (.slice RM ms.length dm) := by
      rw [hw3]
      exact blk_cell (blk_set (k * 6 + 5) _ (blk_keep HGB.out HU.out (fun e => e))) (k * 6 + 5) (by rw [Array.getElem?_setIfInBounds_self_of_lt]; have := hm6; rw [cell_of_row _ _ _ _ _ _ (blk_keep HGB.out HU.out (fun e => e))] at this; exact (Array.getElem?_eq_some_iff.1 this).1)
     have hp3 := blk_cell HB36.out 5 (v := .slice A ms.length c5) rfl
     have hw3s : u1.heap.size ≤ w3.heap.size := hst.size
     have HP3 := Lib.hid hpq3
     clear hw3 hst HUg hm5 hm6 hf6 hbx hpm hpq3
     go_wp2_with fail
     go_loopw [51] (fun iv wr => ∃ j : Nat, j ≤ ms.length ∧ iv = .int .i64 j ∧ Hid (OwnL (msgT J (From w3.heap.size)) v.heap.size 50 1 wr (.slice RM ms.length dm) (tg j ms)) ∧ Hid (Chg (fun b => (Value.slice RM ms.length dm).ownBlock = some b) w3 wr)) (fun iv _ => ms.length - (intOf iv).toNat)
     case atStart => exact ⟨0, Nat.zero_le _, rfl, Lib.hid (tg_zero HM3.out (fun a vs h => h)), Lib.hid (Chg.refl _ _)⟩
     case round =>
      obtain ⟨j, hj, rfl, HOm, HGm⟩ := hrel
      have hgo : ∀ q, (Value.slice RM ms.length dm).ownBlock = some q → v.heap.size ≤ q ∧ q < w3.heap.size := fun q e => HM3.out.ge e
      have hs3 := HGm.out.size
      by_cases hlj : j < ms.length
      ·obtain ⟨gm, cap, cur, e1, hBm, hgbm, r1, r2, r3, hat⟩ := HOm.out.shape (by rw [tg_len]; omega)
       injection e1 with e1 e2 e3
       clear e2
       subst e1 e3
       have hgm := hgo gm rfl
       obtain ⟨l7, hl7⟩ : ∃ a, ms[j]? = some a := ⟨_, List.getElem?_eq_getElem hlj⟩
       have hltj : decide ((j : Int) < (ms.length : Int)) = true := by simpa using hlj
       obtain ⟨bm, om, vs7, rfl, hJm, hvl7, hrg7, h7, rfl, ⟨A7, c7, rfl, hc7, hcm7, hr7, _⟩, hlen7⟩ := (HR3.out.keep HGm.out (fun b e e2 => by have := hJb b e; have := (hgo b e2).1; omega) (fun a vs _ h => h.keep HGm.out (fun b e e2 => by have := hJb b e; have := (hgo b e2).1; omega))) j l7 hl7
       have hq7 : wr.cell? ⟨bm, om + j, none⟩ = some (.slice A7 l7.length c7) := by have := hrg7 0 _ rfl; simpa using this
       obtain ⟨vs8, hvl8, hrg8, hR8⟩ := hat j (l7, false) (by rw [tg_get, hl7]; simp)
       obtain ⟨h8, rfl, _⟩ := (show msgV J wr l7 vs8 from hR8)
       have hm7 : wr.cell? ⟨gm, j, none⟩ = some h8 := by have := hrg8 0 _ rfl; simpa using this
       have HTS := Lib.hid (tg_set hl7)
       have HL7 := Lib.hid hl7
       clear hat hR8 r1 r2 r3 hl7 hrg8 hrg7
       go_wp2_with fail
       obtain ⟨v', hv'⟩ : ∃ x, x = wr.drew := ⟨_, rfl⟩
       have hgv' : Chg Non wr v' := by rw [hv']; exact (Chg.refl _ _).drew
       have hbx : v'.cell? ⟨w.heap.size, 2, none⟩ = some (.slice (some ⟨g, 0, none⟩) s.queues.length d2) := blk_cell (blk_keep (blk_keep HB3.out HGm.out (fun e => by have := (hgo _ e).1; omega)) hgv' (fun e => e)) 2 rfl
       have hneb : ¬ (⟨w.heap.size, 2, none⟩ : Addr).block = gm := fun e => by simp only at e; omega
       have hneq : ¬ (⟨g, k * 6 + 5, none⟩ : Addr).block = gm := fun e => by simp only at e; omega
       have hpq : v'.cell? ⟨g, k * 6 + 5, none⟩ = some (.slice (some ⟨gm, 0, none⟩) ms.length dm) := hgv'.cell_some (HGm.out.cell_some HP3.out (fun e => by have := (hgo _ e).1; simp only at this; omega)) (fun e => e)
       have HGB7 := Lib.hid (blk_keep hgbm hgv' (fun e => e))
       have HR7 := Lib.hid (hr7.non hgv')
       have hm7 : v'.cell? ⟨gm, j, none⟩ = some h8 := hgv'.cell_some hm7 (fun e => e)
       have HGV7 := Lib.hid hgv'
       have hv's := hgv'.size
       refine wp_region_held_drew (S := Chg (fun b => b = gm) wr.drew) (by kernel_rfl) (Chg.refl _ _) (fun hHeld => ?_)
       clear hHeld
       rw [← hv']
       clear hv' hgbm hr7 hgv' hq7
       refine hp 0 56 (.pointer (some ⟨w.heap.size, 2, none⟩)) rfl (Chg.refl _ _) ?_
       refine hp 1 57 (.slice (some ⟨g, 0, none⟩) s.queues.length d2) rfl (Chg.refl _ _) ?_ (he := (fun W hW => by have hc := hW.cell_some hbx hneb; go_simp))
       refine hp 2 58 (.int .i64 k) rfl (Chg.refl _ _) ?_
       refine hp 3 59 (.pointer (some ⟨g, k * 6, none⟩)) rfl (Chg.refl _ _) ?_
       refine hp 4 60 (.pointer (some ⟨g, k * 6 + 5, none⟩)) rfl (Chg.refl _ _) ?_
       refine hp 5 61 (.slice (some ⟨gm, 0, none⟩) ms.length dm) rfl (Chg.refl _ _) ?_ (he := (fun W hW => by have hc := hW.cell_some hpq hneq; go_simp))
       refine hp 6 62 (.int .i64 j) rfl (Chg.refl _ _) ?_
       refine hp 7 63 (.slice A7 l7.length c7) rfl (Chg.refl _ _) ?_
       refine h_one 8 (by kernel_rfl) rfl (by kernel_rfl) ?_
       intro K hK
       go_simp
       refine (SlClone_ok A7 l7 c7 v' HR7.out (by omega)).mono ?_
       rintro e u2 ⟨A8, c8, rfl, q1, q2, q3, q4⟩
       have HQ8 := Lib.hid q3
       have HU8 := Lib.hid q4
       have HUg8 := Lib.hid (Chg.of_non q4 : Chg (fun b => b = gm) v' u2)
       have hm8 : u2.cell? ⟨gm, j, none⟩ = some h8 := q4.cell_some hm7 (fun e => e)
       have hf8 : u2.frozen? ⟨gm, j, none⟩ = false := by have h := blk_keep HGB7.out q4 (fun e => e); exact blk_free h _
       clear q3 q4
       refine hK.out _ _ HUg8.out (fun _ => ?_)
       clear hK K
       try simp only [Act.put, sA, sB, sC]
       refine hp 9 65 (.pointer (some ⟨gm, j, none⟩)) rfl HUg8.out ?_
       refine h_one 10 (by kernel_rfl) rfl (by kernel_rfl) ?_
       intro K hK
       go_simp
       refine hK.out _ _ (HUg8.out.trans_same (chg_set u2 gm j (.slice A8 l7.length c8))) (fun _ => ?_)
       clear hK K
       try simp only [Act.put, sA, sB, sC]
       refine wpAnyH_done (by kernel_rfl) ?_ _
       have hst := chg_set u2 gm j (.slice A8 l7.length c8)
       have HU9 := Lib.hid (HGV7.out.then_non HU8.out)
       have hsu := HU9.out.size
       have HOn : Hid (OwnL (msgT J (From w3.heap.size)) v.heap.size 50 1 (u2.setCell ⟨gm, j, none⟩ (.slice A8 l7.length c8)) (.slice (some ⟨gm, 0, none⟩) ms.length dm) (tg (j + 1) ms)) := Lib.hid (by
         rw [← HTS.out]
         have ej : j * 1 + 0 = j := by omega
         have := OwnL.cell (R' := msgT J (From w3.heap.size)) (i := j) (j := 0) (a := (l7, false)) (a' := (l7, true)) (u := .slice A8 l7.length c8) (HOm.out.non HU9.out (fun a vs h => h.keep HU9.out (fun _ _ e => e) (fun _ _ e => e))) (by rw [tg_get, HL7.out]; simp) (by omega) (by
           rw [ej]
           exact fun a vs h => h.keep hst (fun b e e2 => by have := hJb b e; omega) (fun b e e2 => by have : w3.heap.size ≤ b := e; omega)) (by
           rw [ej]
           intro vs hvl h
           obtain ⟨m, rfl, _⟩ := (show msgV J u2 l7 vs from h)
           exact ⟨_, rfl, (own_bytes ((HQ8.out.mono (by omega)).keep hst (fun b o e1 e2 e3 e4 => by omega)) q1 q2 : BytesV (From w3.heap.size) _ _ _), hlen7⟩)
         rw [ej] at this
         exact this)
       have HGn : Hid (Chg (fun b => (Value.slice (some ⟨gm, 0, none⟩) ms.length dm).ownBlock = some b) w3 (u2.setCell ⟨gm, j, none⟩ (.slice A8 l7.length c8))) := Lib.hid ((HGm.out.then_non HU9.out).trans_same (hst.mono (fun x e => by subst e; rfl)))
       clear HUg8 hst hm7 hm8 hf8 hbx hpq
       go_wp2_with fail
       exact ⟨⟨j + 1, by omega, by simp, HOn, HGn⟩, by simp [intOf]; omega⟩
      ·obtain rfl : j = ms.length := by omega
       have hltj : decide ((ms.length : Int) < (ms.length : Int)) = false := by simp
       have HOM9 := Lib.hid (tg_all (R' := msgV (From w3.heap.size)) HOm.out (fun a vs h => h))
       have HOE : Hid (OwnL (quT J (From v0.heap.size)) (w.heap.size + 2) 95 6 wr (.slice (some ⟨g, 0, none⟩) s.queues.length d2) (tg (k + 1) s.queues)) := Lib.hid (by
         refine flux_out HA.out (HOF.out.keep HGm.out (fun q e e2 => by
           have h1 := (hgo _ e2).1
           have : g = q := by simpa [Value.ownBlock] using e
           omega) ?_) (fun x vs h => h.mono (fun b e => e.1)) ?_
         · intro x vs h
           obtain ⟨x, t⟩ := x
           cases t with
           | true => exact h
           | false => exact quT.keep (show quT J _ w3 x vs from h) HGm.out (fun b e e2 => by have := hJb b e; have := (hgo b e2).1; omega) (fun b e e2 => by have := (hgo b e2).1; have := e.2; omega)
         · rintro vs rfl
           obtain ⟨A9, c9, e9, h91, h92, h93⟩ := HOM9.out.rd
           exact ⟨_, rfl, ⟨A9, c9, e9, h91, h92, h93.mono (fun b e => by have h1 := (hgo b e).1; exact Nat.le_trans (by omega) h1) (fun a vs _ h => h.mono (fun b e => by have : w3.heap.size ≤ b := e; exact Nat.le_trans (by omega) this))⟩, HBD.out, hl5⟩)
       have HGE : Hid (Chg (fun b => (Value.slice (some ⟨g, 0, none⟩) s.queues.length d2).ownBlock = some b) v0 wr) := Lib.hid ((HGr.out.trans_same (HG3.out.mono (fun x e => by subst e; rfl))).then_new HGm.out (fun x e => by have := (hgo x e).1; omega))
       go_wp2_with fail
       exact ⟨⟨k + 1, by omega, by simp, HOE, HGE⟩, by simp [intOf]; omega⟩
    ·obtain rfl : k = s.queues.length := by omega
     have hltd : decide ((s.queues.length : Int) < (s.queues.length : Int)) = false := by simp
     have HBe := Lib.hid (blk_keep HB1d.out HGr.out (fun e => by have := (HQ0.out.ge e).1; omega))
     have hgo2 : ∀ g, (Value.slice R2 s.queues.length d2).ownBlock = some g → w.heap.size + 2 ≤ g ∧ g < v0.heap.size := fun g e => HQ0.out.ge e
     have y0 := blk_cell HBr.out 0 (v := .int .i64 s.frames) rfl
     have y1 := blk_cell HBr.out 1 (v := .slice R1 s.parts.length d1) rfl
     have y2 := blk_cell HBr.out 2 (v := .slice R2 s.queues.length d2) rfl
     go_wp2_with (refine sel none (.store 30 (.tmp 2) (.tmp 68)) ?_
                  refine wpList_store_rowA rfl 30 (.tmp 2) (.tmp 68) rfl (w.heap.size + 1) #[.int .i64 s.frames, .slice R1 s.parts.length d1, .slice R2 s.queues.length d2] rfl rfl 30 _ HBe.out (by kernel_rfl) rfl (by simp [Value.oneCell']) ?_
                  intro W hgW hbW)
     have hA : Chg (fun b => b = w.heap.size + 1 ∨ (Value.slice R2 s.queues.length d2).ownBlock = some b) v0 W := (HGr.out.mono (fun x e => .inr e)).trans_same (hgW.mono (fun x e => .inl e))
     refine bodyPost_ret (res_c Tryz.results45 _ _ (w.heap.size + 1) 30 _ (0, 0) _ rfl hbW Tryz.underlying30 rfl (by kernel_rfl)) (by kernel_rfl) ⟨_, _, rfl, ⟨?_, ?_⟩, ⟨wp0, hwp1, hR1, ?_⟩, HG4.out.then_new hA (fun x e => ?_)⟩
     ·refine OwnL.mono ((HP9.out.keep hA (fun g e e2 => ?_) (fun a vs h => h.keep hA (fun b e e2 => ?_))).base (by omega)) (fun a vs h => h.mono (fun b e => e.1))
      ·have h1 := HP9.out.ge e
       have h2 := hR1 g e
       rcases e2 with e2 | e2
       ·omega
       ·have := hR2 g e2; omega
      ·rcases e2 with e2 | e2
       ·have := e.2.1; omega
       ·have := hR2 b e2; have := e.2.2; omega
     ·refine OwnL.mono (R := quV (From v0.heap.size)) ((OwnL.keep (tg_all HO.out (fun a vs h => h)) hgW (fun g e e2 => by have := (hgo2 g e).1; omega) (fun a vs h => h.keep hgW (fun b e e2 => by have : v0.heap.size ≤ b := e; omega))).base (by omega)) (fun a vs h => h.mono (fun b e => ⟨?_, fun e2 => ?_⟩))
      ·have : v0.heap.size ≤ b := e
       omega
      ·have : v0.heap.size ≤ b := e
       have := (hgo2 b e2).2
       omega
     ·have hOq := OwnL.keep (tg_all (R' := quV (From v0.heap.size)) HO.out (fun a vs h => h)) hgW (fun g e e2 => by have := (hgo2 g e).1; omega) (fun a vs h => h.keep hgW (fun b e e2 => by have : v0.heap.size ≤ b := e; omega))
      obtain ⟨Aq, cq, eq, eq1, eq2, eq3⟩ := hOq.rd
      exact ⟨Aq, cq, eq, eq1, eq2, eq3.mono (fun b e => hR2 b e) (fun a vs _ h => h.mono (fun b e => by have : v0.heap.size ≤ b := e; show wp0 ≤ b; omega))⟩
     ·rcases e with e | e
      ·omega
      ·have := (hgo2 x e).1; omega
end
section
open Go.RowKit
def opsC : Array Value := #[.nilFunc, .nilFunc, .nilFunc, .nilFunc, .nilFunc, .func (.func 241) #[] #[], .nilFunc, .func (.func 242) #[] #[], .func (.func 248) #[] #[], .nilFunc, .func (.func 249) #[] #[], .nilFunc, .func (.func 250) #[] #[], .nilFunc, .func (.func 251) #[] #[], .nilFunc, .func (.func 252) #[] #[], .nilFunc, .func (.func 253) #[] #[], .nilFunc, .func (.func 254) #[] #[], .nilFunc, .func (.func 255) #[] #[], .nilFunc, .func (.func 256) #[] #[], .nilFunc, .nilFunc, .func (.func 243) #[] #[], .nilFunc, .func (.func 244) #[] #[], .nilFunc, .func (.func 245) #[] #[], .nilFunc, .func (.func 246) #[] #[], .nilFunc, .nilFunc, .nilFunc, .nilFunc, .nilFunc, .nilFunc, .nilFunc, .nilFunc, .nilFunc, .func (.func 247) #[] #[]]
def opsZ : Array Value := #[.nilFunc, .nilFunc, .nilFunc, .nilFunc, .nilFunc, .nilFunc, .nilFunc, .nilFunc, .nilFunc, .nilFunc, .nilFunc, .nilFunc, .nilFunc, .nilFunc, .nilFunc, .nilFunc, .nilFunc, .nilFunc, .nilFunc, .nilFunc, .nilFunc, .nilFunc, .nilFunc, .nilFunc, .nilFunc, .nilFunc, .nilFunc, .nilFunc, .nilFunc, .nilFunc, .nilFunc, .nilFunc, .nilFunc, .nilFunc, .nilFunc, .nilFunc, .nilFunc, .nilFunc, .nilFunc, .nilFunc, .nilFunc, .nilFunc, .nilFunc, .nilFunc]
set_option maxRecDepth 100000 in
theorem ops_ok (w : World) : Calls Tryz.prog 235 #[] w fun e w' => e = .returned (.agg opsC) ∧ Chg Non w w' := by
 go_enter Tryz.func235, Tryz.ntmps235
 go_wp2_with (first
   | (refine sel none (.store _ (.tmp 0) (.tmp 17)) ?_; refine Vm_stop ?_))
 refine HoleV.mk ?_
 refine wpList_store_rowA rfl 323 (.tmp 0) (.tmp 17) rfl w.heap.size opsC rfl rfl 323 opsZ (heap_alloc_new w _) (by kernel_rfl) rfl (by simp [opsC, Value.oneCell']) ?_
 intro W hgW hbW
 have HBW := Lib.hid hbW
 have HG := Lib.hid (((Chg.refl Non w).alloc (.cells opsZ 323)).then_new hgW (fun x e => by omega))
 clear hbW hgW
 go_wp2_with fail
 exact bodyPost_ret (results_cell_row Tryz.results235 _ _ w.heap.size 323 opsC (0, 0) _ rfl HBW.out Tryz.underlying323 rfl (by kernel_rfl)) rfl ⟨rfl, HG.out⟩
end
section
open Go.RowKit
def RetStep (w : World) (q : Pt) (call er : Int) (e : Ending) (w' : World) : Prop :=
 ∃ A' c', e = .returned (.tuple #[.agg (partC q (.slice A' q.mem.length c')), .int .i64 call, .int .i64 er]) ∧ q.mem.length ≤ c' ∧ c' ≤ maxLen ∧ Own w.heap.size w' A' q.mem ∧ Chg Non w w'
structure StS (w W : World) (p : Pt) (A : Option Addr) (c : Nat) : Prop where
 pb : PartB W w.heap.size p (.slice A p.mem.length c)
 rb : W.heap[w.heap.size + 1]? = some (.cells zeroPart 69 (0, 0))
 own : Own (w.heap.size + 2) W A p.mem
 chg : Chg Non w W
 h1 : p.mem.length ≤ c
 h2 : c ≤ maxLen
theorem StS.non {w W W' : World} {p : Pt} {A : Option Addr} {c : Nat} (h : StS w W p A c) (hg : Chg Non W W') : StS w W' p A c :=
 ⟨h.pb.non hg, blockN hg h.rb, h.own.non hg, h.chg.then_non hg, h.h1, h.h2⟩
theorem StS.at {w W W' : World} {p q : Pt} {A : Option Addr} {c : Nat} (h : StS w W p A c) (hg : Chg (fun k => k = w.heap.size) W W') (hq : PartB W' w.heap.size q (.slice A p.mem.length c)) (hm : q.mem = p.mem) : StS w W' q A c :=
 ⟨by rw [hm]; exact hq, blockS h.rb hg (by omega), by rw [hm]; exact h.own.keep hg (fun b o e1 e2 e3 e4 => by omega), h.chg.then_new hg (fun x e => by omega), by rw [hm]; exact h.h1, h.h2⟩
theorem StS.mem {w W W' : World} {p : Pt} {A A2 : Option Addr} {c c2 : Nat} {l : List UInt8} (h : StS w W p A c) (hg : Chg (fun k => k = w.heap.size) W W') (hq : PartB W' w.heap.size p (.slice A2 l.length c2)) (h1 : l.length ≤ c2) (h2 : c2 ≤ maxLen) (ho : Own (w.heap.size + 2) W' A2 l) : StS w W' { p with mem := l } A2 c2 :=
 ⟨⟨hq.out, hq.len⟩, blockS h.rb hg (by omega), ho, h.chg.then_new hg (fun x e => by omega), h1, h2⟩
theorem results_ctt {P : Program} {fn : Func} {p q q2 : Tmp} {ty : TypeId} (h : fn.results = #[.cell p ty, .tmp q, .tmp q2]) (tmps : Array Value) (w : World) (g : Nat) (t : TypeId) (cs : Array Value) (fr : Nat × Nat) (d : TypeDesc) (v v2 : Value)
  (hp : tmps.getD p undef = .pointer (some ⟨g, 0, none⟩)) (hv : tmps.getD q undef = v) (hv2 : tmps.getD q2 undef = v2) (hg : w.heap[g]? = some (.cells cs t fr))
  (hu : P.underlying ty = some d) (hd : (match d with | .struct _ | .array _ _ => true | _ => false) = true) (hi : (P.info? ty).map (·.size) = some cs.size) :
  (results fn tmps).run P w = .ok (.tuple #[.agg cs, v, v2]) w := by
 have hp' : tmps[p]?.getD undef = .pointer (some ⟨g, 0, none⟩) := by simpa using hp
 have hv' : tmps[q]?.getD undef = v := by simpa using hv
 have hv2' : tmps[q2]?.getD undef = v2 := by simpa using hv2
 simp [results, h, hp', hv', hv2', asAddr, run_loadVar_row w g t ty cs fr d hg hu hd hi]
set_option maxRecDepth 100000 in
theorem step_stop (p : Pt) (A : Option Addr) (c : Nat) (w : World) (hb : p.Bd) (hr : Rd w A p.mem) (hl : p.mem.length ≤ 140737488355328) (hs : p.st ≠ 0) :
  Calls Tryz.prog 230 #[.agg (partC p (.slice A p.mem.length c))] w (RetStep w (p) (-1) (2)) := by
 have h8 := hb.r8
 have HBd := Lib.hid hb
 obtain ⟨C, hC⟩ : ∃ C, partC p (.slice A p.mem.length c) = C := ⟨_, rfl⟩
 have hsz : C.size = 14 := by rw [← hC]; exact partC_size h8 _
 have hcp := fun W hrW => Copy_ok p A p.mem c W h8 hrW hl
 rw [hC] at hcp ⊢
 have HCp := Lib.hid hcp
 have HR := Lib.hid hr
 clear hcp hC hr hb
 go_enter Tryz.func230, Tryz.ntmps230
 go_wp2_with (first
   | (refine sel (some 8) (.load _ (.tmp 1)) ?_; refine Vm_stop ?_))
 refine HoleV.mk ?_
 refine wpList_load_row rfl 69 (.tmp 1) rfl w.heap.size rfl 69 C (0, 0) _ (al_2_0 w _ _) Tryz.underlying69 rfl (by rw [hsz]; exact info_part) ?_
 go_wp2_with fail
 refine (HCp.out _ (HR.out.non (((Chg.refl Non w).alloc _).alloc _))).mono ?_
 rintro e w1 ⟨A2, c2, rfl, q1, q2, q3, q4⟩
 have hbx := blockN q4 (al_2_0 w (.cells C 69) (.cells zeroPart 69))
 have HBy := Lib.hid (blockN q4 (al_2_1 w (.cells C 69) (.cells zeroPart 69)))
 have HO := Lib.hid (q3.mono (show w.heap.size + 2 ≤ _ by simp))
 have HG := Lib.hid ((((Chg.refl Non w).alloc _).alloc _).then_non q4)
 clear q3 q4
 go_wp2_with (first
   | (refine sel none (.store _ (.tmp 1) (.tmp 9)) ?_; refine Vm_stop ?_))
 refine HoleV.mk ?_
 refine wpList_store_rowA rfl 69 (.tmp 1) (.tmp 9) rfl w.heap.size (partC p (.slice A2 p.mem.length c2)) rfl rfl 69 C hbx (by rw [partC_size h8]; exact info_part) (by rw [partC_size h8, hsz]) (partC_one _ _ rfl) ?_
 intro w2 hg2 hb2
 have hst0 : StS w w2 p A2 c2 := ⟨⟨hb2, h8⟩, blockS HBy.out hg2 (by omega), HO.out.keep hg2 (fun b o e1 e2 e3 e4 => by omega), HG.out.then_new hg2 (fun x e => by omega), q1, q2⟩
 have HS := Lib.hid hst0
 have c12 := hst0.pb.cells.2.2.2.2.1
 clear hg2 hb2 hst0 hbx
 have hsb : ((p.st : Int) != 0) = true := by rw [bne_iff_ne]; omega
 go_wp2_with (first
   | (refine sel (some 13) (.load _ (.tmp 1)) ?_; refine Vm_stop ?_))
 refine HoleV.mk ?_
 refine wpList_load_row rfl 69 (.tmp 1) rfl w.heap.size rfl 69 _ (0, 0) _ HS.out.pb.out Tryz.underlying69 rfl (by rw [partC_size HS.out.pb.len]; exact info_part) ?_
 go_wp2_with (first
   | (refine sel none (.store _ (.tmp 2) (.tmp 13)) ?_; refine Vm_stop ?_))
 refine HoleV.mk ?_
 refine wpList_store_rowA rfl 69 (.tmp 2) (.tmp 13) rfl (w.heap.size + 1) _ rfl rfl 69 zeroPart HS.out.rb (by rw [partC_size HS.out.pb.len]; exact info_part) (by rw [partC_size HS.out.pb.len]; rfl) (partC_one _ _ rfl) ?_
 intro WR hgR hbR
 have HBR := Lib.hid hbR
 have HGR := Lib.hid hgR
 clear hbR hgR
 go_wp2_with fail
 refine bodyPost_ret (results_ctt Tryz.results230 _ _ (w.heap.size + 1) 69 _ (0, 0) _ (.int .i64 (-1)) (.int .i64 (2)) rfl rfl rfl HBR.out Tryz.underlying69 rfl (by rw [partC_size HS.out.pb.len]; exact info_part)) rfl ?_
 exact ⟨_, _, rfl, HS.out.h1, HS.out.h2, (HS.out.own.keep HGR.out (fun b o e1 e2 e3 e4 => by omega)).mono (by omega), HS.out.chg.then_new HGR.out (fun x e => by omega)⟩
end
end Go.Proofs.YtmnaleaghfbclaaGreatDoor
