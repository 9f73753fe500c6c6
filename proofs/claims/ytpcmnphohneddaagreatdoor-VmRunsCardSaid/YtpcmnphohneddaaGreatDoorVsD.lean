/- The document's answer of layer 20 (citadelref20): Step, shifts, less, set, high, mov, the others. (Written by wip/gen_vog.py.) -/
import Derived.Test.YtpcmnphohneddaaGreatDoorVsB
namespace Go.Proofs.YtpcmnphohneddaaGreatDoor
open Go.RowKit
set_option linter.unusedVariables false

set_option maxRecDepth 100000 in
set_option maxHeartbeats 8000000 in
theorem rStep_10 (p : Pt) (A : Option Addr) (c : Nat) (w : World) (hb : p.Bd) (hr : Rd w A p.mem) (hl : p.mem.length ≤ 1000000) (hs : p.st = 0) (ht : there p.mem p.pc 4 = true) (f0 f1 f2 f3 : UInt8) (hcut : cut p.mem p.pc 4 = [f0, f1, f2, f3]) (a b2 cc n : Nat) (hd : decI f0.toNat f1.toNat f2.toNat f3.toNat = ⟨10, a, b2, cc, (n : Nat)⟩) (hm : mayB ⟨10, a, b2, cc, (n : Nat)⟩ = true) :
    Calls Tryz.prog 10 #[.agg (partC p (.slice A p.mem.length c))] w (RetStep w ({ p.set a (mk2 10 (p.g b2) (p.g cc)) with pc := (p.pc + 4) % 4294967296 }) (-1) (0)) := by
  have hx1 := may_bd hm
  have ha8 : a < 8 := hx1.2.1
  have hb8 : b2 < 8 := hx1.2.2.1
  have hc8 : cc < 8 := hx1.2.2.2.1
  have hn16 : n < 65536 := hx1.2.2.2.2
  have HBd := Lib.hid hb
  obtain ⟨pv, hpv⟩ : ∃ pv, (p.pc + 4) % 4294967296 = pv := ⟨_, rfl⟩
  have HPc : Hid (((p.pc : Int) + 4) % 4294967296 = pv) := Lib.hid (by omega)
  rw [hpv]
  clear hpv
  obtain ⟨rb, hrb⟩ : ∃ rb, p.g b2 = rb := ⟨_, rfl⟩
  obtain ⟨rc, hrc⟩ : ∃ rc, p.g cc = rc := ⟨_, rfl⟩
  obtain ⟨ra, hra⟩ : ∃ ra, p.g a = ra := ⟨_, rfl⟩
  have HRb := Lib.hid hrb
  have HRc := Lib.hid hrc
  have HRa := Lib.hid hra
  rw [hrb, hrc]
  obtain ⟨mv, hmv⟩ : ∃ mv, mk2 10 rb rc = mv := ⟨_, rfl⟩
  rw [hmv]
  have HMv := Lib.hid hmv
  clear hmv
  clear hrb hrc hra
  refine rHead p A c w hb hr hl hs ht f0 f1 f2 f3 hcut 10 a b2 cc n hd hm _ ?_
  clear hd hm ht hcut hs hr hl hx1
  intro cd hcd T b ob A2 c2 v hT h12
  have j0 : ((opAt 10).name == [106, 109, 112]) = false := by decide +kernel
  have j1 : ((opAt 10).name == [106, 122]) = false := by decide +kernel
  have j2 : ((opAt 10).name == [106, 110, 122]) = false := by decide +kernel
  have s0 : ((opAt 10).name == [115, 101, 116]) = false := by decide +kernel
  have s1 : ((opAt 10).name == [104, 105, 103, 104]) = false := by decide +kernel
  have s2 : ((opAt 10).name == [109, 111, 118]) = false := by decide +kernel
  have s3 : ((opAt 10).name == [97, 100, 100]) = false := by decide +kernel
  have s4 : ((opAt 10).name == [115, 117, 98]) = false := by decide +kernel
  have s5 : ((opAt 10).name == [109, 117, 108]) = false := by decide +kernel
  have s6 : ((opAt 10).name == [97, 110, 100]) = false := by decide +kernel
  have s7 : ((opAt 10).name == [111, 114]) = false := by decide +kernel
  have s8 : ((opAt 10).name == [120, 111, 114]) = false := by decide +kernel
  have s9 : ((opAt 10).name == [115, 104, 108]) = true := by decide +kernel
  obtain ⟨N, hN⟩ : ∃ N, (opAt 10).name = N := ⟨_, rfl⟩
  rw [hN] at hT j0 j1 j2 s0 s1 s2 s3 s4 s5 s6 s7 s8 s9
  clear hN
  refine rMid p w hb 10 a b2 cc n rb rc ha8 hb8 hc8 hn16 HRb.out HRc.out _ N j0 j1 j2 ?_ cd hcd T b ob A2 c2 v hT h12
  clear hcd hT h12 cd T b ob A2 c2 v j0 j1 j2
  intro cd hcd T b ob A2 c2 x hT h12
  have HS5 := Lib.hid h12.st
  have HX5 := Lib.hid h12.x
  have hobb := h12.lt
  obtain ⟨⟨z, o0, o1, o2, o3, o4⟩, _⟩ := (Blk5.mk h12.x).all
  have hlt := h12.st.pb.lt
  have hrb32 : rb < 4294967296 := by rw [← HRb.out]; exact hb.rb b2
  have hrc32 : rc < 4294967296 := by rw [← HRc.out]; exact hb.rb cc
  have hai : (a : Int) < 8 := by omega
  have wrn : IntKind.i64.wrap ((rb : Int) + (n : Int)) = (rb : Int) + (n : Int) := Go.IntWalk.i64_in _ (by omega)
  have wr0 : IntKind.i64.wrap (rb : Int) = (rb : Int) := Go.IntWalk.i64_in _ (by omega)
  clear h12 hb
  generalize (fun i => T.getD i undef) = y at hT
  subst hT
  refine rest_of hcd rfl ?_
  clear hcd cd
  simp only [slots16]
  have hf3 := HS5.out.pb.frozen (3 + a)
  have hga := HS5.out.pb.reg a ha8
  have hmv := HMv.out
  have hmv32 : mv < 4294967296 := by rw [← hmv]; exact mk2_lt 10 rb rc hrb32 hrc32
  rw [mk2_10] at hmv
  obtain ⟨s, hs⟩ : ∃ s, rc % 32 = s := ⟨_, rfl⟩
  have hsi : (rc : Int) % 32 = (s : Int) := by omega
  have hs32 : s < 32 := by omega
  have hmv0 : rb * 2 ^ s % 4294967296 = mv := by rw [← hs]; exact hmv
  have HMv0 := Lib.hid hmv0
  clear hmv hmv0 hs
  go_wp2_with fail
  go_loopw [11, 16] (fun vv i wr => ∃ j : Nat, j ≤ s ∧ i = .int .u64 j ∧ vv = .int .u64 (rb * 2 ^ j % 4294967296 : Nat) ∧ x = wr) (fun _ i _ => s - (intOf i).toNat)
  case atStart => exact ⟨0, by omega, rfl, by rw [show rb * 2 ^ 0 % 4294967296 = rb by rw [Nat.pow_zero, Nat.mul_one]; exact Nat.mod_eq_of_lt hrb32], rfl⟩
  case round =>
    obtain ⟨j, hj, rfl, rfl, rfl⟩ := hrel
    obtain ⟨X, hX⟩ : ∃ X, rb * 2 ^ j % 4294967296 = X := ⟨_, rfl⟩
    have hX32 : X < 4294967296 := by rw [← hX]; exact Nat.mod_lt _ (by omega)
    by_cases hjs : j < s
    · obtain ⟨Y, hY⟩ : ∃ Y, rb * 2 ^ (j + 1) % 4294967296 = Y := ⟨_, rfl⟩
      have hXY : X * 2 % 4294967296 = Y := by
        rw [← hX, ← hY, Nat.pow_succ]
        rw [Nat.mod_mul_mod, Nat.mul_assoc]
      have hv1 : (X : Int) * 2 % 4294967296 = (Y : Int) := by omega
      have HY := Lib.hid hY
      have hjd : decide ((j : Int) < (s : Int)) = true := by simpa using hjs
      rw [hX]
      clear hX hY hXY
      go_wp2_with fail
      case roundEnd => exact ⟨⟨j + 1, by omega, by go_num, by rw [HY.out, ← hv1], trivial⟩, by simp [intOf]; omega⟩
    · obtain rfl : j = s := by omega
      have hjd : decide ((j : Int) < (j : Int)) = false := by simp
      rw [HMv0.out] at hX ⊢
      subst hX
      have HS7b := Lib.hid (HS5.out.at (setAt _ b (3 + a) (.int .u32 (mv : Nat))) (HS5.out.pb.setReg a mv ha8) rfl)
      have hpcv := HPc.out
      have hc11 : World.cell? _ ⟨b, 11, none⟩ = some (.int .u32 (p.pc : Nat)) := HS7b.out.pb.cells.2.2.2.1
      have hlt7 := HS7b.out.pb.lt
      have hf7 := HS7b.out.pb.frozen 11
      have HS8 := Lib.hid (HS7b.out.at (setAt _ b 11 (.int .u32 (pv : Nat))) (HS7b.out.pb.setPc pv) rfl)
      go_wp2_with (first
        | (refine sel (some 357) (.load _ (.tmp 5)) ?_; refine Vm_stop ?_))
      refine HoleV.mk ?_
      refine wpList_load_row rfl 26 (.tmp 5) rfl b rfl 26 _ (0, 0) _ HS8.out.pb.out Tryz.underlying26 rfl (by rw [partC_size HS8.out.pb.len]; exact info_part) ?_
      go_wp2_with (first
        | (refine sel none (.store _ (.tmp 2) (.tmp 357)) ?_; refine Vm_stop ?_))
      refine HoleV.mk ?_
      refine wpList_store_rowA rfl 26 (.tmp 2) (.tmp 357) rfl (w.heap.size + 1) _ rfl rfl 26 zeroPart HS8.out.rb (by rw [partC_size HS8.out.pb.len]; exact info_part) (by rw [partC_size HS8.out.pb.len]; rfl) (partC_one _ _ rfl) ?_
      intro WR hgR hbR
      have HBR := Lib.hid hbR
      have HGR := Lib.hid hgR
      clear hbR hgR
      go_wp2_with fail
      refine bodyPost_ret (results_ctt Tryz.results10 _ _ (w.heap.size + 1) 26 _ (0, 0) _ (.int .i64 (-1)) (.int .i64 (0)) rfl rfl rfl HBR.out Tryz.underlying26 rfl (by rw [partC_size HS8.out.pb.len]; exact info_part)) rfl ?_
      exact ⟨_, _, rfl, HS8.out.h1, HS8.out.h2, (HS8.out.own.keep HGR.out (fun b o e1 e2 e3 e4 => by omega)).mono (by omega), HS8.out.chg.then_new HGR.out (fun x e => by omega)⟩
set_option maxRecDepth 100000 in
set_option maxHeartbeats 8000000 in
theorem rStep_11 (p : Pt) (A : Option Addr) (c : Nat) (w : World) (hb : p.Bd) (hr : Rd w A p.mem) (hl : p.mem.length ≤ 1000000) (hs : p.st = 0) (ht : there p.mem p.pc 4 = true) (f0 f1 f2 f3 : UInt8) (hcut : cut p.mem p.pc 4 = [f0, f1, f2, f3]) (a b2 cc n : Nat) (hd : decI f0.toNat f1.toNat f2.toNat f3.toNat = ⟨11, a, b2, cc, (n : Nat)⟩) (hm : mayB ⟨11, a, b2, cc, (n : Nat)⟩ = true) :
    Calls Tryz.prog 10 #[.agg (partC p (.slice A p.mem.length c))] w (RetStep w ({ p.set a (mk2 11 (p.g b2) (p.g cc)) with pc := (p.pc + 4) % 4294967296 }) (-1) (0)) := by
  have hx1 := may_bd hm
  have ha8 : a < 8 := hx1.2.1
  have hb8 : b2 < 8 := hx1.2.2.1
  have hc8 : cc < 8 := hx1.2.2.2.1
  have hn16 : n < 65536 := hx1.2.2.2.2
  have HBd := Lib.hid hb
  obtain ⟨pv, hpv⟩ : ∃ pv, (p.pc + 4) % 4294967296 = pv := ⟨_, rfl⟩
  have HPc : Hid (((p.pc : Int) + 4) % 4294967296 = pv) := Lib.hid (by omega)
  rw [hpv]
  clear hpv
  obtain ⟨rb, hrb⟩ : ∃ rb, p.g b2 = rb := ⟨_, rfl⟩
  obtain ⟨rc, hrc⟩ : ∃ rc, p.g cc = rc := ⟨_, rfl⟩
  obtain ⟨ra, hra⟩ : ∃ ra, p.g a = ra := ⟨_, rfl⟩
  have HRb := Lib.hid hrb
  have HRc := Lib.hid hrc
  have HRa := Lib.hid hra
  rw [hrb, hrc]
  obtain ⟨mv, hmv⟩ : ∃ mv, mk2 11 rb rc = mv := ⟨_, rfl⟩
  rw [hmv]
  have HMv := Lib.hid hmv
  clear hmv
  clear hrb hrc hra
  refine rHead p A c w hb hr hl hs ht f0 f1 f2 f3 hcut 11 a b2 cc n hd hm _ ?_
  clear hd hm ht hcut hs hr hl hx1
  intro cd hcd T b ob A2 c2 v hT h12
  have j0 : ((opAt 11).name == [106, 109, 112]) = false := by decide +kernel
  have j1 : ((opAt 11).name == [106, 122]) = false := by decide +kernel
  have j2 : ((opAt 11).name == [106, 110, 122]) = false := by decide +kernel
  have s0 : ((opAt 11).name == [115, 101, 116]) = false := by decide +kernel
  have s1 : ((opAt 11).name == [104, 105, 103, 104]) = false := by decide +kernel
  have s2 : ((opAt 11).name == [109, 111, 118]) = false := by decide +kernel
  have s3 : ((opAt 11).name == [97, 100, 100]) = false := by decide +kernel
  have s4 : ((opAt 11).name == [115, 117, 98]) = false := by decide +kernel
  have s5 : ((opAt 11).name == [109, 117, 108]) = false := by decide +kernel
  have s6 : ((opAt 11).name == [97, 110, 100]) = false := by decide +kernel
  have s7 : ((opAt 11).name == [111, 114]) = false := by decide +kernel
  have s8 : ((opAt 11).name == [120, 111, 114]) = false := by decide +kernel
  have s9 : ((opAt 11).name == [115, 104, 108]) = false := by decide +kernel
  have s10 : ((opAt 11).name == [115, 104, 114]) = true := by decide +kernel
  obtain ⟨N, hN⟩ : ∃ N, (opAt 11).name = N := ⟨_, rfl⟩
  rw [hN] at hT j0 j1 j2 s0 s1 s2 s3 s4 s5 s6 s7 s8 s9 s10
  clear hN
  refine rMid p w hb 11 a b2 cc n rb rc ha8 hb8 hc8 hn16 HRb.out HRc.out _ N j0 j1 j2 ?_ cd hcd T b ob A2 c2 v hT h12
  clear hcd hT h12 cd T b ob A2 c2 v j0 j1 j2
  intro cd hcd T b ob A2 c2 x hT h12
  have HS5 := Lib.hid h12.st
  have HX5 := Lib.hid h12.x
  have hobb := h12.lt
  obtain ⟨⟨z, o0, o1, o2, o3, o4⟩, _⟩ := (Blk5.mk h12.x).all
  have hlt := h12.st.pb.lt
  have hrb32 : rb < 4294967296 := by rw [← HRb.out]; exact hb.rb b2
  have hrc32 : rc < 4294967296 := by rw [← HRc.out]; exact hb.rb cc
  have hai : (a : Int) < 8 := by omega
  have wrn : IntKind.i64.wrap ((rb : Int) + (n : Int)) = (rb : Int) + (n : Int) := Go.IntWalk.i64_in _ (by omega)
  have wr0 : IntKind.i64.wrap (rb : Int) = (rb : Int) := Go.IntWalk.i64_in _ (by omega)
  clear h12 hb
  generalize (fun i => T.getD i undef) = y at hT
  subst hT
  refine rest_of hcd rfl ?_
  clear hcd cd
  simp only [slots16]
  have hf3 := HS5.out.pb.frozen (3 + a)
  have hga := HS5.out.pb.reg a ha8
  have hmv := HMv.out
  have hmv32 : mv < 4294967296 := by rw [← hmv]; exact mk2_lt 11 rb rc hrb32 hrc32
  rw [mk2_11] at hmv
  obtain ⟨s, hs⟩ : ∃ s, rc % 32 = s := ⟨_, rfl⟩
  have hsi : (rc : Int) % 32 = (s : Int) := by omega
  have hs32 : s < 32 := by omega
  have hmv0 : rb / 2 ^ s = mv := by rw [← hs]; exact hmv
  have HMv0 := Lib.hid hmv0
  clear hmv hmv0 hs
  go_wp2_with fail
  go_loopw [11, 17] (fun vv i wr => ∃ j : Nat, j ≤ s ∧ i = .int .u64 j ∧ vv = .int .u64 (rb / 2 ^ j : Nat) ∧ x = wr) (fun _ i _ => s - (intOf i).toNat)
  case atStart => exact ⟨0, by omega, rfl, by rw [show rb / 2 ^ 0 = rb by simp], rfl⟩
  case round =>
    obtain ⟨j, hj, rfl, rfl, rfl⟩ := hrel
    obtain ⟨X, hX⟩ : ∃ X, rb / 2 ^ j = X := ⟨_, rfl⟩
    have hX32 : X < 4294967296 := by rw [← hX]; exact Nat.lt_of_le_of_lt (Nat.div_le_self _ _) hrb32
    by_cases hjs : j < s
    · obtain ⟨Y, hY⟩ : ∃ Y, rb / 2 ^ (j + 1) = Y := ⟨_, rfl⟩
      have hXY : X / 2 = Y := by
        rw [← hX, ← hY, Nat.pow_succ]
        rw [Nat.div_div_eq_div_mul]
      have hv1 : (X : Int) / 2 = (Y : Int) := by omega
      have HY := Lib.hid hY
      have hjd : decide ((j : Int) < (s : Int)) = true := by simpa using hjs
      rw [hX]
      clear hX hY hXY
      go_wp2_with fail
      case roundEnd => exact ⟨⟨j + 1, by omega, by go_num, by rw [HY.out, ← hv1], trivial⟩, by simp [intOf]; omega⟩
    · obtain rfl : j = s := by omega
      have hjd : decide ((j : Int) < (j : Int)) = false := by simp
      rw [HMv0.out] at hX ⊢
      subst hX
      have HS7b := Lib.hid (HS5.out.at (setAt _ b (3 + a) (.int .u32 (mv : Nat))) (HS5.out.pb.setReg a mv ha8) rfl)
      have hpcv := HPc.out
      have hc11 : World.cell? _ ⟨b, 11, none⟩ = some (.int .u32 (p.pc : Nat)) := HS7b.out.pb.cells.2.2.2.1
      have hlt7 := HS7b.out.pb.lt
      have hf7 := HS7b.out.pb.frozen 11
      have HS8 := Lib.hid (HS7b.out.at (setAt _ b 11 (.int .u32 (pv : Nat))) (HS7b.out.pb.setPc pv) rfl)
      go_wp2_with (first
        | (refine sel (some 357) (.load _ (.tmp 5)) ?_; refine Vm_stop ?_))
      refine HoleV.mk ?_
      refine wpList_load_row rfl 26 (.tmp 5) rfl b rfl 26 _ (0, 0) _ HS8.out.pb.out Tryz.underlying26 rfl (by rw [partC_size HS8.out.pb.len]; exact info_part) ?_
      go_wp2_with (first
        | (refine sel none (.store _ (.tmp 2) (.tmp 357)) ?_; refine Vm_stop ?_))
      refine HoleV.mk ?_
      refine wpList_store_rowA rfl 26 (.tmp 2) (.tmp 357) rfl (w.heap.size + 1) _ rfl rfl 26 zeroPart HS8.out.rb (by rw [partC_size HS8.out.pb.len]; exact info_part) (by rw [partC_size HS8.out.pb.len]; rfl) (partC_one _ _ rfl) ?_
      intro WR hgR hbR
      have HBR := Lib.hid hbR
      have HGR := Lib.hid hgR
      clear hbR hgR
      go_wp2_with fail
      refine bodyPost_ret (results_ctt Tryz.results10 _ _ (w.heap.size + 1) 26 _ (0, 0) _ (.int .i64 (-1)) (.int .i64 (0)) rfl rfl rfl HBR.out Tryz.underlying26 rfl (by rw [partC_size HS8.out.pb.len]; exact info_part)) rfl ?_
      exact ⟨_, _, rfl, HS8.out.h1, HS8.out.h2, (HS8.out.own.keep HGR.out (fun b o e1 e2 e3 e4 => by omega)).mono (by omega), HS8.out.chg.then_new HGR.out (fun x e => by omega)⟩
set_option maxRecDepth 100000 in
set_option maxHeartbeats 8000000 in
theorem rStep_12 (p : Pt) (A : Option Addr) (c : Nat) (w : World) (hb : p.Bd) (hr : Rd w A p.mem) (hl : p.mem.length ≤ 1000000) (hs : p.st = 0) (ht : there p.mem p.pc 4 = true) (f0 f1 f2 f3 : UInt8) (hcut : cut p.mem p.pc 4 = [f0, f1, f2, f3]) (a b2 cc n : Nat) (hd : decI f0.toNat f1.toNat f2.toNat f3.toNat = ⟨12, a, b2, cc, (n : Nat)⟩) (hm : mayB ⟨12, a, b2, cc, (n : Nat)⟩ = true) :
    Calls Tryz.prog 10 #[.agg (partC p (.slice A p.mem.length c))] w (RetStep w ({ p.set a (mk2 12 (p.g b2) (p.g cc)) with pc := (p.pc + 4) % 4294967296 }) (-1) (0)) := by
  have hx1 := may_bd hm
  have ha8 : a < 8 := hx1.2.1
  have hb8 : b2 < 8 := hx1.2.2.1
  have hc8 : cc < 8 := hx1.2.2.2.1
  have hn16 : n < 65536 := hx1.2.2.2.2
  have HBd := Lib.hid hb
  obtain ⟨pv, hpv⟩ : ∃ pv, (p.pc + 4) % 4294967296 = pv := ⟨_, rfl⟩
  have HPc : Hid (((p.pc : Int) + 4) % 4294967296 = pv) := Lib.hid (by omega)
  rw [hpv]
  clear hpv
  obtain ⟨rb, hrb⟩ : ∃ rb, p.g b2 = rb := ⟨_, rfl⟩
  obtain ⟨rc, hrc⟩ : ∃ rc, p.g cc = rc := ⟨_, rfl⟩
  obtain ⟨ra, hra⟩ : ∃ ra, p.g a = ra := ⟨_, rfl⟩
  have HRb := Lib.hid hrb
  have HRc := Lib.hid hrc
  have HRa := Lib.hid hra
  rw [hrb, hrc]
  obtain ⟨mv, hmv⟩ : ∃ mv, mk2 12 rb rc = mv := ⟨_, rfl⟩
  rw [hmv]
  have HMv := Lib.hid hmv
  clear hmv
  clear hrb hrc hra
  refine rHead p A c w hb hr hl hs ht f0 f1 f2 f3 hcut 12 a b2 cc n hd hm _ ?_
  clear hd hm ht hcut hs hr hl hx1
  intro cd hcd T b ob A2 c2 v hT h12
  have j0 : ((opAt 12).name == [106, 109, 112]) = false := by decide +kernel
  have j1 : ((opAt 12).name == [106, 122]) = false := by decide +kernel
  have j2 : ((opAt 12).name == [106, 110, 122]) = false := by decide +kernel
  have s0 : ((opAt 12).name == [115, 101, 116]) = false := by decide +kernel
  have s1 : ((opAt 12).name == [104, 105, 103, 104]) = false := by decide +kernel
  have s2 : ((opAt 12).name == [109, 111, 118]) = false := by decide +kernel
  have s3 : ((opAt 12).name == [97, 100, 100]) = false := by decide +kernel
  have s4 : ((opAt 12).name == [115, 117, 98]) = false := by decide +kernel
  have s5 : ((opAt 12).name == [109, 117, 108]) = false := by decide +kernel
  have s6 : ((opAt 12).name == [97, 110, 100]) = false := by decide +kernel
  have s7 : ((opAt 12).name == [111, 114]) = false := by decide +kernel
  have s8 : ((opAt 12).name == [120, 111, 114]) = false := by decide +kernel
  have s9 : ((opAt 12).name == [115, 104, 108]) = false := by decide +kernel
  have s10 : ((opAt 12).name == [115, 104, 114]) = false := by decide +kernel
  have s11 : ((opAt 12).name == [108, 101, 115, 115]) = true := by decide +kernel
  obtain ⟨N, hN⟩ : ∃ N, (opAt 12).name = N := ⟨_, rfl⟩
  rw [hN] at hT j0 j1 j2 s0 s1 s2 s3 s4 s5 s6 s7 s8 s9 s10 s11
  clear hN
  refine rMid p w hb 12 a b2 cc n rb rc ha8 hb8 hc8 hn16 HRb.out HRc.out _ N j0 j1 j2 ?_ cd hcd T b ob A2 c2 v hT h12
  clear hcd hT h12 cd T b ob A2 c2 v j0 j1 j2
  intro cd hcd T b ob A2 c2 x hT h12
  have HS5 := Lib.hid h12.st
  have HX5 := Lib.hid h12.x
  have hobb := h12.lt
  obtain ⟨⟨z, o0, o1, o2, o3, o4⟩, _⟩ := (Blk5.mk h12.x).all
  have hlt := h12.st.pb.lt
  have hrb32 : rb < 4294967296 := by rw [← HRb.out]; exact hb.rb b2
  have hrc32 : rc < 4294967296 := by rw [← HRc.out]; exact hb.rb cc
  have hai : (a : Int) < 8 := by omega
  have wrn : IntKind.i64.wrap ((rb : Int) + (n : Int)) = (rb : Int) + (n : Int) := Go.IntWalk.i64_in _ (by omega)
  have wr0 : IntKind.i64.wrap (rb : Int) = (rb : Int) := Go.IntWalk.i64_in _ (by omega)
  clear h12 hb
  generalize (fun i => T.getD i undef) = y at hT
  subst hT
  refine rest_of hcd rfl ?_
  clear hcd cd
  simp only [slots16]
  have hf3 := HS5.out.pb.frozen (3 + a)
  have hga := HS5.out.pb.reg a ha8
  have hmv := HMv.out
  have hmv32 : mv < 4294967296 := by rw [← hmv]; exact mk2_lt 12 rb rc hrb32 hrc32
  rw [mk2_12] at hmv
  have hf3b : ((x.setCell ⟨b, 3 + a, none⟩ (.int .u32 0)).frozen? ⟨b, 3 + a, none⟩) = false := (HS5.out.at (setAt x b (3 + a) (.int .u32 (0 : Nat))) (HS5.out.pb.setReg a 0 ha8) rfl).pb.frozen (3 + a)
  have HS6 : Hid (StR w (x.setCell ⟨b, 3 + a, none⟩ (.int .u32 0)) b (p.set a 0) A2 c2) := Lib.hid (HS5.out.at (setAt x b (3 + a) (.int .u32 (0 : Nat))) (HS5.out.pb.setReg a 0 ha8) rfl)
  by_cases hlt2 : rb < rc
  · have hmv1 : mv = 1 := by rw [if_pos hlt2] at hmv; omega
    subst hmv1
    have hdl : decide ((rb : Int) < (rc : Int)) = true := by simpa using hlt2
    have hss : (p.set a 0).set a 1 = p.set a 1 := by simp [Pt.set]
    have HS7b0 := HS6.out.at (setAt _ b (3 + a) (.int .u32 (1 : Nat))) (HS6.out.pb.setReg a 1 ha8) rfl
    rw [hss] at HS7b0
    have HS7b : Hid (StR w ((x.setCell ⟨b, 3 + a, none⟩ (.int .u32 0)).setCell ⟨b, 3 + a, none⟩ (.int .u32 1)) b (p.set a 1) A2 c2) := Lib.hid HS7b0
    have hga2 := HS6.out.pb.reg a ha8
    have hltb := HS6.out.pb.lt
    have hx6 := row_cell (i := 1) (blockS HX5.out (setAt x b (3 + a) (.int .u32 (0 : Nat))) (show ¬ ob = b by omega)) rfl
    clear hmv HS7b0
    have hpcv := HPc.out
    have hc11 : World.cell? _ ⟨b, 11, none⟩ = some (.int .u32 (p.pc : Nat)) := HS7b.out.pb.cells.2.2.2.1
    have hlt7 := HS7b.out.pb.lt
    have hf7 := HS7b.out.pb.frozen 11
    have HS8 := Lib.hid (HS7b.out.at (setAt _ b 11 (.int .u32 (pv : Nat))) (HS7b.out.pb.setPc pv) rfl)
    go_wp2_with (first
      | (refine sel (some 357) (.load _ (.tmp 5)) ?_; refine Vm_stop ?_))
    refine HoleV.mk ?_
    refine wpList_load_row rfl 26 (.tmp 5) rfl b rfl 26 _ (0, 0) _ HS8.out.pb.out Tryz.underlying26 rfl (by rw [partC_size HS8.out.pb.len]; exact info_part) ?_
    go_wp2_with (first
      | (refine sel none (.store _ (.tmp 2) (.tmp 357)) ?_; refine Vm_stop ?_))
    refine HoleV.mk ?_
    refine wpList_store_rowA rfl 26 (.tmp 2) (.tmp 357) rfl (w.heap.size + 1) _ rfl rfl 26 zeroPart HS8.out.rb (by rw [partC_size HS8.out.pb.len]; exact info_part) (by rw [partC_size HS8.out.pb.len]; rfl) (partC_one _ _ rfl) ?_
    intro WR hgR hbR
    have HBR := Lib.hid hbR
    have HGR := Lib.hid hgR
    clear hbR hgR
    go_wp2_with fail
    refine bodyPost_ret (results_ctt Tryz.results10 _ _ (w.heap.size + 1) 26 _ (0, 0) _ (.int .i64 (-1)) (.int .i64 (0)) rfl rfl rfl HBR.out Tryz.underlying26 rfl (by rw [partC_size HS8.out.pb.len]; exact info_part)) rfl ?_
    exact ⟨_, _, rfl, HS8.out.h1, HS8.out.h2, (HS8.out.own.keep HGR.out (fun b o e1 e2 e3 e4 => by omega)).mono (by omega), HS8.out.chg.then_new HGR.out (fun x e => by omega)⟩
  · have hmv1 : mv = 0 := by rw [if_neg hlt2] at hmv; omega
    subst hmv1
    have hdl : decide ((rb : Int) < (rc : Int)) = false := by simpa using hlt2
    have HS7b := HS6
    have hle2 : rc ≤ rb := by omega
    clear hmv
    have hpcv := HPc.out
    have hc11 : World.cell? _ ⟨b, 11, none⟩ = some (.int .u32 (p.pc : Nat)) := HS7b.out.pb.cells.2.2.2.1
    have hlt7 := HS7b.out.pb.lt
    have hf7 := HS7b.out.pb.frozen 11
    have HS8 := Lib.hid (HS7b.out.at (setAt _ b 11 (.int .u32 (pv : Nat))) (HS7b.out.pb.setPc pv) rfl)
    go_wp2_with (first
      | (refine sel (some 357) (.load _ (.tmp 5)) ?_; refine Vm_stop ?_))
    refine HoleV.mk ?_
    refine wpList_load_row rfl 26 (.tmp 5) rfl b rfl 26 _ (0, 0) _ HS8.out.pb.out Tryz.underlying26 rfl (by rw [partC_size HS8.out.pb.len]; exact info_part) ?_
    go_wp2_with (first
      | (refine sel none (.store _ (.tmp 2) (.tmp 357)) ?_; refine Vm_stop ?_))
    refine HoleV.mk ?_
    refine wpList_store_rowA rfl 26 (.tmp 2) (.tmp 357) rfl (w.heap.size + 1) _ rfl rfl 26 zeroPart HS8.out.rb (by rw [partC_size HS8.out.pb.len]; exact info_part) (by rw [partC_size HS8.out.pb.len]; rfl) (partC_one _ _ rfl) ?_
    intro WR hgR hbR
    have HBR := Lib.hid hbR
    have HGR := Lib.hid hgR
    clear hbR hgR
    go_wp2_with fail
    refine bodyPost_ret (results_ctt Tryz.results10 _ _ (w.heap.size + 1) 26 _ (0, 0) _ (.int .i64 (-1)) (.int .i64 (0)) rfl rfl rfl HBR.out Tryz.underlying26 rfl (by rw [partC_size HS8.out.pb.len]; exact info_part)) rfl ?_
    exact ⟨_, _, rfl, HS8.out.h1, HS8.out.h2, (HS8.out.own.keep HGR.out (fun b o e1 e2 e3 e4 => by omega)).mono (by omega), HS8.out.chg.then_new HGR.out (fun x e => by omega)⟩
set_option maxRecDepth 100000 in
set_option maxHeartbeats 8000000 in
theorem rStep_2 (p : Pt) (A : Option Addr) (c : Nat) (w : World) (hb : p.Bd) (hr : Rd w A p.mem) (hl : p.mem.length ≤ 1000000) (hs : p.st = 0) (ht : there p.mem p.pc 4 = true) (f0 f1 f2 f3 : UInt8) (hcut : cut p.mem p.pc 4 = [f0, f1, f2, f3]) (a b2 cc n : Nat) (hd : decI f0.toNat f1.toNat f2.toNat f3.toNat = ⟨2, a, b2, cc, (n : Nat)⟩) (hm : mayB ⟨2, a, b2, cc, (n : Nat)⟩ = true) :
    Calls Tryz.prog 10 #[.agg (partC p (.slice A p.mem.length c))] w (RetStep w ({ (p.set a n : Pt) with pc := (p.pc + 4) % 4294967296 }) (-1) (0)) := by
  have hx1 := may_bd hm
  have ha8 : a < 8 := hx1.2.1
  have hb8 : b2 < 8 := hx1.2.2.1
  have hc8 : cc < 8 := hx1.2.2.2.1
  have hn16 : n < 65536 := hx1.2.2.2.2
  have HBd := Lib.hid hb
  obtain ⟨pv, hpv⟩ : ∃ pv, (p.pc + 4) % 4294967296 = pv := ⟨_, rfl⟩
  have HPc : Hid (((p.pc : Int) + 4) % 4294967296 = pv) := Lib.hid (by omega)
  rw [hpv]
  clear hpv
  obtain ⟨rb, hrb⟩ : ∃ rb, p.g b2 = rb := ⟨_, rfl⟩
  obtain ⟨rc, hrc⟩ : ∃ rc, p.g cc = rc := ⟨_, rfl⟩
  obtain ⟨ra, hra⟩ : ∃ ra, p.g a = ra := ⟨_, rfl⟩
  have HRb := Lib.hid hrb
  have HRc := Lib.hid hrc
  have HRa := Lib.hid hra
  clear hrb hrc hra
  refine rHead p A c w hb hr hl hs ht f0 f1 f2 f3 hcut 2 a b2 cc n hd hm _ ?_
  clear hd hm ht hcut hs hr hl hx1
  intro cd hcd T b ob A2 c2 v hT h12
  have j0 : ((opAt 2).name == [106, 109, 112]) = false := by decide +kernel
  have j1 : ((opAt 2).name == [106, 122]) = false := by decide +kernel
  have j2 : ((opAt 2).name == [106, 110, 122]) = false := by decide +kernel
  have s0 : ((opAt 2).name == [115, 101, 116]) = true := by decide +kernel
  obtain ⟨N, hN⟩ : ∃ N, (opAt 2).name = N := ⟨_, rfl⟩
  rw [hN] at hT j0 j1 j2 s0
  clear hN
  refine rMid p w hb 2 a b2 cc n rb rc ha8 hb8 hc8 hn16 HRb.out HRc.out _ N j0 j1 j2 ?_ cd hcd T b ob A2 c2 v hT h12
  clear hcd hT h12 cd T b ob A2 c2 v j0 j1 j2
  intro cd hcd T b ob A2 c2 x hT h12
  have HS5 := Lib.hid h12.st
  have HX5 := Lib.hid h12.x
  have hobb := h12.lt
  obtain ⟨⟨z, o0, o1, o2, o3, o4⟩, _⟩ := (Blk5.mk h12.x).all
  have hlt := h12.st.pb.lt
  have hrb32 : rb < 4294967296 := by rw [← HRb.out]; exact hb.rb b2
  have hrc32 : rc < 4294967296 := by rw [← HRc.out]; exact hb.rb cc
  have hai : (a : Int) < 8 := by omega
  have wrn : IntKind.i64.wrap ((rb : Int) + (n : Int)) = (rb : Int) + (n : Int) := Go.IntWalk.i64_in _ (by omega)
  have wr0 : IntKind.i64.wrap (rb : Int) = (rb : Int) := Go.IntWalk.i64_in _ (by omega)
  clear h12 hb
  generalize (fun i => T.getD i undef) = y at hT
  subst hT
  refine rest_of hcd rfl ?_
  clear hcd cd
  simp only [slots16]
  have hf3 := HS5.out.pb.frozen (3 + a)
  have hga := HS5.out.pb.reg a ha8
  have hwn : IntKind.u32.wrap (n : Int) = n := Go.IntWalk.u32_in _ (by omega)
  have HS7b := Lib.hid (HS5.out.at (setAt _ b (3 + a) (.int .u32 (n : Nat))) (HS5.out.pb.setReg a n ha8) rfl)
  have hpcv := HPc.out
  have hc11 : World.cell? _ ⟨b, 11, none⟩ = some (.int .u32 (p.pc : Nat)) := HS7b.out.pb.cells.2.2.2.1
  have hlt7 := HS7b.out.pb.lt
  have hf7 := HS7b.out.pb.frozen 11
  have HS8 := Lib.hid (HS7b.out.at (setAt _ b 11 (.int .u32 (pv : Nat))) (HS7b.out.pb.setPc pv) rfl)
  go_wp2_with (first
    | (refine sel (some 357) (.load _ (.tmp 5)) ?_; refine Vm_stop ?_))
  refine HoleV.mk ?_
  refine wpList_load_row rfl 26 (.tmp 5) rfl b rfl 26 _ (0, 0) _ HS8.out.pb.out Tryz.underlying26 rfl (by rw [partC_size HS8.out.pb.len]; exact info_part) ?_
  go_wp2_with (first
    | (refine sel none (.store _ (.tmp 2) (.tmp 357)) ?_; refine Vm_stop ?_))
  refine HoleV.mk ?_
  refine wpList_store_rowA rfl 26 (.tmp 2) (.tmp 357) rfl (w.heap.size + 1) _ rfl rfl 26 zeroPart HS8.out.rb (by rw [partC_size HS8.out.pb.len]; exact info_part) (by rw [partC_size HS8.out.pb.len]; rfl) (partC_one _ _ rfl) ?_
  intro WR hgR hbR
  have HBR := Lib.hid hbR
  have HGR := Lib.hid hgR
  clear hbR hgR
  go_wp2_with fail
  refine bodyPost_ret (results_ctt Tryz.results10 _ _ (w.heap.size + 1) 26 _ (0, 0) _ (.int .i64 (-1)) (.int .i64 (0)) rfl rfl rfl HBR.out Tryz.underlying26 rfl (by rw [partC_size HS8.out.pb.len]; exact info_part)) rfl ?_
  exact ⟨_, _, rfl, HS8.out.h1, HS8.out.h2, (HS8.out.own.keep HGR.out (fun b o e1 e2 e3 e4 => by omega)).mono (by omega), HS8.out.chg.then_new HGR.out (fun x e => by omega)⟩
set_option maxRecDepth 100000 in
set_option maxHeartbeats 8000000 in
theorem rStep_3 (p : Pt) (A : Option Addr) (c : Nat) (w : World) (hb : p.Bd) (hr : Rd w A p.mem) (hl : p.mem.length ≤ 1000000) (hs : p.st = 0) (ht : there p.mem p.pc 4 = true) (f0 f1 f2 f3 : UInt8) (hcut : cut p.mem p.pc 4 = [f0, f1, f2, f3]) (a b2 cc n : Nat) (hd : decI f0.toNat f1.toNat f2.toNat f3.toNat = ⟨3, a, b2, cc, (n : Nat)⟩) (hm : mayB ⟨3, a, b2, cc, (n : Nat)⟩ = true) :
    Calls Tryz.prog 10 #[.agg (partC p (.slice A p.mem.length c))] w (RetStep w ({ (p.set a ((p.g a * 65536 % 4294967296) ||| n) : Pt) with pc := (p.pc + 4) % 4294967296 }) (-1) (0)) := by
  have hx1 := may_bd hm
  have ha8 : a < 8 := hx1.2.1
  have hb8 : b2 < 8 := hx1.2.2.1
  have hc8 : cc < 8 := hx1.2.2.2.1
  have hn16 : n < 65536 := hx1.2.2.2.2
  have HBd := Lib.hid hb
  obtain ⟨pv, hpv⟩ : ∃ pv, (p.pc + 4) % 4294967296 = pv := ⟨_, rfl⟩
  have HPc : Hid (((p.pc : Int) + 4) % 4294967296 = pv) := Lib.hid (by omega)
  rw [hpv]
  clear hpv
  obtain ⟨rb, hrb⟩ : ∃ rb, p.g b2 = rb := ⟨_, rfl⟩
  obtain ⟨rc, hrc⟩ : ∃ rc, p.g cc = rc := ⟨_, rfl⟩
  obtain ⟨ra, hra⟩ : ∃ ra, p.g a = ra := ⟨_, rfl⟩
  have HRb := Lib.hid hrb
  have HRc := Lib.hid hrc
  have HRa := Lib.hid hra
  rw [hra]
  obtain ⟨mv, hmv⟩ : ∃ mv, (ra * 65536 % 4294967296 ||| n) = mv := ⟨_, rfl⟩
  rw [hmv]
  have HMv := Lib.hid hmv
  clear hmv
  clear hrb hrc hra
  refine rHead p A c w hb hr hl hs ht f0 f1 f2 f3 hcut 3 a b2 cc n hd hm _ ?_
  clear hd hm ht hcut hs hr hl hx1
  intro cd hcd T b ob A2 c2 v hT h12
  have j0 : ((opAt 3).name == [106, 109, 112]) = false := by decide +kernel
  have j1 : ((opAt 3).name == [106, 122]) = false := by decide +kernel
  have j2 : ((opAt 3).name == [106, 110, 122]) = false := by decide +kernel
  have s0 : ((opAt 3).name == [115, 101, 116]) = false := by decide +kernel
  have s1 : ((opAt 3).name == [104, 105, 103, 104]) = true := by decide +kernel
  obtain ⟨N, hN⟩ : ∃ N, (opAt 3).name = N := ⟨_, rfl⟩
  rw [hN] at hT j0 j1 j2 s0 s1
  clear hN
  refine rMid p w hb 3 a b2 cc n rb rc ha8 hb8 hc8 hn16 HRb.out HRc.out _ N j0 j1 j2 ?_ cd hcd T b ob A2 c2 v hT h12
  clear hcd hT h12 cd T b ob A2 c2 v j0 j1 j2
  intro cd hcd T b ob A2 c2 x hT h12
  have HS5 := Lib.hid h12.st
  have HX5 := Lib.hid h12.x
  have hobb := h12.lt
  obtain ⟨⟨z, o0, o1, o2, o3, o4⟩, _⟩ := (Blk5.mk h12.x).all
  have hlt := h12.st.pb.lt
  have hrb32 : rb < 4294967296 := by rw [← HRb.out]; exact hb.rb b2
  have hrc32 : rc < 4294967296 := by rw [← HRc.out]; exact hb.rb cc
  have hai : (a : Int) < 8 := by omega
  have wrn : IntKind.i64.wrap ((rb : Int) + (n : Int)) = (rb : Int) + (n : Int) := Go.IntWalk.i64_in _ (by omega)
  have wr0 : IntKind.i64.wrap (rb : Int) = (rb : Int) := Go.IntWalk.i64_in _ (by omega)
  clear h12 hb
  generalize (fun i => T.getD i undef) = y at hT
  subst hT
  refine rest_of hcd rfl ?_
  clear hcd cd
  simp only [slots16]
  have hra32 : p.g a < 4294967296 := HBd.out.rb a
  rw [HRa.out] at hra32
  go_wp2_with fail
  refine wp_region_still_tail 14 (by kernel_rfl) (by kernel_rfl) ?_
  simp only [List.take_succ_cons, List.take_zero, List.drop_succ_cons, List.drop_zero]
  change wpStill _ _ x.drew (fun a' => wpList _ _ _ _ a' x.drew) _ _
  have HS6 := Lib.hid (HS5.out.non ((Chg.refl Non _).drew) : StR w x.drew b p A2 c2)
  have HX6 := Lib.hid (blockN ((Chg.refl Non _).drew) HX5.out)
  clear z o0 o1 o2 o3 o4
  generalize x.drew = x7 at HS6 HX6 ⊢
  obtain ⟨⟨z, o0, o1, o2, o3, o4⟩, _⟩ := (Blk5.mk HX6.out).all
  have hf3 := HS6.out.pb.frozen (3 + a)
  have hga := HS6.out.pb.reg a ha8
  have hgb := HS6.out.pb.reg b2 hb8
  rw [HRb.out] at hgb
  have hlt7 := HS6.out.pb.lt
  rw [HRa.out] at hga
  have hmv := HMv.out
  have hv : (ra : Int) * 65536 % 4294967296 + (n : Int) = (mv : Int) := by rw [← hmv, ← high_or ra n hn16]; omega
  have hmv32 : mv < 4294967296 := by rw [← hmv, ← high_or ra n hn16]; omega
  have hwn : IntKind.u32.wrap (n : Int) = n := Go.IntWalk.u32_in _ (by omega)
  clear hmv
  have hmvm : (mv : Int) % 4294967296 = (mv : Int) := by omega
  iterate 14 still_step
  refine wpStill_nil ?_
  have HS7b := Lib.hid (HS6.out.at (setAt _ b (3 + a) (.int .u32 (mv : Nat))) (HS6.out.pb.setReg a mv ha8) rfl)
  have hpcv := HPc.out
  have hc11 : World.cell? _ ⟨b, 11, none⟩ = some (.int .u32 (p.pc : Nat)) := HS7b.out.pb.cells.2.2.2.1
  have hlt7 := HS7b.out.pb.lt
  have hf7 := HS7b.out.pb.frozen 11
  have HS8 := Lib.hid (HS7b.out.at (setAt _ b 11 (.int .u32 (pv : Nat))) (HS7b.out.pb.setPc pv) rfl)
  go_wp2_with (first
    | (refine sel (some 357) (.load _ (.tmp 5)) ?_; refine Vm_stop ?_))
  refine HoleV.mk ?_
  refine wpList_load_row rfl 26 (.tmp 5) rfl b rfl 26 _ (0, 0) _ HS8.out.pb.out Tryz.underlying26 rfl (by rw [partC_size HS8.out.pb.len]; exact info_part) ?_
  go_wp2_with (first
    | (refine sel none (.store _ (.tmp 2) (.tmp 357)) ?_; refine Vm_stop ?_))
  refine HoleV.mk ?_
  refine wpList_store_rowA rfl 26 (.tmp 2) (.tmp 357) rfl (w.heap.size + 1) _ rfl rfl 26 zeroPart HS8.out.rb (by rw [partC_size HS8.out.pb.len]; exact info_part) (by rw [partC_size HS8.out.pb.len]; rfl) (partC_one _ _ rfl) ?_
  intro WR hgR hbR
  have HBR := Lib.hid hbR
  have HGR := Lib.hid hgR
  clear hbR hgR
  go_wp2_with fail
  refine bodyPost_ret (results_ctt Tryz.results10 _ _ (w.heap.size + 1) 26 _ (0, 0) _ (.int .i64 (-1)) (.int .i64 (0)) rfl rfl rfl HBR.out Tryz.underlying26 rfl (by rw [partC_size HS8.out.pb.len]; exact info_part)) rfl ?_
  exact ⟨_, _, rfl, HS8.out.h1, HS8.out.h2, (HS8.out.own.keep HGR.out (fun b o e1 e2 e3 e4 => by omega)).mono (by omega), HS8.out.chg.then_new HGR.out (fun x e => by omega)⟩
set_option maxRecDepth 100000 in
set_option maxHeartbeats 8000000 in
theorem rStep_21 (p : Pt) (A : Option Addr) (c : Nat) (w : World) (hb : p.Bd) (hr : Rd w A p.mem) (hl : p.mem.length ≤ 1000000) (hs : p.st = 0) (ht : there p.mem p.pc 4 = true) (f0 f1 f2 f3 : UInt8) (hcut : cut p.mem p.pc 4 = [f0, f1, f2, f3]) (a b2 cc n : Nat) (hd : decI f0.toNat f1.toNat f2.toNat f3.toNat = ⟨21, a, b2, cc, (n : Nat)⟩) (hm : mayB ⟨21, a, b2, cc, (n : Nat)⟩ = true) :
    Calls Tryz.prog 10 #[.agg (partC p (.slice A p.mem.length c))] w (RetStep w ({ (p.set a (p.g b2) : Pt) with pc := (p.pc + 4) % 4294967296 }) (-1) (0)) := by
  have hx1 := may_bd hm
  have ha8 : a < 8 := hx1.2.1
  have hb8 : b2 < 8 := hx1.2.2.1
  have hc8 : cc < 8 := hx1.2.2.2.1
  have hn16 : n < 65536 := hx1.2.2.2.2
  have HBd := Lib.hid hb
  obtain ⟨pv, hpv⟩ : ∃ pv, (p.pc + 4) % 4294967296 = pv := ⟨_, rfl⟩
  have HPc : Hid (((p.pc : Int) + 4) % 4294967296 = pv) := Lib.hid (by omega)
  rw [hpv]
  clear hpv
  obtain ⟨rb, hrb⟩ : ∃ rb, p.g b2 = rb := ⟨_, rfl⟩
  obtain ⟨rc, hrc⟩ : ∃ rc, p.g cc = rc := ⟨_, rfl⟩
  obtain ⟨ra, hra⟩ : ∃ ra, p.g a = ra := ⟨_, rfl⟩
  have HRb := Lib.hid hrb
  have HRc := Lib.hid hrc
  have HRa := Lib.hid hra
  rw [hrb]
  clear hrb hrc hra
  refine rHead p A c w hb hr hl hs ht f0 f1 f2 f3 hcut 21 a b2 cc n hd hm _ ?_
  clear hd hm ht hcut hs hr hl hx1
  intro cd hcd T b ob A2 c2 v hT h12
  have j0 : ((opAt 21).name == [106, 109, 112]) = false := by decide +kernel
  have j1 : ((opAt 21).name == [106, 122]) = false := by decide +kernel
  have j2 : ((opAt 21).name == [106, 110, 122]) = false := by decide +kernel
  have s0 : ((opAt 21).name == [115, 101, 116]) = false := by decide +kernel
  have s1 : ((opAt 21).name == [104, 105, 103, 104]) = false := by decide +kernel
  have s2 : ((opAt 21).name == [109, 111, 118]) = true := by decide +kernel
  obtain ⟨N, hN⟩ : ∃ N, (opAt 21).name = N := ⟨_, rfl⟩
  rw [hN] at hT j0 j1 j2 s0 s1 s2
  clear hN
  refine rMid p w hb 21 a b2 cc n rb rc ha8 hb8 hc8 hn16 HRb.out HRc.out _ N j0 j1 j2 ?_ cd hcd T b ob A2 c2 v hT h12
  clear hcd hT h12 cd T b ob A2 c2 v j0 j1 j2
  intro cd hcd T b ob A2 c2 x hT h12
  have HS5 := Lib.hid h12.st
  have HX5 := Lib.hid h12.x
  have hobb := h12.lt
  obtain ⟨⟨z, o0, o1, o2, o3, o4⟩, _⟩ := (Blk5.mk h12.x).all
  have hlt := h12.st.pb.lt
  have hrb32 : rb < 4294967296 := by rw [← HRb.out]; exact hb.rb b2
  have hrc32 : rc < 4294967296 := by rw [← HRc.out]; exact hb.rb cc
  have hai : (a : Int) < 8 := by omega
  have wrn : IntKind.i64.wrap ((rb : Int) + (n : Int)) = (rb : Int) + (n : Int) := Go.IntWalk.i64_in _ (by omega)
  have wr0 : IntKind.i64.wrap (rb : Int) = (rb : Int) := Go.IntWalk.i64_in _ (by omega)
  have hbi : (b2 : Int) < 8 := by omega
  clear h12 hb
  generalize (fun i => T.getD i undef) = y at hT
  subst hT
  refine rest_of hcd rfl ?_
  clear hcd cd
  simp only [slots16]
  have hra32 : p.g a < 4294967296 := HBd.out.rb a
  rw [HRa.out] at hra32
  go_wp2_with fail
  refine wp_region_still_tail 9 (by kernel_rfl) (by kernel_rfl) ?_
  simp only [List.take_succ_cons, List.take_zero, List.drop_succ_cons, List.drop_zero]
  change wpStill _ _ x.drew (fun a' => wpList _ _ _ _ a' x.drew) _ _
  have HS6 := Lib.hid (HS5.out.non ((Chg.refl Non _).drew) : StR w x.drew b p A2 c2)
  have HX6 := Lib.hid (blockN ((Chg.refl Non _).drew) HX5.out)
  clear z o0 o1 o2 o3 o4
  generalize x.drew = x7 at HS6 HX6 ⊢
  obtain ⟨⟨z, o0, o1, o2, o3, o4⟩, _⟩ := (Blk5.mk HX6.out).all
  have hf3 := HS6.out.pb.frozen (3 + a)
  have hga := HS6.out.pb.reg a ha8
  have hgb := HS6.out.pb.reg b2 hb8
  rw [HRb.out] at hgb
  have hlt7 := HS6.out.pb.lt
  rw [HRa.out] at hga
  iterate 9 still_step
  refine wpStill_nil ?_
  have HS7b := Lib.hid (HS6.out.at (setAt _ b (3 + a) (.int .u32 (rb : Nat))) (HS6.out.pb.setReg a rb ha8) rfl)
  have hpcv := HPc.out
  have hc11 : World.cell? _ ⟨b, 11, none⟩ = some (.int .u32 (p.pc : Nat)) := HS7b.out.pb.cells.2.2.2.1
  have hlt7 := HS7b.out.pb.lt
  have hf7 := HS7b.out.pb.frozen 11
  have HS8 := Lib.hid (HS7b.out.at (setAt _ b 11 (.int .u32 (pv : Nat))) (HS7b.out.pb.setPc pv) rfl)
  go_wp2_with (first
    | (refine sel (some 357) (.load _ (.tmp 5)) ?_; refine Vm_stop ?_))
  refine HoleV.mk ?_
  refine wpList_load_row rfl 26 (.tmp 5) rfl b rfl 26 _ (0, 0) _ HS8.out.pb.out Tryz.underlying26 rfl (by rw [partC_size HS8.out.pb.len]; exact info_part) ?_
  go_wp2_with (first
    | (refine sel none (.store _ (.tmp 2) (.tmp 357)) ?_; refine Vm_stop ?_))
  refine HoleV.mk ?_
  refine wpList_store_rowA rfl 26 (.tmp 2) (.tmp 357) rfl (w.heap.size + 1) _ rfl rfl 26 zeroPart HS8.out.rb (by rw [partC_size HS8.out.pb.len]; exact info_part) (by rw [partC_size HS8.out.pb.len]; rfl) (partC_one _ _ rfl) ?_
  intro WR hgR hbR
  have HBR := Lib.hid hbR
  have HGR := Lib.hid hgR
  clear hbR hgR
  go_wp2_with fail
  refine bodyPost_ret (results_ctt Tryz.results10 _ _ (w.heap.size + 1) 26 _ (0, 0) _ (.int .i64 (-1)) (.int .i64 (0)) rfl rfl rfl HBR.out Tryz.underlying26 rfl (by rw [partC_size HS8.out.pb.len]; exact info_part)) rfl ?_
  exact ⟨_, _, rfl, HS8.out.h1, HS8.out.h2, (HS8.out.own.keep HGR.out (fun b o e1 e2 e3 e4 => by omega)).mono (by omega), HS8.out.chg.then_new HGR.out (fun x e => by omega)⟩
set_option maxRecDepth 100000 in
set_option maxHeartbeats 8000000 in
theorem rStep_1 (p : Pt) (A : Option Addr) (c : Nat) (w : World) (hb : p.Bd) (hr : Rd w A p.mem) (hl : p.mem.length ≤ 1000000) (hs : p.st = 0) (ht : there p.mem p.pc 4 = true) (f0 f1 f2 f3 : UInt8) (hcut : cut p.mem p.pc 4 = [f0, f1, f2, f3]) (a b2 cc n : Nat) (hd : decI f0.toNat f1.toNat f2.toNat f3.toNat = ⟨1, a, b2, cc, (n : Nat)⟩) (hm : mayB ⟨1, a, b2, cc, (n : Nat)⟩ = true) :
    Calls Tryz.prog 10 #[.agg (partC p (.slice A p.mem.length c))] w (RetStep w ({ p with pc := (p.pc + 4) % 4294967296 }) (-1) (0)) := by
  have hx1 := may_bd hm
  have ha8 : a < 8 := hx1.2.1
  have hb8 : b2 < 8 := hx1.2.2.1
  have hc8 : cc < 8 := hx1.2.2.2.1
  have hn16 : n < 65536 := hx1.2.2.2.2
  have HBd := Lib.hid hb
  obtain ⟨pv, hpv⟩ : ∃ pv, (p.pc + 4) % 4294967296 = pv := ⟨_, rfl⟩
  have HPc : Hid (((p.pc : Int) + 4) % 4294967296 = pv) := Lib.hid (by omega)
  rw [hpv]
  clear hpv
  obtain ⟨rb, hrb⟩ : ∃ rb, p.g b2 = rb := ⟨_, rfl⟩
  obtain ⟨rc, hrc⟩ : ∃ rc, p.g cc = rc := ⟨_, rfl⟩
  obtain ⟨ra, hra⟩ : ∃ ra, p.g a = ra := ⟨_, rfl⟩
  have HRb := Lib.hid hrb
  have HRc := Lib.hid hrc
  have HRa := Lib.hid hra
  clear hrb hrc hra
  refine rHead p A c w hb hr hl hs ht f0 f1 f2 f3 hcut 1 a b2 cc n hd hm _ ?_
  clear hd hm ht hcut hs hr hl hx1
  intro cd hcd T b ob A2 c2 v hT h12
  have j0 : ((opAt 1).name == [106, 109, 112]) = false := by decide +kernel
  have j1 : ((opAt 1).name == [106, 122]) = false := by decide +kernel
  have j2 : ((opAt 1).name == [106, 110, 122]) = false := by decide +kernel
  have s0 : ((opAt 1).name == [115, 101, 116]) = false := by decide +kernel
  have s1 : ((opAt 1).name == [104, 105, 103, 104]) = false := by decide +kernel
  have s2 : ((opAt 1).name == [109, 111, 118]) = false := by decide +kernel
  have s3 : ((opAt 1).name == [97, 100, 100]) = false := by decide +kernel
  have s4 : ((opAt 1).name == [115, 117, 98]) = false := by decide +kernel
  have s5 : ((opAt 1).name == [109, 117, 108]) = false := by decide +kernel
  have s6 : ((opAt 1).name == [97, 110, 100]) = false := by decide +kernel
  have s7 : ((opAt 1).name == [111, 114]) = false := by decide +kernel
  have s8 : ((opAt 1).name == [120, 111, 114]) = false := by decide +kernel
  have s9 : ((opAt 1).name == [115, 104, 108]) = false := by decide +kernel
  have s10 : ((opAt 1).name == [115, 104, 114]) = false := by decide +kernel
  have s11 : ((opAt 1).name == [108, 101, 115, 115]) = false := by decide +kernel
  have s12 : ((opAt 1).name == [108, 98]) = false := by decide +kernel
  have s13 : ((opAt 1).name == [108, 119]) = false := by decide +kernel
  have s14 : ((opAt 1).name == [115, 98]) = false := by decide +kernel
  have s15 : ((opAt 1).name == [115, 119]) = false := by decide +kernel
  have s16 : ((opAt 1).name == [99, 97, 108, 108]) = false := by decide +kernel
  obtain ⟨N, hN⟩ : ∃ N, (opAt 1).name = N := ⟨_, rfl⟩
  rw [hN] at hT j0 j1 j2 s0 s1 s2 s3 s4 s5 s6 s7 s8 s9 s10 s11 s12 s13 s14 s15 s16
  clear hN
  refine rMid p w hb 1 a b2 cc n rb rc ha8 hb8 hc8 hn16 HRb.out HRc.out _ N j0 j1 j2 ?_ cd hcd T b ob A2 c2 v hT h12
  clear hcd hT h12 cd T b ob A2 c2 v j0 j1 j2
  intro cd hcd T b ob A2 c2 x hT h12
  have HS5 := Lib.hid h12.st
  have HX5 := Lib.hid h12.x
  have hobb := h12.lt
  obtain ⟨⟨z, o0, o1, o2, o3, o4⟩, _⟩ := (Blk5.mk h12.x).all
  have hlt := h12.st.pb.lt
  have hrb32 : rb < 4294967296 := by rw [← HRb.out]; exact hb.rb b2
  have hrc32 : rc < 4294967296 := by rw [← HRc.out]; exact hb.rb cc
  have hai : (a : Int) < 8 := by omega
  have wrn : IntKind.i64.wrap ((rb : Int) + (n : Int)) = (rb : Int) + (n : Int) := Go.IntWalk.i64_in _ (by omega)
  have wr0 : IntKind.i64.wrap (rb : Int) = (rb : Int) := Go.IntWalk.i64_in _ (by omega)
  clear h12 hb
  generalize (fun i => T.getD i undef) = y at hT
  subst hT
  refine rest_of hcd rfl ?_
  clear hcd cd
  simp only [slots16]
  have hpcv := HPc.out
  have hc11 : World.cell? _ ⟨b, 11, none⟩ = some (.int .u32 (p.pc : Nat)) := HS5.out.pb.cells.2.2.2.1
  have hlt7 := HS5.out.pb.lt
  have hf7 := HS5.out.pb.frozen 11
  have HS8 := Lib.hid (HS5.out.at (setAt _ b 11 (.int .u32 (pv : Nat))) (HS5.out.pb.setPc pv) rfl)
  go_wp2_with (first
    | (refine sel (some 357) (.load _ (.tmp 5)) ?_; refine Vm_stop ?_))
  refine HoleV.mk ?_
  refine wpList_load_row rfl 26 (.tmp 5) rfl b rfl 26 _ (0, 0) _ HS8.out.pb.out Tryz.underlying26 rfl (by rw [partC_size HS8.out.pb.len]; exact info_part) ?_
  go_wp2_with (first
    | (refine sel none (.store _ (.tmp 2) (.tmp 357)) ?_; refine Vm_stop ?_))
  refine HoleV.mk ?_
  refine wpList_store_rowA rfl 26 (.tmp 2) (.tmp 357) rfl (w.heap.size + 1) _ rfl rfl 26 zeroPart HS8.out.rb (by rw [partC_size HS8.out.pb.len]; exact info_part) (by rw [partC_size HS8.out.pb.len]; rfl) (partC_one _ _ rfl) ?_
  intro WR hgR hbR
  have HBR := Lib.hid hbR
  have HGR := Lib.hid hgR
  clear hbR hgR
  go_wp2_with fail
  refine bodyPost_ret (results_ctt Tryz.results10 _ _ (w.heap.size + 1) 26 _ (0, 0) _ (.int .i64 (-1)) (.int .i64 (0)) rfl rfl rfl HBR.out Tryz.underlying26 rfl (by rw [partC_size HS8.out.pb.len]; exact info_part)) rfl ?_
  exact ⟨_, _, rfl, HS8.out.h1, HS8.out.h2, (HS8.out.own.keep HGR.out (fun b o e1 e2 e3 e4 => by omega)).mono (by omega), HS8.out.chg.then_new HGR.out (fun x e => by omega)⟩
set_option maxRecDepth 100000 in
set_option maxHeartbeats 8000000 in
theorem rStep_18 (p : Pt) (A : Option Addr) (c : Nat) (w : World) (hb : p.Bd) (hr : Rd w A p.mem) (hl : p.mem.length ≤ 1000000) (hs : p.st = 0) (ht : there p.mem p.pc 4 = true) (f0 f1 f2 f3 : UInt8) (hcut : cut p.mem p.pc 4 = [f0, f1, f2, f3]) (a b2 cc n : Nat) (hd : decI f0.toNat f1.toNat f2.toNat f3.toNat = ⟨18, a, b2, cc, (n : Nat)⟩) (hm : mayB ⟨18, a, b2, cc, (n : Nat)⟩ = true) (hz : p.g a ≠ 0) :
    Calls Tryz.prog 10 #[.agg (partC p (.slice A p.mem.length c))] w (RetStep w ({ p with pc := (p.pc + 4) % 4294967296 }) (-1) (0)) := by
  have hx1 := may_bd hm
  have ha8 : a < 8 := hx1.2.1
  have hb8 : b2 < 8 := hx1.2.2.1
  have hc8 : cc < 8 := hx1.2.2.2.1
  have hn16 : n < 65536 := hx1.2.2.2.2
  have HBd := Lib.hid hb
  obtain ⟨pv, hpv⟩ : ∃ pv, (p.pc + 4) % 4294967296 = pv := ⟨_, rfl⟩
  have HPc : Hid (((p.pc : Int) + 4) % 4294967296 = pv) := Lib.hid (by omega)
  rw [hpv]
  clear hpv
  have HZ := Lib.hid hz
  clear hz
  obtain ⟨rb, hrb⟩ : ∃ rb, p.g b2 = rb := ⟨_, rfl⟩
  obtain ⟨rc, hrc⟩ : ∃ rc, p.g cc = rc := ⟨_, rfl⟩
  obtain ⟨ra, hra⟩ : ∃ ra, p.g a = ra := ⟨_, rfl⟩
  have HRb := Lib.hid hrb
  have HRc := Lib.hid hrc
  have HRa := Lib.hid hra
  clear hrb hrc hra
  refine rHead p A c w hb hr hl hs ht f0 f1 f2 f3 hcut 18 a b2 cc n hd hm _ ?_
  clear hd hm ht hcut hs hr hl hx1
  intro cd hcd T b ob A2 c2 v hT h12
  have j0 : ((opAt 18).name == [106, 109, 112]) = false := by decide +kernel
  have j1 : ((opAt 18).name == [106, 122]) = true := by decide +kernel
  have j2 : ((opAt 18).name == [106, 110, 122]) = false := by decide +kernel
  have s0 : ((opAt 18).name == [115, 101, 116]) = false := by decide +kernel
  have s1 : ((opAt 18).name == [104, 105, 103, 104]) = false := by decide +kernel
  have s2 : ((opAt 18).name == [109, 111, 118]) = false := by decide +kernel
  have s3 : ((opAt 18).name == [97, 100, 100]) = false := by decide +kernel
  have s4 : ((opAt 18).name == [115, 117, 98]) = false := by decide +kernel
  have s5 : ((opAt 18).name == [109, 117, 108]) = false := by decide +kernel
  have s6 : ((opAt 18).name == [97, 110, 100]) = false := by decide +kernel
  have s7 : ((opAt 18).name == [111, 114]) = false := by decide +kernel
  have s8 : ((opAt 18).name == [120, 111, 114]) = false := by decide +kernel
  have s9 : ((opAt 18).name == [115, 104, 108]) = false := by decide +kernel
  have s10 : ((opAt 18).name == [115, 104, 114]) = false := by decide +kernel
  have s11 : ((opAt 18).name == [108, 101, 115, 115]) = false := by decide +kernel
  have s12 : ((opAt 18).name == [108, 98]) = false := by decide +kernel
  have s13 : ((opAt 18).name == [108, 119]) = false := by decide +kernel
  have s14 : ((opAt 18).name == [115, 98]) = false := by decide +kernel
  have s15 : ((opAt 18).name == [115, 119]) = false := by decide +kernel
  have s16 : ((opAt 18).name == [99, 97, 108, 108]) = false := by decide +kernel
  obtain ⟨N, hN⟩ : ∃ N, (opAt 18).name = N := ⟨_, rfl⟩
  rw [hN] at hT j0 j1 j2 s0 s1 s2 s3 s4 s5 s6 s7 s8 s9 s10 s11 s12 s13 s14 s15 s16
  clear hN
  refine rMid_jz p w hb 18 a b2 cc n rb rc ha8 hb8 hc8 hn16 HRb.out HRc.out _ N j0 j1 j2 HZ.out ?_ cd hcd T b ob A2 c2 v hT h12
  clear hcd hT h12 cd T b ob A2 c2 v j0 j1 j2
  intro cd hcd T b ob A2 c2 x hT h12
  have HS5 := Lib.hid h12.st
  have HX5 := Lib.hid h12.x
  have hobb := h12.lt
  obtain ⟨⟨z, o0, o1, o2, o3, o4⟩, _⟩ := (Blk5.mk h12.x).all
  have hlt := h12.st.pb.lt
  have hrb32 : rb < 4294967296 := by rw [← HRb.out]; exact hb.rb b2
  have hrc32 : rc < 4294967296 := by rw [← HRc.out]; exact hb.rb cc
  have hai : (a : Int) < 8 := by omega
  have wrn : IntKind.i64.wrap ((rb : Int) + (n : Int)) = (rb : Int) + (n : Int) := Go.IntWalk.i64_in _ (by omega)
  have wr0 : IntKind.i64.wrap (rb : Int) = (rb : Int) := Go.IntWalk.i64_in _ (by omega)
  clear h12 hb
  generalize (fun i => T.getD i undef) = y at hT
  subst hT
  refine rest_of hcd rfl ?_
  clear hcd cd
  simp only [slots16]
  have hpcv := HPc.out
  have hc11 : World.cell? _ ⟨b, 11, none⟩ = some (.int .u32 (p.pc : Nat)) := HS5.out.pb.cells.2.2.2.1
  have hlt7 := HS5.out.pb.lt
  have hf7 := HS5.out.pb.frozen 11
  have HS8 := Lib.hid (HS5.out.at (setAt _ b 11 (.int .u32 (pv : Nat))) (HS5.out.pb.setPc pv) rfl)
  go_wp2_with (first
    | (refine sel (some 357) (.load _ (.tmp 5)) ?_; refine Vm_stop ?_))
  refine HoleV.mk ?_
  refine wpList_load_row rfl 26 (.tmp 5) rfl b rfl 26 _ (0, 0) _ HS8.out.pb.out Tryz.underlying26 rfl (by rw [partC_size HS8.out.pb.len]; exact info_part) ?_
  go_wp2_with (first
    | (refine sel none (.store _ (.tmp 2) (.tmp 357)) ?_; refine Vm_stop ?_))
  refine HoleV.mk ?_
  refine wpList_store_rowA rfl 26 (.tmp 2) (.tmp 357) rfl (w.heap.size + 1) _ rfl rfl 26 zeroPart HS8.out.rb (by rw [partC_size HS8.out.pb.len]; exact info_part) (by rw [partC_size HS8.out.pb.len]; rfl) (partC_one _ _ rfl) ?_
  intro WR hgR hbR
  have HBR := Lib.hid hbR
  have HGR := Lib.hid hgR
  clear hbR hgR
  go_wp2_with fail
  refine bodyPost_ret (results_ctt Tryz.results10 _ _ (w.heap.size + 1) 26 _ (0, 0) _ (.int .i64 (-1)) (.int .i64 (0)) rfl rfl rfl HBR.out Tryz.underlying26 rfl (by rw [partC_size HS8.out.pb.len]; exact info_part)) rfl ?_
  exact ⟨_, _, rfl, HS8.out.h1, HS8.out.h2, (HS8.out.own.keep HGR.out (fun b o e1 e2 e3 e4 => by omega)).mono (by omega), HS8.out.chg.then_new HGR.out (fun x e => by omega)⟩
set_option maxRecDepth 100000 in
set_option maxHeartbeats 8000000 in
theorem rStep_19 (p : Pt) (A : Option Addr) (c : Nat) (w : World) (hb : p.Bd) (hr : Rd w A p.mem) (hl : p.mem.length ≤ 1000000) (hs : p.st = 0) (ht : there p.mem p.pc 4 = true) (f0 f1 f2 f3 : UInt8) (hcut : cut p.mem p.pc 4 = [f0, f1, f2, f3]) (a b2 cc n : Nat) (hd : decI f0.toNat f1.toNat f2.toNat f3.toNat = ⟨19, a, b2, cc, (n : Nat)⟩) (hm : mayB ⟨19, a, b2, cc, (n : Nat)⟩ = true) (hz : p.g a = 0) :
    Calls Tryz.prog 10 #[.agg (partC p (.slice A p.mem.length c))] w (RetStep w ({ p with pc := (p.pc + 4) % 4294967296 }) (-1) (0)) := by
  have hx1 := may_bd hm
  have ha8 : a < 8 := hx1.2.1
  have hb8 : b2 < 8 := hx1.2.2.1
  have hc8 : cc < 8 := hx1.2.2.2.1
  have hn16 : n < 65536 := hx1.2.2.2.2
  have HBd := Lib.hid hb
  obtain ⟨pv, hpv⟩ : ∃ pv, (p.pc + 4) % 4294967296 = pv := ⟨_, rfl⟩
  have HPc : Hid (((p.pc : Int) + 4) % 4294967296 = pv) := Lib.hid (by omega)
  rw [hpv]
  clear hpv
  have HZ := Lib.hid hz
  clear hz
  obtain ⟨rb, hrb⟩ : ∃ rb, p.g b2 = rb := ⟨_, rfl⟩
  obtain ⟨rc, hrc⟩ : ∃ rc, p.g cc = rc := ⟨_, rfl⟩
  obtain ⟨ra, hra⟩ : ∃ ra, p.g a = ra := ⟨_, rfl⟩
  have HRb := Lib.hid hrb
  have HRc := Lib.hid hrc
  have HRa := Lib.hid hra
  clear hrb hrc hra
  refine rHead p A c w hb hr hl hs ht f0 f1 f2 f3 hcut 19 a b2 cc n hd hm _ ?_
  clear hd hm ht hcut hs hr hl hx1
  intro cd hcd T b ob A2 c2 v hT h12
  have j0 : ((opAt 19).name == [106, 109, 112]) = false := by decide +kernel
  have j1 : ((opAt 19).name == [106, 122]) = false := by decide +kernel
  have j2 : ((opAt 19).name == [106, 110, 122]) = true := by decide +kernel
  have s0 : ((opAt 19).name == [115, 101, 116]) = false := by decide +kernel
  have s1 : ((opAt 19).name == [104, 105, 103, 104]) = false := by decide +kernel
  have s2 : ((opAt 19).name == [109, 111, 118]) = false := by decide +kernel
  have s3 : ((opAt 19).name == [97, 100, 100]) = false := by decide +kernel
  have s4 : ((opAt 19).name == [115, 117, 98]) = false := by decide +kernel
  have s5 : ((opAt 19).name == [109, 117, 108]) = false := by decide +kernel
  have s6 : ((opAt 19).name == [97, 110, 100]) = false := by decide +kernel
  have s7 : ((opAt 19).name == [111, 114]) = false := by decide +kernel
  have s8 : ((opAt 19).name == [120, 111, 114]) = false := by decide +kernel
  have s9 : ((opAt 19).name == [115, 104, 108]) = false := by decide +kernel
  have s10 : ((opAt 19).name == [115, 104, 114]) = false := by decide +kernel
  have s11 : ((opAt 19).name == [108, 101, 115, 115]) = false := by decide +kernel
  have s12 : ((opAt 19).name == [108, 98]) = false := by decide +kernel
  have s13 : ((opAt 19).name == [108, 119]) = false := by decide +kernel
  have s14 : ((opAt 19).name == [115, 98]) = false := by decide +kernel
  have s15 : ((opAt 19).name == [115, 119]) = false := by decide +kernel
  have s16 : ((opAt 19).name == [99, 97, 108, 108]) = false := by decide +kernel
  obtain ⟨N, hN⟩ : ∃ N, (opAt 19).name = N := ⟨_, rfl⟩
  rw [hN] at hT j0 j1 j2 s0 s1 s2 s3 s4 s5 s6 s7 s8 s9 s10 s11 s12 s13 s14 s15 s16
  clear hN
  refine rMid_jnz p w hb 19 a b2 cc n rb rc ha8 hb8 hc8 hn16 HRb.out HRc.out _ N j0 j1 j2 HZ.out ?_ cd hcd T b ob A2 c2 v hT h12
  clear hcd hT h12 cd T b ob A2 c2 v j0 j1 j2
  intro cd hcd T b ob A2 c2 x hT h12
  have HS5 := Lib.hid h12.st
  have HX5 := Lib.hid h12.x
  have hobb := h12.lt
  obtain ⟨⟨z, o0, o1, o2, o3, o4⟩, _⟩ := (Blk5.mk h12.x).all
  have hlt := h12.st.pb.lt
  have hrb32 : rb < 4294967296 := by rw [← HRb.out]; exact hb.rb b2
  have hrc32 : rc < 4294967296 := by rw [← HRc.out]; exact hb.rb cc
  have hai : (a : Int) < 8 := by omega
  have wrn : IntKind.i64.wrap ((rb : Int) + (n : Int)) = (rb : Int) + (n : Int) := Go.IntWalk.i64_in _ (by omega)
  have wr0 : IntKind.i64.wrap (rb : Int) = (rb : Int) := Go.IntWalk.i64_in _ (by omega)
  clear h12 hb
  generalize (fun i => T.getD i undef) = y at hT
  subst hT
  refine rest_of hcd rfl ?_
  clear hcd cd
  simp only [slots16]
  have hpcv := HPc.out
  have hc11 : World.cell? _ ⟨b, 11, none⟩ = some (.int .u32 (p.pc : Nat)) := HS5.out.pb.cells.2.2.2.1
  have hlt7 := HS5.out.pb.lt
  have hf7 := HS5.out.pb.frozen 11
  have HS8 := Lib.hid (HS5.out.at (setAt _ b 11 (.int .u32 (pv : Nat))) (HS5.out.pb.setPc pv) rfl)
  go_wp2_with (first
    | (refine sel (some 357) (.load _ (.tmp 5)) ?_; refine Vm_stop ?_))
  refine HoleV.mk ?_
  refine wpList_load_row rfl 26 (.tmp 5) rfl b rfl 26 _ (0, 0) _ HS8.out.pb.out Tryz.underlying26 rfl (by rw [partC_size HS8.out.pb.len]; exact info_part) ?_
  go_wp2_with (first
    | (refine sel none (.store _ (.tmp 2) (.tmp 357)) ?_; refine Vm_stop ?_))
  refine HoleV.mk ?_
  refine wpList_store_rowA rfl 26 (.tmp 2) (.tmp 357) rfl (w.heap.size + 1) _ rfl rfl 26 zeroPart HS8.out.rb (by rw [partC_size HS8.out.pb.len]; exact info_part) (by rw [partC_size HS8.out.pb.len]; rfl) (partC_one _ _ rfl) ?_
  intro WR hgR hbR
  have HBR := Lib.hid hbR
  have HGR := Lib.hid hgR
  clear hbR hgR
  go_wp2_with fail
  refine bodyPost_ret (results_ctt Tryz.results10 _ _ (w.heap.size + 1) 26 _ (0, 0) _ (.int .i64 (-1)) (.int .i64 (0)) rfl rfl rfl HBR.out Tryz.underlying26 rfl (by rw [partC_size HS8.out.pb.len]; exact info_part)) rfl ?_
  exact ⟨_, _, rfl, HS8.out.h1, HS8.out.h2, (HS8.out.own.keep HGR.out (fun b o e1 e2 e3 e4 => by omega)).mono (by omega), HS8.out.chg.then_new HGR.out (fun x e => by omega)⟩
set_option maxRecDepth 100000 in
set_option maxHeartbeats 8000000 in
theorem rStep_20 (p : Pt) (A : Option Addr) (c : Nat) (w : World) (hb : p.Bd) (hr : Rd w A p.mem) (hl : p.mem.length ≤ 1000000) (hs : p.st = 0) (ht : there p.mem p.pc 4 = true) (f0 f1 f2 f3 : UInt8) (hcut : cut p.mem p.pc 4 = [f0, f1, f2, f3]) (a b2 cc n : Nat) (hd : decI f0.toNat f1.toNat f2.toNat f3.toNat = ⟨20, a, b2, cc, (n : Nat)⟩) (hm : mayB ⟨20, a, b2, cc, (n : Nat)⟩ = true) :
    Calls Tryz.prog 10 #[.agg (partC p (.slice A p.mem.length c))] w (RetStep w ({ p with pc := (p.pc + 4) % 4294967296 }) (n) (0)) := by
  have hx1 := may_bd hm
  have ha8 : a < 8 := hx1.2.1
  have hb8 : b2 < 8 := hx1.2.2.1
  have hc8 : cc < 8 := hx1.2.2.2.1
  have hn16 : n < 65536 := hx1.2.2.2.2
  have HBd := Lib.hid hb
  obtain ⟨pv, hpv⟩ : ∃ pv, (p.pc + 4) % 4294967296 = pv := ⟨_, rfl⟩
  have HPc : Hid (((p.pc : Int) + 4) % 4294967296 = pv) := Lib.hid (by omega)
  rw [hpv]
  clear hpv
  obtain ⟨rb, hrb⟩ : ∃ rb, p.g b2 = rb := ⟨_, rfl⟩
  obtain ⟨rc, hrc⟩ : ∃ rc, p.g cc = rc := ⟨_, rfl⟩
  obtain ⟨ra, hra⟩ : ∃ ra, p.g a = ra := ⟨_, rfl⟩
  have HRb := Lib.hid hrb
  have HRc := Lib.hid hrc
  have HRa := Lib.hid hra
  clear hrb hrc hra
  refine rHead p A c w hb hr hl hs ht f0 f1 f2 f3 hcut 20 a b2 cc n hd hm _ ?_
  clear hd hm ht hcut hs hr hl hx1
  intro cd hcd T b ob A2 c2 v hT h12
  have j0 : ((opAt 20).name == [106, 109, 112]) = false := by decide +kernel
  have j1 : ((opAt 20).name == [106, 122]) = false := by decide +kernel
  have j2 : ((opAt 20).name == [106, 110, 122]) = false := by decide +kernel
  have s0 : ((opAt 20).name == [115, 101, 116]) = false := by decide +kernel
  have s1 : ((opAt 20).name == [104, 105, 103, 104]) = false := by decide +kernel
  have s2 : ((opAt 20).name == [109, 111, 118]) = false := by decide +kernel
  have s3 : ((opAt 20).name == [97, 100, 100]) = false := by decide +kernel
  have s4 : ((opAt 20).name == [115, 117, 98]) = false := by decide +kernel
  have s5 : ((opAt 20).name == [109, 117, 108]) = false := by decide +kernel
  have s6 : ((opAt 20).name == [97, 110, 100]) = false := by decide +kernel
  have s7 : ((opAt 20).name == [111, 114]) = false := by decide +kernel
  have s8 : ((opAt 20).name == [120, 111, 114]) = false := by decide +kernel
  have s9 : ((opAt 20).name == [115, 104, 108]) = false := by decide +kernel
  have s10 : ((opAt 20).name == [115, 104, 114]) = false := by decide +kernel
  have s11 : ((opAt 20).name == [108, 101, 115, 115]) = false := by decide +kernel
  have s12 : ((opAt 20).name == [108, 98]) = false := by decide +kernel
  have s13 : ((opAt 20).name == [108, 119]) = false := by decide +kernel
  have s14 : ((opAt 20).name == [115, 98]) = false := by decide +kernel
  have s15 : ((opAt 20).name == [115, 119]) = false := by decide +kernel
  have s16 : ((opAt 20).name == [99, 97, 108, 108]) = true := by decide +kernel
  obtain ⟨N, hN⟩ : ∃ N, (opAt 20).name = N := ⟨_, rfl⟩
  rw [hN] at hT j0 j1 j2 s0 s1 s2 s3 s4 s5 s6 s7 s8 s9 s10 s11 s12 s13 s14 s15 s16
  clear hN
  refine rMid p w hb 20 a b2 cc n rb rc ha8 hb8 hc8 hn16 HRb.out HRc.out _ N j0 j1 j2 ?_ cd hcd T b ob A2 c2 v hT h12
  clear hcd hT h12 cd T b ob A2 c2 v j0 j1 j2
  intro cd hcd T b ob A2 c2 x hT h12
  have HS5 := Lib.hid h12.st
  have HX5 := Lib.hid h12.x
  have hobb := h12.lt
  obtain ⟨⟨z, o0, o1, o2, o3, o4⟩, _⟩ := (Blk5.mk h12.x).all
  have hlt := h12.st.pb.lt
  have hrb32 : rb < 4294967296 := by rw [← HRb.out]; exact hb.rb b2
  have hrc32 : rc < 4294967296 := by rw [← HRc.out]; exact hb.rb cc
  have hai : (a : Int) < 8 := by omega
  have wrn : IntKind.i64.wrap ((rb : Int) + (n : Int)) = (rb : Int) + (n : Int) := Go.IntWalk.i64_in _ (by omega)
  have wr0 : IntKind.i64.wrap (rb : Int) = (rb : Int) := Go.IntWalk.i64_in _ (by omega)
  clear h12 hb
  generalize (fun i => T.getD i undef) = y at hT
  subst hT
  refine rest_of hcd rfl ?_
  clear hcd cd
  simp only [slots16]
  have hpcv := HPc.out
  have hc11 : World.cell? _ ⟨b, 11, none⟩ = some (.int .u32 (p.pc : Nat)) := HS5.out.pb.cells.2.2.2.1
  have hlt7 := HS5.out.pb.lt
  have hf7 := HS5.out.pb.frozen 11
  have HS8 := Lib.hid (HS5.out.at (setAt _ b 11 (.int .u32 (pv : Nat))) (HS5.out.pb.setPc pv) rfl)
  go_wp2_with (first
    | (refine sel (some 357) (.load _ (.tmp 5)) ?_; refine Vm_stop ?_))
  refine HoleV.mk ?_
  refine wpList_load_row rfl 26 (.tmp 5) rfl b rfl 26 _ (0, 0) _ HS8.out.pb.out Tryz.underlying26 rfl (by rw [partC_size HS8.out.pb.len]; exact info_part) ?_
  go_wp2_with (first
    | (refine sel none (.store _ (.tmp 2) (.tmp 357)) ?_; refine Vm_stop ?_))
  refine HoleV.mk ?_
  refine wpList_store_rowA rfl 26 (.tmp 2) (.tmp 357) rfl (w.heap.size + 1) _ rfl rfl 26 zeroPart HS8.out.rb (by rw [partC_size HS8.out.pb.len]; exact info_part) (by rw [partC_size HS8.out.pb.len]; rfl) (partC_one _ _ rfl) ?_
  intro WR hgR hbR
  have HBR := Lib.hid hbR
  have HGR := Lib.hid hgR
  clear hbR hgR
  go_wp2_with fail
  refine bodyPost_ret (results_ctt Tryz.results10 _ _ (w.heap.size + 1) 26 _ (0, 0) _ (.int .i64 (n)) (.int .i64 (0)) rfl rfl rfl HBR.out Tryz.underlying26 rfl (by rw [partC_size HS8.out.pb.len]; exact info_part)) rfl ?_
  exact ⟨_, _, rfl, HS8.out.h1, HS8.out.h2, (HS8.out.own.keep HGR.out (fun b o e1 e2 e3 e4 => by omega)).mono (by omega), HS8.out.chg.then_new HGR.out (fun x e => by omega)⟩
end Go.Proofs.YtpcmnphohneddaaGreatDoor
