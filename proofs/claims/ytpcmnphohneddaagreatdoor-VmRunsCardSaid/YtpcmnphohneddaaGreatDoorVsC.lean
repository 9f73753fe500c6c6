/- The document's answer of layer 20 (citadelref20): Step, jumps; by two registers. (Written by wip/gen_vog.py.) -/
import Derived.Test.YtpcmnphohneddaaGreatDoorVsB
namespace Go.Proofs.YtpcmnphohneddaaGreatDoor
open Go.RowKit
set_option linter.unusedVariables false

set_option maxRecDepth 100000 in
set_option maxHeartbeats 8000000 in
theorem rStep_j17 (p : Pt) (A : Option Addr) (c : Nat) (w : World) (hb : p.Bd) (hr : Rd w A p.mem) (hl : p.mem.length ≤ 1000000) (hs : p.st = 0) (ht : there p.mem p.pc 4 = true) (f0 f1 f2 f3 : UInt8) (hcut : cut p.mem p.pc 4 = [f0, f1, f2, f3]) (a b2 cc n : Nat) (hd : decI f0.toNat f1.toNat f2.toNat f3.toNat = ⟨17, a, b2, cc, (n : Nat)⟩) (hm : mayB ⟨17, a, b2, cc, (n : Nat)⟩ = true) :
    Calls Tryz.prog 10 #[.agg (partC p (.slice A p.mem.length c))] w (RetStep w ({ p with pc := n }) (-1) (0)) := by
  have hx1 := may_bd hm
  have ha8 : a < 8 := hx1.2.1
  have hb8 : b2 < 8 := hx1.2.2.1
  have hc8 : cc < 8 := hx1.2.2.2.1
  have hn16 : n < 65536 := hx1.2.2.2.2
  have HBd := Lib.hid hb
  refine rHead p A c w hb hr hl hs ht f0 f1 f2 f3 hcut 17 a b2 cc n hd hm _ ?_
  clear hd hm ht hcut hs hr hl hx1
  intro cd hcd T b ob A2 c2 v hT h12
  have j0 : ((opAt 17).name == [106, 109, 112]) = true := by decide +kernel
  obtain ⟨N, hN⟩ : ∃ N, (opAt 17).name = N := ⟨_, rfl⟩
  rw [hN] at hT j0
  clear hN
  have HS4 := Lib.hid h12.st
  have HX4 := Lib.hid h12.x
  obtain ⟨⟨z, o0, o1, o2, o3, o4⟩, _⟩ := (Blk5.mk h12.x).all
  have hobb := h12.lt
  clear h12 hb
  generalize (fun i => T.getD i undef) = y at hT
  subst hT
  refine rest_of hcd rfl ?_
  clear hcd cd
  simp only [slots12]
  have hlt := HS4.out.pb.lt
  have hf := HS4.out.pb.frozen 11
  have c11 := HS4.out.pb.cells.2.2.2.1
  have hwn : IntKind.u32.wrap (n : Int) = n := Go.IntWalk.u32_in _ (by omega)
  have HS5 := Lib.hid (HS4.out.at (setAt _ b 11 (.int .u32 (n : Nat))) (HS4.out.pb.setPc n) rfl)
  go_wp2_with (first
    | (refine sel (some 101) (.load _ (.tmp 5)) ?_; refine Vm_stop ?_))
  refine HoleV.mk ?_
  refine wpList_load_row rfl 26 (.tmp 5) rfl b rfl 26 _ (0, 0) _ HS5.out.pb.out Tryz.underlying26 rfl (by rw [partC_size HS5.out.pb.len]; exact info_part) ?_
  go_wp2_with (first
    | (refine sel none (.store _ (.tmp 2) (.tmp 101)) ?_; refine Vm_stop ?_))
  refine HoleV.mk ?_
  refine wpList_store_rowA rfl 26 (.tmp 2) (.tmp 101) rfl (w.heap.size + 1) _ rfl rfl 26 zeroPart HS5.out.rb (by rw [partC_size HS5.out.pb.len]; exact info_part) (by rw [partC_size HS5.out.pb.len]; rfl) (partC_one _ _ rfl) ?_
  intro WR hgR hbR
  have HBR := Lib.hid hbR
  have HGR := Lib.hid hgR
  clear hbR hgR
  go_wp2_with fail
  refine bodyPost_ret (results_ctt Tryz.results10 _ _ (w.heap.size + 1) 26 _ (0, 0) _ (.int .i64 (-1)) (.int .i64 (0)) rfl rfl rfl HBR.out Tryz.underlying26 rfl (by rw [partC_size HS5.out.pb.len]; exact info_part)) rfl ?_
  exact ⟨_, _, rfl, HS5.out.h1, HS5.out.h2, (HS5.out.own.keep HGR.out (fun b o e1 e2 e3 e4 => by omega)).mono (by omega), HS5.out.chg.then_new HGR.out (fun x e => by omega)⟩
set_option maxRecDepth 100000 in
set_option maxHeartbeats 8000000 in
theorem rStep_j18 (p : Pt) (A : Option Addr) (c : Nat) (w : World) (hb : p.Bd) (hr : Rd w A p.mem) (hl : p.mem.length ≤ 1000000) (hs : p.st = 0) (ht : there p.mem p.pc 4 = true) (f0 f1 f2 f3 : UInt8) (hcut : cut p.mem p.pc 4 = [f0, f1, f2, f3]) (a b2 cc n : Nat) (hd : decI f0.toNat f1.toNat f2.toNat f3.toNat = ⟨18, a, b2, cc, (n : Nat)⟩) (hm : mayB ⟨18, a, b2, cc, (n : Nat)⟩ = true) (hz : p.g a = 0) :
    Calls Tryz.prog 10 #[.agg (partC p (.slice A p.mem.length c))] w (RetStep w ({ p with pc := n }) (-1) (0)) := by
  have hx1 := may_bd hm
  have ha8 : a < 8 := hx1.2.1
  have hb8 : b2 < 8 := hx1.2.2.1
  have hc8 : cc < 8 := hx1.2.2.2.1
  have hn16 : n < 65536 := hx1.2.2.2.2
  have HBd := Lib.hid hb
  have HZ := Lib.hid hz
  clear hz
  refine rHead p A c w hb hr hl hs ht f0 f1 f2 f3 hcut 18 a b2 cc n hd hm _ ?_
  clear hd hm ht hcut hs hr hl hx1
  intro cd hcd T b ob A2 c2 v hT h12
  have j0 : ((opAt 18).name == [106, 109, 112]) = false := by decide +kernel
  have j1 : ((opAt 18).name == [106, 122]) = true := by decide +kernel
  obtain ⟨N, hN⟩ : ∃ N, (opAt 18).name = N := ⟨_, rfl⟩
  rw [hN] at hT j0 j1
  clear hN
  have HS4 := Lib.hid h12.st
  have HX4 := Lib.hid h12.x
  obtain ⟨⟨z, o0, o1, o2, o3, o4⟩, _⟩ := (Blk5.mk h12.x).all
  have hobb := h12.lt
  clear h12 hb
  generalize (fun i => T.getD i undef) = y at hT
  subst hT
  refine rest_of hcd rfl ?_
  clear hcd cd
  simp only [slots12]
  have hlt := HS4.out.pb.lt
  have hf := HS4.out.pb.frozen 11
  have c11 := HS4.out.pb.cells.2.2.2.1
  have hwn : IntKind.u32.wrap (n : Int) = n := Go.IntWalk.u32_in _ (by omega)
  have hga := HS4.out.pb.reg a ha8
  have hra32 : p.g a < 4294967296 := HBd.out.rb a
  have hai : (a : Int) < 8 := by omega
  rw [HZ.out] at hga
  have HS5 := Lib.hid (HS4.out.at (setAt _ b 11 (.int .u32 (n : Nat))) (HS4.out.pb.setPc n) rfl)
  go_wp2_with (first
    | (refine sel (some 101) (.load _ (.tmp 5)) ?_; refine Vm_stop ?_))
  refine HoleV.mk ?_
  refine wpList_load_row rfl 26 (.tmp 5) rfl b rfl 26 _ (0, 0) _ HS5.out.pb.out Tryz.underlying26 rfl (by rw [partC_size HS5.out.pb.len]; exact info_part) ?_
  go_wp2_with (first
    | (refine sel none (.store _ (.tmp 2) (.tmp 101)) ?_; refine Vm_stop ?_))
  refine HoleV.mk ?_
  refine wpList_store_rowA rfl 26 (.tmp 2) (.tmp 101) rfl (w.heap.size + 1) _ rfl rfl 26 zeroPart HS5.out.rb (by rw [partC_size HS5.out.pb.len]; exact info_part) (by rw [partC_size HS5.out.pb.len]; rfl) (partC_one _ _ rfl) ?_
  intro WR hgR hbR
  have HBR := Lib.hid hbR
  have HGR := Lib.hid hgR
  clear hbR hgR
  go_wp2_with fail
  refine bodyPost_ret (results_ctt Tryz.results10 _ _ (w.heap.size + 1) 26 _ (0, 0) _ (.int .i64 (-1)) (.int .i64 (0)) rfl rfl rfl HBR.out Tryz.underlying26 rfl (by rw [partC_size HS5.out.pb.len]; exact info_part)) rfl ?_
  exact ⟨_, _, rfl, HS5.out.h1, HS5.out.h2, (HS5.out.own.keep HGR.out (fun b o e1 e2 e3 e4 => by omega)).mono (by omega), HS5.out.chg.then_new HGR.out (fun x e => by omega)⟩
set_option maxRecDepth 100000 in
set_option maxHeartbeats 8000000 in
theorem rStep_j19 (p : Pt) (A : Option Addr) (c : Nat) (w : World) (hb : p.Bd) (hr : Rd w A p.mem) (hl : p.mem.length ≤ 1000000) (hs : p.st = 0) (ht : there p.mem p.pc 4 = true) (f0 f1 f2 f3 : UInt8) (hcut : cut p.mem p.pc 4 = [f0, f1, f2, f3]) (a b2 cc n : Nat) (hd : decI f0.toNat f1.toNat f2.toNat f3.toNat = ⟨19, a, b2, cc, (n : Nat)⟩) (hm : mayB ⟨19, a, b2, cc, (n : Nat)⟩ = true) (hz : p.g a ≠ 0) :
    Calls Tryz.prog 10 #[.agg (partC p (.slice A p.mem.length c))] w (RetStep w ({ p with pc := n }) (-1) (0)) := by
  have hx1 := may_bd hm
  have ha8 : a < 8 := hx1.2.1
  have hb8 : b2 < 8 := hx1.2.2.1
  have hc8 : cc < 8 := hx1.2.2.2.1
  have hn16 : n < 65536 := hx1.2.2.2.2
  have HBd := Lib.hid hb
  have HZ := Lib.hid hz
  clear hz
  refine rHead p A c w hb hr hl hs ht f0 f1 f2 f3 hcut 19 a b2 cc n hd hm _ ?_
  clear hd hm ht hcut hs hr hl hx1
  intro cd hcd T b ob A2 c2 v hT h12
  have j0 : ((opAt 19).name == [106, 109, 112]) = false := by decide +kernel
  have j1 : ((opAt 19).name == [106, 122]) = false := by decide +kernel
  have j2 : ((opAt 19).name == [106, 110, 122]) = true := by decide +kernel
  obtain ⟨N, hN⟩ : ∃ N, (opAt 19).name = N := ⟨_, rfl⟩
  rw [hN] at hT j0 j1 j2
  clear hN
  have HS4 := Lib.hid h12.st
  have HX4 := Lib.hid h12.x
  obtain ⟨⟨z, o0, o1, o2, o3, o4⟩, _⟩ := (Blk5.mk h12.x).all
  have hobb := h12.lt
  clear h12 hb
  generalize (fun i => T.getD i undef) = y at hT
  subst hT
  refine rest_of hcd rfl ?_
  clear hcd cd
  simp only [slots12]
  have hlt := HS4.out.pb.lt
  have hf := HS4.out.pb.frozen 11
  have c11 := HS4.out.pb.cells.2.2.2.1
  have hwn : IntKind.u32.wrap (n : Int) = n := Go.IntWalk.u32_in _ (by omega)
  have hga := HS4.out.pb.reg a ha8
  have hra32 : p.g a < 4294967296 := HBd.out.rb a
  have hai : (a : Int) < 8 := by omega
  have hzz : ((p.g a : Int) != 0) = true := by rw [bne_iff_ne]; have := HZ.out; omega
  have HS5 := Lib.hid (HS4.out.at (setAt _ b 11 (.int .u32 (n : Nat))) (HS4.out.pb.setPc n) rfl)
  go_wp2_with (first
    | (refine sel (some 101) (.load _ (.tmp 5)) ?_; refine Vm_stop ?_))
  refine HoleV.mk ?_
  refine wpList_load_row rfl 26 (.tmp 5) rfl b rfl 26 _ (0, 0) _ HS5.out.pb.out Tryz.underlying26 rfl (by rw [partC_size HS5.out.pb.len]; exact info_part) ?_
  go_wp2_with (first
    | (refine sel none (.store _ (.tmp 2) (.tmp 101)) ?_; refine Vm_stop ?_))
  refine HoleV.mk ?_
  refine wpList_store_rowA rfl 26 (.tmp 2) (.tmp 101) rfl (w.heap.size + 1) _ rfl rfl 26 zeroPart HS5.out.rb (by rw [partC_size HS5.out.pb.len]; exact info_part) (by rw [partC_size HS5.out.pb.len]; rfl) (partC_one _ _ rfl) ?_
  intro WR hgR hbR
  have HBR := Lib.hid hbR
  have HGR := Lib.hid hgR
  clear hbR hgR
  go_wp2_with fail
  refine bodyPost_ret (results_ctt Tryz.results10 _ _ (w.heap.size + 1) 26 _ (0, 0) _ (.int .i64 (-1)) (.int .i64 (0)) rfl rfl rfl HBR.out Tryz.underlying26 rfl (by rw [partC_size HS5.out.pb.len]; exact info_part)) rfl ?_
  exact ⟨_, _, rfl, HS5.out.h1, HS5.out.h2, (HS5.out.own.keep HGR.out (fun b o e1 e2 e3 e4 => by omega)).mono (by omega), HS5.out.chg.then_new HGR.out (fun x e => by omega)⟩
set_option maxRecDepth 100000 in
set_option maxHeartbeats 8000000 in
theorem rStep_4 (p : Pt) (A : Option Addr) (c : Nat) (w : World) (hb : p.Bd) (hr : Rd w A p.mem) (hl : p.mem.length ≤ 1000000) (hs : p.st = 0) (ht : there p.mem p.pc 4 = true) (f0 f1 f2 f3 : UInt8) (hcut : cut p.mem p.pc 4 = [f0, f1, f2, f3]) (a b2 cc n : Nat) (hd : decI f0.toNat f1.toNat f2.toNat f3.toNat = ⟨4, a, b2, cc, (n : Nat)⟩) (hm : mayB ⟨4, a, b2, cc, (n : Nat)⟩ = true) :
    Calls Tryz.prog 10 #[.agg (partC p (.slice A p.mem.length c))] w (RetStep w ({ p.set a (mk2 4 (p.g b2) (p.g cc)) with pc := (p.pc + 4) % 4294967296 }) (-1) (0)) := by
  have hx1 := may_bd hm
  have ha8 : a < 8 := hx1.2.1
  have hb8 : b2 < 8 := hx1.2.2.1
  have hc8 : cc < 8 := hx1.2.2.2.1
  have hn16 : n < 65536 := hx1.2.2.2.2
  have HBd := Lib.hid hb
  obtain ⟨pv, hpv⟩ : ∃ pv, (p.pc + 4) % 4294967296 = pv := ⟨_, rfl⟩
  have HPc : Hid (((p.pc : Int) + 4) % 4294967296 = pv) := Lib.hid (by omega)
  rw [hpv]
  clear hpv
  obtain ⟨rb, hrb⟩ : ∃ rb, p.g b2 = rb := ⟨_, rfl⟩
  obtain ⟨rc, hrc⟩ : ∃ rc, p.g cc = rc := ⟨_, rfl⟩
  obtain ⟨ra, hra⟩ : ∃ ra, p.g a = ra := ⟨_, rfl⟩
  have HRb := Lib.hid hrb
  have HRc := Lib.hid hrc
  have HRa := Lib.hid hra
  rw [hrb, hrc]
  obtain ⟨mv, hmv⟩ : ∃ mv, mk2 4 rb rc = mv := ⟨_, rfl⟩
  rw [hmv]
  have HMv := Lib.hid hmv
  clear hmv
  clear hrb hrc hra
  refine rHead p A c w hb hr hl hs ht f0 f1 f2 f3 hcut 4 a b2 cc n hd hm _ ?_
  clear hd hm ht hcut hs hr hl hx1
  intro cd hcd T b ob A2 c2 v hT h12
  have j0 : ((opAt 4).name == [106, 109, 112]) = false := by decide +kernel
  have j1 : ((opAt 4).name == [106, 122]) = false := by decide +kernel
  have j2 : ((opAt 4).name == [106, 110, 122]) = false := by decide +kernel
  have s0 : ((opAt 4).name == [115, 101, 116]) = false := by decide +kernel
  have s1 : ((opAt 4).name == [104, 105, 103, 104]) = false := by decide +kernel
  have s2 : ((opAt 4).name == [109, 111, 118]) = false := by decide +kernel
  have s3 : ((opAt 4).name == [97, 100, 100]) = true := by decide +kernel
  obtain ⟨N, hN⟩ : ∃ N, (opAt 4).name = N := ⟨_, rfl⟩
  rw [hN] at hT j0 j1 j2 s0 s1 s2 s3
  clear hN
  refine rMid p w hb 4 a b2 cc n rb rc ha8 hb8 hc8 hn16 HRb.out HRc.out _ N j0 j1 j2 ?_ cd hcd T b ob A2 c2 v hT h12
  clear hcd hT h12 cd T b ob A2 c2 v j0 j1 j2
  intro cd hcd T b ob A2 c2 x hT h12
  have HS5 := Lib.hid h12.st
  have HX5 := Lib.hid h12.x
  have hobb := h12.lt
  obtain ⟨⟨z, o0, o1, o2, o3, o4⟩, _⟩ := (Blk5.mk h12.x).all
  have hlt := h12.st.pb.lt
  have hrb32 : rb < 4294967296 := by rw [← HRb.out]; exact hb.rb b2
  have hrc32 : rc < 4294967296 := by rw [← HRc.out]; exact hb.rb cc
  have hai : (a : Int) < 8 := by omega
  have wrn : IntKind.i64.wrap ((rb : Int) + (n : Int)) = (rb : Int) + (n : Int) := Go.IntWalk.i64_in _ (by omega)
  have wr0 : IntKind.i64.wrap (rb : Int) = (rb : Int) := Go.IntWalk.i64_in _ (by omega)
  clear h12 hb
  generalize (fun i => T.getD i undef) = y at hT
  subst hT
  refine rest_of hcd rfl ?_
  clear hcd cd
  simp only [slots16]
  have hf3 := HS5.out.pb.frozen (3 + a)
  have hga := HS5.out.pb.reg a ha8
  have hmv := HMv.out
  have hmv32 : mv < 4294967296 := by rw [← hmv]; exact mk2_lt 4 rb rc hrb32 hrc32
  rw [mk2_4] at hmv
  have hv : ((rb : Int) + (rc : Int)) % 4294967296 = (mv : Int) := by omega
  clear hmv
  have HS7b := Lib.hid (HS5.out.at (setAt _ b (3 + a) (.int .u32 (mv : Nat))) (HS5.out.pb.setReg a mv ha8) rfl)
  have hpcv := HPc.out
  have hc11 : World.cell? _ ⟨b, 11, none⟩ = some (.int .u32 (p.pc : Nat)) := HS7b.out.pb.cells.2.2.2.1
  have hlt7 := HS7b.out.pb.lt
  have hf7 := HS7b.out.pb.frozen 11
  have HS8 := Lib.hid (HS7b.out.at (setAt _ b 11 (.int .u32 (pv : Nat))) (HS7b.out.pb.setPc pv) rfl)
  go_wp2_with (first
    | (refine sel (some 357) (.load _ (.tmp 5)) ?_; refine Vm_stop ?_))
  refine HoleV.mk ?_
  refine wpList_load_row rfl 26 (.tmp 5) rfl b rfl 26 _ (0, 0) _ HS8.out.pb.out Tryz.underlying26 rfl (by rw [partC_size HS8.out.pb.len]; exact info_part) ?_
  go_wp2_with (first
    | (refine sel none (.store _ (.tmp 2) (.tmp 357)) ?_; refine Vm_stop ?_))
  refine HoleV.mk ?_
  refine wpList_store_rowA rfl 26 (.tmp 2) (.tmp 357) rfl (w.heap.size + 1) _ rfl rfl 26 zeroPart HS8.out.rb (by rw [partC_size HS8.out.pb.len]; exact info_part) (by rw [partC_size HS8.out.pb.len]; rfl) (partC_one _ _ rfl) ?_
  intro WR hgR hbR
  have HBR := Lib.hid hbR
  have HGR := Lib.hid hgR
  clear hbR hgR
  go_wp2_with fail
  refine bodyPost_ret (results_ctt Tryz.results10 _ _ (w.heap.size + 1) 26 _ (0, 0) _ (.int .i64 (-1)) (.int .i64 (0)) rfl rfl rfl HBR.out Tryz.underlying26 rfl (by rw [partC_size HS8.out.pb.len]; exact info_part)) rfl ?_
  exact ⟨_, _, rfl, HS8.out.h1, HS8.out.h2, (HS8.out.own.keep HGR.out (fun b o e1 e2 e3 e4 => by omega)).mono (by omega), HS8.out.chg.then_new HGR.out (fun x e => by omega)⟩
set_option maxRecDepth 100000 in
set_option maxHeartbeats 8000000 in
theorem rStep_5 (p : Pt) (A : Option Addr) (c : Nat) (w : World) (hb : p.Bd) (hr : Rd w A p.mem) (hl : p.mem.length ≤ 1000000) (hs : p.st = 0) (ht : there p.mem p.pc 4 = true) (f0 f1 f2 f3 : UInt8) (hcut : cut p.mem p.pc 4 = [f0, f1, f2, f3]) (a b2 cc n : Nat) (hd : decI f0.toNat f1.toNat f2.toNat f3.toNat = ⟨5, a, b2, cc, (n : Nat)⟩) (hm : mayB ⟨5, a, b2, cc, (n : Nat)⟩ = true) :
    Calls Tryz.prog 10 #[.agg (partC p (.slice A p.mem.length c))] w (RetStep w ({ p.set a (mk2 5 (p.g b2) (p.g cc)) with pc := (p.pc + 4) % 4294967296 }) (-1) (0)) := by
  have hx1 := may_bd hm
  have ha8 : a < 8 := hx1.2.1
  have hb8 : b2 < 8 := hx1.2.2.1
  have hc8 : cc < 8 := hx1.2.2.2.1
  have hn16 : n < 65536 := hx1.2.2.2.2
  have HBd := Lib.hid hb
  obtain ⟨pv, hpv⟩ : ∃ pv, (p.pc + 4) % 4294967296 = pv := ⟨_, rfl⟩
  have HPc : Hid (((p.pc : Int) + 4) % 4294967296 = pv) := Lib.hid (by omega)
  rw [hpv]
  clear hpv
  obtain ⟨rb, hrb⟩ : ∃ rb, p.g b2 = rb := ⟨_, rfl⟩
  obtain ⟨rc, hrc⟩ : ∃ rc, p.g cc = rc := ⟨_, rfl⟩
  obtain ⟨ra, hra⟩ : ∃ ra, p.g a = ra := ⟨_, rfl⟩
  have HRb := Lib.hid hrb
  have HRc := Lib.hid hrc
  have HRa := Lib.hid hra
  rw [hrb, hrc]
  obtain ⟨mv, hmv⟩ : ∃ mv, mk2 5 rb rc = mv := ⟨_, rfl⟩
  rw [hmv]
  have HMv := Lib.hid hmv
  clear hmv
  clear hrb hrc hra
  refine rHead p A c w hb hr hl hs ht f0 f1 f2 f3 hcut 5 a b2 cc n hd hm _ ?_
  clear hd hm ht hcut hs hr hl hx1
  intro cd hcd T b ob A2 c2 v hT h12
  have j0 : ((opAt 5).name == [106, 109, 112]) = false := by decide +kernel
  have j1 : ((opAt 5).name == [106, 122]) = false := by decide +kernel
  have j2 : ((opAt 5).name == [106, 110, 122]) = false := by decide +kernel
  have s0 : ((opAt 5).name == [115, 101, 116]) = false := by decide +kernel
  have s1 : ((opAt 5).name == [104, 105, 103, 104]) = false := by decide +kernel
  have s2 : ((opAt 5).name == [109, 111, 118]) = false := by decide +kernel
  have s3 : ((opAt 5).name == [97, 100, 100]) = false := by decide +kernel
  have s4 : ((opAt 5).name == [115, 117, 98]) = true := by decide +kernel
  obtain ⟨N, hN⟩ : ∃ N, (opAt 5).name = N := ⟨_, rfl⟩
  rw [hN] at hT j0 j1 j2 s0 s1 s2 s3 s4
  clear hN
  refine rMid p w hb 5 a b2 cc n rb rc ha8 hb8 hc8 hn16 HRb.out HRc.out _ N j0 j1 j2 ?_ cd hcd T b ob A2 c2 v hT h12
  clear hcd hT h12 cd T b ob A2 c2 v j0 j1 j2
  intro cd hcd T b ob A2 c2 x hT h12
  have HS5 := Lib.hid h12.st
  have HX5 := Lib.hid h12.x
  have hobb := h12.lt
  obtain ⟨⟨z, o0, o1, o2, o3, o4⟩, _⟩ := (Blk5.mk h12.x).all
  have hlt := h12.st.pb.lt
  have hrb32 : rb < 4294967296 := by rw [← HRb.out]; exact hb.rb b2
  have hrc32 : rc < 4294967296 := by rw [← HRc.out]; exact hb.rb cc
  have hai : (a : Int) < 8 := by omega
  have wrn : IntKind.i64.wrap ((rb : Int) + (n : Int)) = (rb : Int) + (n : Int) := Go.IntWalk.i64_in _ (by omega)
  have wr0 : IntKind.i64.wrap (rb : Int) = (rb : Int) := Go.IntWalk.i64_in _ (by omega)
  clear h12 hb
  generalize (fun i => T.getD i undef) = y at hT
  subst hT
  refine rest_of hcd rfl ?_
  clear hcd cd
  simp only [slots16]
  have hf3 := HS5.out.pb.frozen (3 + a)
  have hga := HS5.out.pb.reg a ha8
  have hmv := HMv.out
  have hmv32 : mv < 4294967296 := by rw [← hmv]; exact mk2_lt 5 rb rc hrb32 hrc32
  rw [mk2_5] at hmv
  obtain ⟨X1, hX1⟩ : ∃ X1 : Nat, rb + 4294967296 = X1 := ⟨_, rfl⟩
  obtain ⟨X2, hX2⟩ : ∃ X2 : Nat, X1 - rc = X2 := ⟨_, rfl⟩
  have hX1i : (rb : Int) + 4294967296 = (X1 : Int) := by omega
  have hX1b : X1 < 8589934592 := by omega
  have hX2i : (X1 : Int) - (rc : Int) = (X2 : Int) := by omega
  have hX2b : X2 < 8589934592 := by omega
  have hv : (X2 : Int) % 4294967296 = (mv : Int) := by rw [hX1, hX2] at hmv; omega
  clear hX1 hX2
  clear hmv
  go_wp2_with (first
    | (refine sel (some 170) (.load _ (.tmp 169)) ?_; refine Vm_stop ?_))
  refine HoleV.mk ?_
  have HRB := Lib.hid (And.intro hrb32 hrc32)
  clear wrn wr0 hn16 hrb32 hrc32 hobb hc8 hb8
  have HS7b := Lib.hid (HS5.out.at (setAt _ b (3 + a) (.int .u32 (mv : Nat))) (HS5.out.pb.setReg a mv ha8) rfl)
  have hpcv := HPc.out
  have hc11 : World.cell? _ ⟨b, 11, none⟩ = some (.int .u32 (p.pc : Nat)) := HS7b.out.pb.cells.2.2.2.1
  have hlt7 := HS7b.out.pb.lt
  have hf7 := HS7b.out.pb.frozen 11
  have HS8 := Lib.hid (HS7b.out.at (setAt _ b 11 (.int .u32 (pv : Nat))) (HS7b.out.pb.setPc pv) rfl)
  go_wp2_with (first
    | (refine sel (some 357) (.load _ (.tmp 5)) ?_; refine Vm_stop ?_))
  refine HoleV.mk ?_
  refine wpList_load_row rfl 26 (.tmp 5) rfl b rfl 26 _ (0, 0) _ HS8.out.pb.out Tryz.underlying26 rfl (by rw [partC_size HS8.out.pb.len]; exact info_part) ?_
  go_wp2_with (first
    | (refine sel none (.store _ (.tmp 2) (.tmp 357)) ?_; refine Vm_stop ?_))
  refine HoleV.mk ?_
  refine wpList_store_rowA rfl 26 (.tmp 2) (.tmp 357) rfl (w.heap.size + 1) _ rfl rfl 26 zeroPart HS8.out.rb (by rw [partC_size HS8.out.pb.len]; exact info_part) (by rw [partC_size HS8.out.pb.len]; rfl) (partC_one _ _ rfl) ?_
  intro WR hgR hbR
  have HBR := Lib.hid hbR
  have HGR := Lib.hid hgR
  clear hbR hgR
  go_wp2_with fail
  refine bodyPost_ret (results_ctt Tryz.results10 _ _ (w.heap.size + 1) 26 _ (0, 0) _ (.int .i64 (-1)) (.int .i64 (0)) rfl rfl rfl HBR.out Tryz.underlying26 rfl (by rw [partC_size HS8.out.pb.len]; exact info_part)) rfl ?_
  exact ⟨_, _, rfl, HS8.out.h1, HS8.out.h2, (HS8.out.own.keep HGR.out (fun b o e1 e2 e3 e4 => by omega)).mono (by omega), HS8.out.chg.then_new HGR.out (fun x e => by omega)⟩
set_option maxRecDepth 100000 in
set_option maxHeartbeats 8000000 in
theorem rStep_6 (p : Pt) (A : Option Addr) (c : Nat) (w : World) (hb : p.Bd) (hr : Rd w A p.mem) (hl : p.mem.length ≤ 1000000) (hs : p.st = 0) (ht : there p.mem p.pc 4 = true) (f0 f1 f2 f3 : UInt8) (hcut : cut p.mem p.pc 4 = [f0, f1, f2, f3]) (a b2 cc n : Nat) (hd : decI f0.toNat f1.toNat f2.toNat f3.toNat = ⟨6, a, b2, cc, (n : Nat)⟩) (hm : mayB ⟨6, a, b2, cc, (n : Nat)⟩ = true) :
    Calls Tryz.prog 10 #[.agg (partC p (.slice A p.mem.length c))] w (RetStep w ({ p.set a (mk2 6 (p.g b2) (p.g cc)) with pc := (p.pc + 4) % 4294967296 }) (-1) (0)) := by
  have hx1 := may_bd hm
  have ha8 : a < 8 := hx1.2.1
  have hb8 : b2 < 8 := hx1.2.2.1
  have hc8 : cc < 8 := hx1.2.2.2.1
  have hn16 : n < 65536 := hx1.2.2.2.2
  have HBd := Lib.hid hb
  obtain ⟨pv, hpv⟩ : ∃ pv, (p.pc + 4) % 4294967296 = pv := ⟨_, rfl⟩
  have HPc : Hid (((p.pc : Int) + 4) % 4294967296 = pv) := Lib.hid (by omega)
  rw [hpv]
  clear hpv
  obtain ⟨rb, hrb⟩ : ∃ rb, p.g b2 = rb := ⟨_, rfl⟩
  obtain ⟨rc, hrc⟩ : ∃ rc, p.g cc = rc := ⟨_, rfl⟩
  obtain ⟨ra, hra⟩ : ∃ ra, p.g a = ra := ⟨_, rfl⟩
  have HRb := Lib.hid hrb
  have HRc := Lib.hid hrc
  have HRa := Lib.hid hra
  rw [hrb, hrc]
  obtain ⟨mv, hmv⟩ : ∃ mv, mk2 6 rb rc = mv := ⟨_, rfl⟩
  rw [hmv]
  have HMv := Lib.hid hmv
  clear hmv
  clear hrb hrc hra
  refine rHead p A c w hb hr hl hs ht f0 f1 f2 f3 hcut 6 a b2 cc n hd hm _ ?_
  clear hd hm ht hcut hs hr hl hx1
  intro cd hcd T b ob A2 c2 v hT h12
  have j0 : ((opAt 6).name == [106, 109, 112]) = false := by decide +kernel
  have j1 : ((opAt 6).name == [106, 122]) = false := by decide +kernel
  have j2 : ((opAt 6).name == [106, 110, 122]) = false := by decide +kernel
  have s0 : ((opAt 6).name == [115, 101, 116]) = false := by decide +kernel
  have s1 : ((opAt 6).name == [104, 105, 103, 104]) = false := by decide +kernel
  have s2 : ((opAt 6).name == [109, 111, 118]) = false := by decide +kernel
  have s3 : ((opAt 6).name == [97, 100, 100]) = false := by decide +kernel
  have s4 : ((opAt 6).name == [115, 117, 98]) = false := by decide +kernel
  have s5 : ((opAt 6).name == [109, 117, 108]) = true := by decide +kernel
  obtain ⟨N, hN⟩ : ∃ N, (opAt 6).name = N := ⟨_, rfl⟩
  rw [hN] at hT j0 j1 j2 s0 s1 s2 s3 s4 s5
  clear hN
  refine rMid p w hb 6 a b2 cc n rb rc ha8 hb8 hc8 hn16 HRb.out HRc.out _ N j0 j1 j2 ?_ cd hcd T b ob A2 c2 v hT h12
  clear hcd hT h12 cd T b ob A2 c2 v j0 j1 j2
  intro cd hcd T b ob A2 c2 x hT h12
  have HS5 := Lib.hid h12.st
  have HX5 := Lib.hid h12.x
  have hobb := h12.lt
  obtain ⟨⟨z, o0, o1, o2, o3, o4⟩, _⟩ := (Blk5.mk h12.x).all
  have hlt := h12.st.pb.lt
  have hrb32 : rb < 4294967296 := by rw [← HRb.out]; exact hb.rb b2
  have hrc32 : rc < 4294967296 := by rw [← HRc.out]; exact hb.rb cc
  have hai : (a : Int) < 8 := by omega
  have wrn : IntKind.i64.wrap ((rb : Int) + (n : Int)) = (rb : Int) + (n : Int) := Go.IntWalk.i64_in _ (by omega)
  have wr0 : IntKind.i64.wrap (rb : Int) = (rb : Int) := Go.IntWalk.i64_in _ (by omega)
  clear h12 hb
  generalize (fun i => T.getD i undef) = y at hT
  subst hT
  refine rest_of hcd rfl ?_
  clear hcd cd
  simp only [slots16]
  have hf3 := HS5.out.pb.frozen (3 + a)
  have hga := HS5.out.pb.reg a ha8
  have hmv := HMv.out
  have hmv32 : mv < 4294967296 := by rw [← hmv]; exact mk2_lt 6 rb rc hrb32 hrc32
  rw [mk2_6] at hmv
  obtain ⟨pr, hpr⟩ : ∃ pr, rb * rc = pr := ⟨_, rfl⟩
  have hprb : pr ≤ 18446744065119617025 := by rw [← hpr]; exact Nat.mul_le_mul (show rb ≤ 4294967295 by omega) (show rc ≤ 4294967295 by omega)
  have hpri : (rb : Int) * (rc : Int) = (pr : Int) := by rw [← hpr]; simp
  have hv : (pr : Int) % 4294967296 = (mv : Int) := by rw [hpr] at hmv; omega
  clear hmv
  have HS7b := Lib.hid (HS5.out.at (setAt _ b (3 + a) (.int .u32 (mv : Nat))) (HS5.out.pb.setReg a mv ha8) rfl)
  have hpcv := HPc.out
  have hc11 : World.cell? _ ⟨b, 11, none⟩ = some (.int .u32 (p.pc : Nat)) := HS7b.out.pb.cells.2.2.2.1
  have hlt7 := HS7b.out.pb.lt
  have hf7 := HS7b.out.pb.frozen 11
  have HS8 := Lib.hid (HS7b.out.at (setAt _ b 11 (.int .u32 (pv : Nat))) (HS7b.out.pb.setPc pv) rfl)
  go_wp2_with (first
    | (refine sel (some 357) (.load _ (.tmp 5)) ?_; refine Vm_stop ?_))
  refine HoleV.mk ?_
  refine wpList_load_row rfl 26 (.tmp 5) rfl b rfl 26 _ (0, 0) _ HS8.out.pb.out Tryz.underlying26 rfl (by rw [partC_size HS8.out.pb.len]; exact info_part) ?_
  go_wp2_with (first
    | (refine sel none (.store _ (.tmp 2) (.tmp 357)) ?_; refine Vm_stop ?_))
  refine HoleV.mk ?_
  refine wpList_store_rowA rfl 26 (.tmp 2) (.tmp 357) rfl (w.heap.size + 1) _ rfl rfl 26 zeroPart HS8.out.rb (by rw [partC_size HS8.out.pb.len]; exact info_part) (by rw [partC_size HS8.out.pb.len]; rfl) (partC_one _ _ rfl) ?_
  intro WR hgR hbR
  have HBR := Lib.hid hbR
  have HGR := Lib.hid hgR
  clear hbR hgR
  go_wp2_with fail
  refine bodyPost_ret (results_ctt Tryz.results10 _ _ (w.heap.size + 1) 26 _ (0, 0) _ (.int .i64 (-1)) (.int .i64 (0)) rfl rfl rfl HBR.out Tryz.underlying26 rfl (by rw [partC_size HS8.out.pb.len]; exact info_part)) rfl ?_
  exact ⟨_, _, rfl, HS8.out.h1, HS8.out.h2, (HS8.out.own.keep HGR.out (fun b o e1 e2 e3 e4 => by omega)).mono (by omega), HS8.out.chg.then_new HGR.out (fun x e => by omega)⟩
set_option maxRecDepth 100000 in
set_option maxHeartbeats 8000000 in
theorem rStep_7 (p : Pt) (A : Option Addr) (c : Nat) (w : World) (hb : p.Bd) (hr : Rd w A p.mem) (hl : p.mem.length ≤ 1000000) (hs : p.st = 0) (ht : there p.mem p.pc 4 = true) (f0 f1 f2 f3 : UInt8) (hcut : cut p.mem p.pc 4 = [f0, f1, f2, f3]) (a b2 cc n : Nat) (hd : decI f0.toNat f1.toNat f2.toNat f3.toNat = ⟨7, a, b2, cc, (n : Nat)⟩) (hm : mayB ⟨7, a, b2, cc, (n : Nat)⟩ = true) :
    Calls Tryz.prog 10 #[.agg (partC p (.slice A p.mem.length c))] w (RetStep w ({ p.set a (mk2 7 (p.g b2) (p.g cc)) with pc := (p.pc + 4) % 4294967296 }) (-1) (0)) := by
  have hx1 := may_bd hm
  have ha8 : a < 8 := hx1.2.1
  have hb8 : b2 < 8 := hx1.2.2.1
  have hc8 : cc < 8 := hx1.2.2.2.1
  have hn16 : n < 65536 := hx1.2.2.2.2
  have HBd := Lib.hid hb
  obtain ⟨pv, hpv⟩ : ∃ pv, (p.pc + 4) % 4294967296 = pv := ⟨_, rfl⟩
  have HPc : Hid (((p.pc : Int) + 4) % 4294967296 = pv) := Lib.hid (by omega)
  rw [hpv]
  clear hpv
  obtain ⟨rb, hrb⟩ : ∃ rb, p.g b2 = rb := ⟨_, rfl⟩
  obtain ⟨rc, hrc⟩ : ∃ rc, p.g cc = rc := ⟨_, rfl⟩
  obtain ⟨ra, hra⟩ : ∃ ra, p.g a = ra := ⟨_, rfl⟩
  have HRb := Lib.hid hrb
  have HRc := Lib.hid hrc
  have HRa := Lib.hid hra
  rw [hrb, hrc]
  obtain ⟨mv, hmv⟩ : ∃ mv, mk2 7 rb rc = mv := ⟨_, rfl⟩
  rw [hmv]
  have HMv := Lib.hid hmv
  clear hmv
  clear hrb hrc hra
  refine rHead p A c w hb hr hl hs ht f0 f1 f2 f3 hcut 7 a b2 cc n hd hm _ ?_
  clear hd hm ht hcut hs hr hl hx1
  intro cd hcd T b ob A2 c2 v hT h12
  have j0 : ((opAt 7).name == [106, 109, 112]) = false := by decide +kernel
  have j1 : ((opAt 7).name == [106, 122]) = false := by decide +kernel
  have j2 : ((opAt 7).name == [106, 110, 122]) = false := by decide +kernel
  have s0 : ((opAt 7).name == [115, 101, 116]) = false := by decide +kernel
  have s1 : ((opAt 7).name == [104, 105, 103, 104]) = false := by decide +kernel
  have s2 : ((opAt 7).name == [109, 111, 118]) = false := by decide +kernel
  have s3 : ((opAt 7).name == [97, 100, 100]) = false := by decide +kernel
  have s4 : ((opAt 7).name == [115, 117, 98]) = false := by decide +kernel
  have s5 : ((opAt 7).name == [109, 117, 108]) = false := by decide +kernel
  have s6 : ((opAt 7).name == [97, 110, 100]) = true := by decide +kernel
  obtain ⟨N, hN⟩ : ∃ N, (opAt 7).name = N := ⟨_, rfl⟩
  rw [hN] at hT j0 j1 j2 s0 s1 s2 s3 s4 s5 s6
  clear hN
  refine rMid p w hb 7 a b2 cc n rb rc ha8 hb8 hc8 hn16 HRb.out HRc.out _ N j0 j1 j2 ?_ cd hcd T b ob A2 c2 v hT h12
  clear hcd hT h12 cd T b ob A2 c2 v j0 j1 j2
  intro cd hcd T b ob A2 c2 x hT h12
  have HS5 := Lib.hid h12.st
  have HX5 := Lib.hid h12.x
  have hobb := h12.lt
  obtain ⟨⟨z, o0, o1, o2, o3, o4⟩, _⟩ := (Blk5.mk h12.x).all
  have hlt := h12.st.pb.lt
  have hrb32 : rb < 4294967296 := by rw [← HRb.out]; exact hb.rb b2
  have hrc32 : rc < 4294967296 := by rw [← HRc.out]; exact hb.rb cc
  have hai : (a : Int) < 8 := by omega
  have wrn : IntKind.i64.wrap ((rb : Int) + (n : Int)) = (rb : Int) + (n : Int) := Go.IntWalk.i64_in _ (by omega)
  have wr0 : IntKind.i64.wrap (rb : Int) = (rb : Int) := Go.IntWalk.i64_in _ (by omega)
  clear h12 hb
  generalize (fun i => T.getD i undef) = y at hT
  subst hT
  refine rest_of hcd rfl ?_
  clear hcd cd
  simp only [slots16]
  have hf3 := HS5.out.pb.frozen (3 + a)
  have hga := HS5.out.pb.reg a ha8
  have hmv := HMv.out
  have hmv32 : mv < 4294967296 := by rw [← hmv]; exact mk2_lt 7 rb rc hrb32 hrc32
  rw [mk2_7] at hmv
  have hv : bits .and .u64 (rb : Int) (rc : Int) = (mv : Int) := by rw [u64_and_nat _ _ (by omega) (by omega)]; rw [hmv]
  clear hmv
  have HS7b := Lib.hid (HS5.out.at (setAt _ b (3 + a) (.int .u32 (mv : Nat))) (HS5.out.pb.setReg a mv ha8) rfl)
  have hpcv := HPc.out
  have hc11 : World.cell? _ ⟨b, 11, none⟩ = some (.int .u32 (p.pc : Nat)) := HS7b.out.pb.cells.2.2.2.1
  have hlt7 := HS7b.out.pb.lt
  have hf7 := HS7b.out.pb.frozen 11
  have HS8 := Lib.hid (HS7b.out.at (setAt _ b 11 (.int .u32 (pv : Nat))) (HS7b.out.pb.setPc pv) rfl)
  go_wp2_with (first
    | (refine sel (some 357) (.load _ (.tmp 5)) ?_; refine Vm_stop ?_))
  refine HoleV.mk ?_
  refine wpList_load_row rfl 26 (.tmp 5) rfl b rfl 26 _ (0, 0) _ HS8.out.pb.out Tryz.underlying26 rfl (by rw [partC_size HS8.out.pb.len]; exact info_part) ?_
  go_wp2_with (first
    | (refine sel none (.store _ (.tmp 2) (.tmp 357)) ?_; refine Vm_stop ?_))
  refine HoleV.mk ?_
  refine wpList_store_rowA rfl 26 (.tmp 2) (.tmp 357) rfl (w.heap.size + 1) _ rfl rfl 26 zeroPart HS8.out.rb (by rw [partC_size HS8.out.pb.len]; exact info_part) (by rw [partC_size HS8.out.pb.len]; rfl) (partC_one _ _ rfl) ?_
  intro WR hgR hbR
  have HBR := Lib.hid hbR
  have HGR := Lib.hid hgR
  clear hbR hgR
  go_wp2_with fail
  refine bodyPost_ret (results_ctt Tryz.results10 _ _ (w.heap.size + 1) 26 _ (0, 0) _ (.int .i64 (-1)) (.int .i64 (0)) rfl rfl rfl HBR.out Tryz.underlying26 rfl (by rw [partC_size HS8.out.pb.len]; exact info_part)) rfl ?_
  exact ⟨_, _, rfl, HS8.out.h1, HS8.out.h2, (HS8.out.own.keep HGR.out (fun b o e1 e2 e3 e4 => by omega)).mono (by omega), HS8.out.chg.then_new HGR.out (fun x e => by omega)⟩
set_option maxRecDepth 100000 in
set_option maxHeartbeats 8000000 in
theorem rStep_8 (p : Pt) (A : Option Addr) (c : Nat) (w : World) (hb : p.Bd) (hr : Rd w A p.mem) (hl : p.mem.length ≤ 1000000) (hs : p.st = 0) (ht : there p.mem p.pc 4 = true) (f0 f1 f2 f3 : UInt8) (hcut : cut p.mem p.pc 4 = [f0, f1, f2, f3]) (a b2 cc n : Nat) (hd : decI f0.toNat f1.toNat f2.toNat f3.toNat = ⟨8, a, b2, cc, (n : Nat)⟩) (hm : mayB ⟨8, a, b2, cc, (n : Nat)⟩ = true) :
    Calls Tryz.prog 10 #[.agg (partC p (.slice A p.mem.length c))] w (RetStep w ({ p.set a (mk2 8 (p.g b2) (p.g cc)) with pc := (p.pc + 4) % 4294967296 }) (-1) (0)) := by
  have hx1 := may_bd hm
  have ha8 : a < 8 := hx1.2.1
  have hb8 : b2 < 8 := hx1.2.2.1
  have hc8 : cc < 8 := hx1.2.2.2.1
  have hn16 : n < 65536 := hx1.2.2.2.2
  have HBd := Lib.hid hb
  obtain ⟨pv, hpv⟩ : ∃ pv, (p.pc + 4) % 4294967296 = pv := ⟨_, rfl⟩
  have HPc : Hid (((p.pc : Int) + 4) % 4294967296 = pv) := Lib.hid (by omega)
  rw [hpv]
  clear hpv
  obtain ⟨rb, hrb⟩ : ∃ rb, p.g b2 = rb := ⟨_, rfl⟩
  obtain ⟨rc, hrc⟩ : ∃ rc, p.g cc = rc := ⟨_, rfl⟩
  obtain ⟨ra, hra⟩ : ∃ ra, p.g a = ra := ⟨_, rfl⟩
  have HRb := Lib.hid hrb
  have HRc := Lib.hid hrc
  have HRa := Lib.hid hra
  rw [hrb, hrc]
  obtain ⟨mv, hmv⟩ : ∃ mv, mk2 8 rb rc = mv := ⟨_, rfl⟩
  rw [hmv]
  have HMv := Lib.hid hmv
  clear hmv
  clear hrb hrc hra
  refine rHead p A c w hb hr hl hs ht f0 f1 f2 f3 hcut 8 a b2 cc n hd hm _ ?_
  clear hd hm ht hcut hs hr hl hx1
  intro cd hcd T b ob A2 c2 v hT h12
  have j0 : ((opAt 8).name == [106, 109, 112]) = false := by decide +kernel
  have j1 : ((opAt 8).name == [106, 122]) = false := by decide +kernel
  have j2 : ((opAt 8).name == [106, 110, 122]) = false := by decide +kernel
  have s0 : ((opAt 8).name == [115, 101, 116]) = false := by decide +kernel
  have s1 : ((opAt 8).name == [104, 105, 103, 104]) = false := by decide +kernel
  have s2 : ((opAt 8).name == [109, 111, 118]) = false := by decide +kernel
  have s3 : ((opAt 8).name == [97, 100, 100]) = false := by decide +kernel
  have s4 : ((opAt 8).name == [115, 117, 98]) = false := by decide +kernel
  have s5 : ((opAt 8).name == [109, 117, 108]) = false := by decide +kernel
  have s6 : ((opAt 8).name == [97, 110, 100]) = false := by decide +kernel
  have s7 : ((opAt 8).name == [111, 114]) = true := by decide +kernel
  obtain ⟨N, hN⟩ : ∃ N, (opAt 8).name = N := ⟨_, rfl⟩
  rw [hN] at hT j0 j1 j2 s0 s1 s2 s3 s4 s5 s6 s7
  clear hN
  refine rMid p w hb 8 a b2 cc n rb rc ha8 hb8 hc8 hn16 HRb.out HRc.out _ N j0 j1 j2 ?_ cd hcd T b ob A2 c2 v hT h12
  clear hcd hT h12 cd T b ob A2 c2 v j0 j1 j2
  intro cd hcd T b ob A2 c2 x hT h12
  have HS5 := Lib.hid h12.st
  have HX5 := Lib.hid h12.x
  have hobb := h12.lt
  obtain ⟨⟨z, o0, o1, o2, o3, o4⟩, _⟩ := (Blk5.mk h12.x).all
  have hlt := h12.st.pb.lt
  have hrb32 : rb < 4294967296 := by rw [← HRb.out]; exact hb.rb b2
  have hrc32 : rc < 4294967296 := by rw [← HRc.out]; exact hb.rb cc
  have hai : (a : Int) < 8 := by omega
  have wrn : IntKind.i64.wrap ((rb : Int) + (n : Int)) = (rb : Int) + (n : Int) := Go.IntWalk.i64_in _ (by omega)
  have wr0 : IntKind.i64.wrap (rb : Int) = (rb : Int) := Go.IntWalk.i64_in _ (by omega)
  clear h12 hb
  generalize (fun i => T.getD i undef) = y at hT
  subst hT
  refine rest_of hcd rfl ?_
  clear hcd cd
  simp only [slots16]
  have hf3 := HS5.out.pb.frozen (3 + a)
  have hga := HS5.out.pb.reg a ha8
  have hmv := HMv.out
  have hmv32 : mv < 4294967296 := by rw [← hmv]; exact mk2_lt 8 rb rc hrb32 hrc32
  rw [mk2_8] at hmv
  have hv : bits .or .u64 (rb : Int) (rc : Int) = (mv : Int) := by rw [u64_or_nat _ _ (by omega) (by omega)]; rw [hmv]
  clear hmv
  have HS7b := Lib.hid (HS5.out.at (setAt _ b (3 + a) (.int .u32 (mv : Nat))) (HS5.out.pb.setReg a mv ha8) rfl)
  have hpcv := HPc.out
  have hc11 : World.cell? _ ⟨b, 11, none⟩ = some (.int .u32 (p.pc : Nat)) := HS7b.out.pb.cells.2.2.2.1
  have hlt7 := HS7b.out.pb.lt
  have hf7 := HS7b.out.pb.frozen 11
  have HS8 := Lib.hid (HS7b.out.at (setAt _ b 11 (.int .u32 (pv : Nat))) (HS7b.out.pb.setPc pv) rfl)
  go_wp2_with (first
    | (refine sel (some 357) (.load _ (.tmp 5)) ?_; refine Vm_stop ?_))
  refine HoleV.mk ?_
  refine wpList_load_row rfl 26 (.tmp 5) rfl b rfl 26 _ (0, 0) _ HS8.out.pb.out Tryz.underlying26 rfl (by rw [partC_size HS8.out.pb.len]; exact info_part) ?_
  go_wp2_with (first
    | (refine sel none (.store _ (.tmp 2) (.tmp 357)) ?_; refine Vm_stop ?_))
  refine HoleV.mk ?_
  refine wpList_store_rowA rfl 26 (.tmp 2) (.tmp 357) rfl (w.heap.size + 1) _ rfl rfl 26 zeroPart HS8.out.rb (by rw [partC_size HS8.out.pb.len]; exact info_part) (by rw [partC_size HS8.out.pb.len]; rfl) (partC_one _ _ rfl) ?_
  intro WR hgR hbR
  have HBR := Lib.hid hbR
  have HGR := Lib.hid hgR
  clear hbR hgR
  go_wp2_with fail
  refine bodyPost_ret (results_ctt Tryz.results10 _ _ (w.heap.size + 1) 26 _ (0, 0) _ (.int .i64 (-1)) (.int .i64 (0)) rfl rfl rfl HBR.out Tryz.underlying26 rfl (by rw [partC_size HS8.out.pb.len]; exact info_part)) rfl ?_
  exact ⟨_, _, rfl, HS8.out.h1, HS8.out.h2, (HS8.out.own.keep HGR.out (fun b o e1 e2 e3 e4 => by omega)).mono (by omega), HS8.out.chg.then_new HGR.out (fun x e => by omega)⟩
set_option maxRecDepth 100000 in
set_option maxHeartbeats 8000000 in
theorem rStep_9 (p : Pt) (A : Option Addr) (c : Nat) (w : World) (hb : p.Bd) (hr : Rd w A p.mem) (hl : p.mem.length ≤ 1000000) (hs : p.st = 0) (ht : there p.mem p.pc 4 = true) (f0 f1 f2 f3 : UInt8) (hcut : cut p.mem p.pc 4 = [f0, f1, f2, f3]) (a b2 cc n : Nat) (hd : decI f0.toNat f1.toNat f2.toNat f3.toNat = ⟨9, a, b2, cc, (n : Nat)⟩) (hm : mayB ⟨9, a, b2, cc, (n : Nat)⟩ = true) :
    Calls Tryz.prog 10 #[.agg (partC p (.slice A p.mem.length c))] w (RetStep w ({ p.set a (mk2 9 (p.g b2) (p.g cc)) with pc := (p.pc + 4) % 4294967296 }) (-1) (0)) := by
  have hx1 := may_bd hm
  have ha8 : a < 8 := hx1.2.1
  have hb8 : b2 < 8 := hx1.2.2.1
  have hc8 : cc < 8 := hx1.2.2.2.1
  have hn16 : n < 65536 := hx1.2.2.2.2
  have HBd := Lib.hid hb
  obtain ⟨pv, hpv⟩ : ∃ pv, (p.pc + 4) % 4294967296 = pv := ⟨_, rfl⟩
  have HPc : Hid (((p.pc : Int) + 4) % 4294967296 = pv) := Lib.hid (by omega)
  rw [hpv]
  clear hpv
  obtain ⟨rb, hrb⟩ : ∃ rb, p.g b2 = rb := ⟨_, rfl⟩
  obtain ⟨rc, hrc⟩ : ∃ rc, p.g cc = rc := ⟨_, rfl⟩
  obtain ⟨ra, hra⟩ : ∃ ra, p.g a = ra := ⟨_, rfl⟩
  have HRb := Lib.hid hrb
  have HRc := Lib.hid hrc
  have HRa := Lib.hid hra
  rw [hrb, hrc]
  obtain ⟨mv, hmv⟩ : ∃ mv, mk2 9 rb rc = mv := ⟨_, rfl⟩
  rw [hmv]
  have HMv := Lib.hid hmv
  clear hmv
  clear hrb hrc hra
  refine rHead p A c w hb hr hl hs ht f0 f1 f2 f3 hcut 9 a b2 cc n hd hm _ ?_
  clear hd hm ht hcut hs hr hl hx1
  intro cd hcd T b ob A2 c2 v hT h12
  have j0 : ((opAt 9).name == [106, 109, 112]) = false := by decide +kernel
  have j1 : ((opAt 9).name == [106, 122]) = false := by decide +kernel
  have j2 : ((opAt 9).name == [106, 110, 122]) = false := by decide +kernel
  have s0 : ((opAt 9).name == [115, 101, 116]) = false := by decide +kernel
  have s1 : ((opAt 9).name == [104, 105, 103, 104]) = false := by decide +kernel
  have s2 : ((opAt 9).name == [109, 111, 118]) = false := by decide +kernel
  have s3 : ((opAt 9).name == [97, 100, 100]) = false := by decide +kernel
  have s4 : ((opAt 9).name == [115, 117, 98]) = false := by decide +kernel
  have s5 : ((opAt 9).name == [109, 117, 108]) = false := by decide +kernel
  have s6 : ((opAt 9).name == [97, 110, 100]) = false := by decide +kernel
  have s7 : ((opAt 9).name == [111, 114]) = false := by decide +kernel
  have s8 : ((opAt 9).name == [120, 111, 114]) = true := by decide +kernel
  obtain ⟨N, hN⟩ : ∃ N, (opAt 9).name = N := ⟨_, rfl⟩
  rw [hN] at hT j0 j1 j2 s0 s1 s2 s3 s4 s5 s6 s7 s8
  clear hN
  refine rMid p w hb 9 a b2 cc n rb rc ha8 hb8 hc8 hn16 HRb.out HRc.out _ N j0 j1 j2 ?_ cd hcd T b ob A2 c2 v hT h12
  clear hcd hT h12 cd T b ob A2 c2 v j0 j1 j2
  intro cd hcd T b ob A2 c2 x hT h12
  have HS5 := Lib.hid h12.st
  have HX5 := Lib.hid h12.x
  have hobb := h12.lt
  obtain ⟨⟨z, o0, o1, o2, o3, o4⟩, _⟩ := (Blk5.mk h12.x).all
  have hlt := h12.st.pb.lt
  have hrb32 : rb < 4294967296 := by rw [← HRb.out]; exact hb.rb b2
  have hrc32 : rc < 4294967296 := by rw [← HRc.out]; exact hb.rb cc
  have hai : (a : Int) < 8 := by omega
  have wrn : IntKind.i64.wrap ((rb : Int) + (n : Int)) = (rb : Int) + (n : Int) := Go.IntWalk.i64_in _ (by omega)
  have wr0 : IntKind.i64.wrap (rb : Int) = (rb : Int) := Go.IntWalk.i64_in _ (by omega)
  clear h12 hb
  generalize (fun i => T.getD i undef) = y at hT
  subst hT
  refine rest_of hcd rfl ?_
  clear hcd cd
  simp only [slots16]
  have hf3 := HS5.out.pb.frozen (3 + a)
  have hga := HS5.out.pb.reg a ha8
  have hmv := HMv.out
  have hmv32 : mv < 4294967296 := by rw [← hmv]; exact mk2_lt 9 rb rc hrb32 hrc32
  rw [mk2_9] at hmv
  have hv : bits .xor .u64 (rb : Int) (rc : Int) = (mv : Int) := by rw [u64_xor_nat _ _ (by omega) (by omega)]; rw [hmv]
  clear hmv
  have HS7b := Lib.hid (HS5.out.at (setAt _ b (3 + a) (.int .u32 (mv : Nat))) (HS5.out.pb.setReg a mv ha8) rfl)
  have hpcv := HPc.out
  have hc11 : World.cell? _ ⟨b, 11, none⟩ = some (.int .u32 (p.pc : Nat)) := HS7b.out.pb.cells.2.2.2.1
  have hlt7 := HS7b.out.pb.lt
  have hf7 := HS7b.out.pb.frozen 11
  have HS8 := Lib.hid (HS7b.out.at (setAt _ b 11 (.int .u32 (pv : Nat))) (HS7b.out.pb.setPc pv) rfl)
  go_wp2_with (first
    | (refine sel (some 357) (.load _ (.tmp 5)) ?_; refine Vm_stop ?_))
  refine HoleV.mk ?_
  refine wpList_load_row rfl 26 (.tmp 5) rfl b rfl 26 _ (0, 0) _ HS8.out.pb.out Tryz.underlying26 rfl (by rw [partC_size HS8.out.pb.len]; exact info_part) ?_
  go_wp2_with (first
    | (refine sel none (.store _ (.tmp 2) (.tmp 357)) ?_; refine Vm_stop ?_))
  refine HoleV.mk ?_
  refine wpList_store_rowA rfl 26 (.tmp 2) (.tmp 357) rfl (w.heap.size + 1) _ rfl rfl 26 zeroPart HS8.out.rb (by rw [partC_size HS8.out.pb.len]; exact info_part) (by rw [partC_size HS8.out.pb.len]; rfl) (partC_one _ _ rfl) ?_
  intro WR hgR hbR
  have HBR := Lib.hid hbR
  have HGR := Lib.hid hgR
  clear hbR hgR
  go_wp2_with fail
  refine bodyPost_ret (results_ctt Tryz.results10 _ _ (w.heap.size + 1) 26 _ (0, 0) _ (.int .i64 (-1)) (.int .i64 (0)) rfl rfl rfl HBR.out Tryz.underlying26 rfl (by rw [partC_size HS8.out.pb.len]; exact info_part)) rfl ?_
  exact ⟨_, _, rfl, HS8.out.h1, HS8.out.h2, (HS8.out.own.keep HGR.out (fun b o e1 e2 e3 e4 => by omega)).mono (by omega), HS8.out.chg.then_new HGR.out (fun x e => by omega)⟩
end Go.Proofs.YtpcmnphohneddaaGreatDoor
