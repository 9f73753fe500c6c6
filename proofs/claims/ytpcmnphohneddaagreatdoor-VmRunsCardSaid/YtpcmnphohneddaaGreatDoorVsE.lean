/- The document's answer of layer 20 (citadelref20): Step, loads and stores. (Written by wip/gen_vog.py.) -/
import Derived.Test.YtpcmnphohneddaaGreatDoorVsB
namespace Go.Proofs.YtpcmnphohneddaaGreatDoor
open Go.RowKit
set_option linter.unusedVariables false

theorem chg_sz {x y z : World} (h : Chg Non x y) (k : Chg Non y z) : x.heap.size ≤ y.heap.size := h.size
set_option maxRecDepth 100000 in
set_option maxHeartbeats 8000000 in
theorem rStep_13 (p : Pt) (A : Option Addr) (c : Nat) (w : World) (hb : p.Bd) (hr : Rd w A p.mem) (hl : p.mem.length ≤ 1000000) (hs : p.st = 0) (ht : there p.mem p.pc 4 = true) (f0 f1 f2 f3 : UInt8) (hcut : cut p.mem p.pc 4 = [f0, f1, f2, f3]) (a b2 cc n : Nat) (hd : decI f0.toNat f1.toNat f2.toNat f3.toNat = ⟨13, a, b2, cc, (n : Nat)⟩) (hm : mayB ⟨13, a, b2, cc, (n : Nat)⟩ = true) (hth : there p.mem (p.g b2 + n) 1 = true) :
    Calls Tryz.prog 10 #[.agg (partC p (.slice A p.mem.length c))] w (RetStep w ({ (p.set a (num32 (cut p.mem (p.g b2 + n) 1)) : Pt) with pc := (p.pc + 4) % 4294967296 }) (-1) (0)) := by
  have hx1 := may_bd hm
  have ha8 : a < 8 := hx1.2.1
  have hb8 : b2 < 8 := hx1.2.2.1
  have hc8 : cc < 8 := hx1.2.2.2.1
  have hn16 : n < 65536 := hx1.2.2.2.2
  have HBd := Lib.hid hb
  obtain ⟨pv, hpv⟩ : ∃ pv, (p.pc + 4) % 4294967296 = pv := ⟨_, rfl⟩
  have HPc : Hid (((p.pc : Int) + 4) % 4294967296 = pv) := Lib.hid (by omega)
  rw [hpv]
  clear hpv
  obtain ⟨rb, hrb⟩ : ∃ rb, p.g b2 = rb := ⟨_, rfl⟩
  obtain ⟨rc, hrc⟩ : ∃ rc, p.g cc = rc := ⟨_, rfl⟩
  obtain ⟨ra, hra⟩ : ∃ ra, p.g a = ra := ⟨_, rfl⟩
  have HRb := Lib.hid hrb
  have HRc := Lib.hid hrc
  have HRa := Lib.hid hra
  obtain ⟨at_, hat⟩ : ∃ at_, rb + n = at_ := ⟨_, rfl⟩
  rw [hrb, hat] at hth ⊢
  have HAt := Lib.hid hat
  have HTh := Lib.hid hth
  clear hat hth
  obtain ⟨mv, hmv⟩ : ∃ mv, num32 (cut p.mem at_ 1) = mv := ⟨_, rfl⟩
  rw [hmv]
  have HMv := Lib.hid hmv
  clear hmv
  clear hrb hrc hra
  refine rHead p A c w hb hr hl hs ht f0 f1 f2 f3 hcut 13 a b2 cc n hd hm _ ?_
  clear hd hm ht hcut hs hr hl hx1
  intro cd hcd T b ob A2 c2 v hT h12
  have j0 : ((opAt 13).name == [106, 109, 112]) = false := by decide +kernel
  have j1 : ((opAt 13).name == [106, 122]) = false := by decide +kernel
  have j2 : ((opAt 13).name == [106, 110, 122]) = false := by decide +kernel
  have s0 : ((opAt 13).name == [115, 101, 116]) = false := by decide +kernel
  have s1 : ((opAt 13).name == [104, 105, 103, 104]) = false := by decide +kernel
  have s2 : ((opAt 13).name == [109, 111, 118]) = false := by decide +kernel
  have s3 : ((opAt 13).name == [97, 100, 100]) = false := by decide +kernel
  have s4 : ((opAt 13).name == [115, 117, 98]) = false := by decide +kernel
  have s5 : ((opAt 13).name == [109, 117, 108]) = false := by decide +kernel
  have s6 : ((opAt 13).name == [97, 110, 100]) = false := by decide +kernel
  have s7 : ((opAt 13).name == [111, 114]) = false := by decide +kernel
  have s8 : ((opAt 13).name == [120, 111, 114]) = false := by decide +kernel
  have s9 : ((opAt 13).name == [115, 104, 108]) = false := by decide +kernel
  have s10 : ((opAt 13).name == [115, 104, 114]) = false := by decide +kernel
  have s11 : ((opAt 13).name == [108, 101, 115, 115]) = false := by decide +kernel
  have s12 : ((opAt 13).name == [108, 98]) = true := by decide +kernel
  obtain ⟨N, hN⟩ : ∃ N, (opAt 13).name = N := ⟨_, rfl⟩
  rw [hN] at hT j0 j1 j2 s0 s1 s2 s3 s4 s5 s6 s7 s8 s9 s10 s11 s12
  clear hN
  refine rMid p w hb 13 a b2 cc n rb rc ha8 hb8 hc8 hn16 HRb.out HRc.out _ N j0 j1 j2 ?_ cd hcd T b ob A2 c2 v hT h12
  clear hcd hT h12 cd T b ob A2 c2 v j0 j1 j2
  intro cd hcd T b ob A2 c2 x hT h12
  have HS5 := Lib.hid h12.st
  have HX5 := Lib.hid h12.x
  have hobb := h12.lt
  obtain ⟨⟨z, o0, o1, o2, o3, o4⟩, _⟩ := (Blk5.mk h12.x).all
  have hlt := h12.st.pb.lt
  have hrb32 : rb < 4294967296 := by rw [← HRb.out]; exact hb.rb b2
  have hrc32 : rc < 4294967296 := by rw [← HRc.out]; exact hb.rb cc
  have hai : (a : Int) < 8 := by omega
  have wrn : IntKind.i64.wrap ((rb : Int) + (n : Int)) = (rb : Int) + (n : Int) := Go.IntWalk.i64_in _ (by omega)
  have wr0 : IntKind.i64.wrap (rb : Int) = (rb : Int) := Go.IntWalk.i64_in _ (by omega)
  clear h12 hb
  generalize (fun i => T.getD i undef) = y at hT
  subst hT
  refine rest_of hcd rfl ?_
  clear hcd cd
  simp only [slots16]
  have c13 := HS5.out.pb.cells.2.2.2.2.2
  have hati : (rb : Int) + (n : Int) = (at_ : Int) := by have := HAt.out; omega
  have hatb : at_ < 4295032832 := by omega
  clear wrn
  have wrn : IntKind.i64.wrap (at_ : Int) = (at_ : Int) := Go.IntWalk.i64_in _ (by omega)
  go_wp2_with fail
  obtain ⟨xb, hxb1⟩ := cut_one p.mem at_ (there_yes HTh.out).2
  have hnum : mv = xb.toNat := by rw [← HMv.out, hxb1]; simp [num32]
  subst hnum
  have hrd := rRead_yes A2 p.mem c2 at_ 1 x HS5.out.own.rd (by omega) (by omega) HTh.out
  rw [hxb1] at hrd
  refine hrd.mono ?_
  rintro e x2 ⟨A4, c4, rfl, r1, r2, r3, g7⟩
  obtain ⟨b4, o4b, rfl, _, hc4⟩ := r3.rd.at_ (by simp)
  have d0 := hc4 0 (by simp)
  simp only [Nat.add_zero, List.getElem_cons_zero] at d0
  have HS6 := Lib.hid (HS5.out.non g7)
  have HX6 := Lib.hid (blockN g7 HX5.out)
  have hxb8 := xb.toNat_lt
  clear z o0 o1 o2 o3 o4 c13 g7 hrd hxb1 hc4 r3
  go_wp2_with fail
  refine wp_region_still_tail 8 (by kernel_rfl) (by kernel_rfl) ?_
  simp only [List.take_succ_cons, List.take_zero, List.drop_succ_cons, List.drop_zero]
  change wpStill _ _ x2.drew (fun a' => wpList _ _ _ _ a' x2.drew) _ _
  have HS7 := Lib.hid (HS6.out.non ((Chg.refl Non _).drew) : StR w x2.drew b p A2 c2)
  have HX7 := Lib.hid (blockN ((Chg.refl Non _).drew) HX6.out)
  have d0' : x2.drew.cell? ⟨b4, o4b, none⟩ = some (.int .u8 xb.toNat) := d0
  clear d0
  generalize x2.drew = x7 at HS7 HX7 d0' ⊢
  obtain ⟨⟨z, o0, o1, o2, o3, o4⟩, _⟩ := (Blk5.mk HX7.out).all
  have hf3 := HS7.out.pb.frozen (3 + a)
  have hga := HS7.out.pb.reg a ha8
  have hlt7 := HS7.out.pb.lt
  iterate 8 still_step
  refine wpStill_nil ?_
  have HS7b := Lib.hid (HS7.out.at (setAt _ b (3 + a) (.int .u32 (xb.toNat : Nat))) (HS7.out.pb.setReg a xb.toNat ha8) rfl)
  have hpcv := HPc.out
  have hc11 : World.cell? _ ⟨b, 11, none⟩ = some (.int .u32 (p.pc : Nat)) := HS7b.out.pb.cells.2.2.2.1
  have hlt7 := HS7b.out.pb.lt
  have hf7 := HS7b.out.pb.frozen 11
  have HS8 := Lib.hid (HS7b.out.at (setAt _ b 11 (.int .u32 (pv : Nat))) (HS7b.out.pb.setPc pv) rfl)
  go_wp2_with (first
    | (refine sel (some 357) (.load _ (.tmp 5)) ?_; refine Vm_stop ?_))
  refine HoleV.mk ?_
  refine wpList_load_row rfl 26 (.tmp 5) rfl b rfl 26 _ (0, 0) _ HS8.out.pb.out Tryz.underlying26 rfl (by rw [partC_size HS8.out.pb.len]; exact info_part) ?_
  go_wp2_with (first
    | (refine sel none (.store _ (.tmp 2) (.tmp 357)) ?_; refine Vm_stop ?_))
  refine HoleV.mk ?_
  refine wpList_store_rowA rfl 26 (.tmp 2) (.tmp 357) rfl (w.heap.size + 1) _ rfl rfl 26 zeroPart HS8.out.rb (by rw [partC_size HS8.out.pb.len]; exact info_part) (by rw [partC_size HS8.out.pb.len]; rfl) (partC_one _ _ rfl) ?_
  intro WR hgR hbR
  have HBR := Lib.hid hbR
  have HGR := Lib.hid hgR
  clear hbR hgR
  go_wp2_with fail
  refine bodyPost_ret (results_ctt Tryz.results10 _ _ (w.heap.size + 1) 26 _ (0, 0) _ (.int .i64 (-1)) (.int .i64 (0)) rfl rfl rfl HBR.out Tryz.underlying26 rfl (by rw [partC_size HS8.out.pb.len]; exact info_part)) rfl ?_
  exact ⟨_, _, rfl, HS8.out.h1, HS8.out.h2, (HS8.out.own.keep HGR.out (fun b o e1 e2 e3 e4 => by omega)).mono (by omega), HS8.out.chg.then_new HGR.out (fun x e => by omega)⟩
set_option maxRecDepth 100000 in
set_option maxHeartbeats 8000000 in
theorem rStep_13n (p : Pt) (A : Option Addr) (c : Nat) (w : World) (hb : p.Bd) (hr : Rd w A p.mem) (hl : p.mem.length ≤ 1000000) (hs : p.st = 0) (ht : there p.mem p.pc 4 = true) (f0 f1 f2 f3 : UInt8) (hcut : cut p.mem p.pc 4 = [f0, f1, f2, f3]) (a b2 cc n : Nat) (hd : decI f0.toNat f1.toNat f2.toNat f3.toNat = ⟨13, a, b2, cc, (n : Nat)⟩) (hm : mayB ⟨13, a, b2, cc, (n : Nat)⟩ = true) (hth : there p.mem (p.g b2 + n) 1 = false) :
    Calls Tryz.prog 10 #[.agg (partC p (.slice A p.mem.length c))] w (RetStep w ({ p with st := 3 }) (-1) (0)) := by
  have hx1 := may_bd hm
  have ha8 : a < 8 := hx1.2.1
  have hb8 : b2 < 8 := hx1.2.2.1
  have hc8 : cc < 8 := hx1.2.2.2.1
  have hn16 : n < 65536 := hx1.2.2.2.2
  have HBd := Lib.hid hb
  obtain ⟨rb, hrb⟩ : ∃ rb, p.g b2 = rb := ⟨_, rfl⟩
  obtain ⟨rc, hrc⟩ : ∃ rc, p.g cc = rc := ⟨_, rfl⟩
  obtain ⟨ra, hra⟩ : ∃ ra, p.g a = ra := ⟨_, rfl⟩
  have HRb := Lib.hid hrb
  have HRc := Lib.hid hrc
  have HRa := Lib.hid hra
  obtain ⟨at_, hat⟩ : ∃ at_, rb + n = at_ := ⟨_, rfl⟩
  rw [hrb, hat] at hth
  have HAt := Lib.hid hat
  have HTh := Lib.hid hth
  clear hat hth
  clear hrb hrc hra
  refine rHead p A c w hb hr hl hs ht f0 f1 f2 f3 hcut 13 a b2 cc n hd hm _ ?_
  clear hd hm ht hcut hs hr hl hx1
  intro cd hcd T b ob A2 c2 v hT h12
  have j0 : ((opAt 13).name == [106, 109, 112]) = false := by decide +kernel
  have j1 : ((opAt 13).name == [106, 122]) = false := by decide +kernel
  have j2 : ((opAt 13).name == [106, 110, 122]) = false := by decide +kernel
  have s0 : ((opAt 13).name == [115, 101, 116]) = false := by decide +kernel
  have s1 : ((opAt 13).name == [104, 105, 103, 104]) = false := by decide +kernel
  have s2 : ((opAt 13).name == [109, 111, 118]) = false := by decide +kernel
  have s3 : ((opAt 13).name == [97, 100, 100]) = false := by decide +kernel
  have s4 : ((opAt 13).name == [115, 117, 98]) = false := by decide +kernel
  have s5 : ((opAt 13).name == [109, 117, 108]) = false := by decide +kernel
  have s6 : ((opAt 13).name == [97, 110, 100]) = false := by decide +kernel
  have s7 : ((opAt 13).name == [111, 114]) = false := by decide +kernel
  have s8 : ((opAt 13).name == [120, 111, 114]) = false := by decide +kernel
  have s9 : ((opAt 13).name == [115, 104, 108]) = false := by decide +kernel
  have s10 : ((opAt 13).name == [115, 104, 114]) = false := by decide +kernel
  have s11 : ((opAt 13).name == [108, 101, 115, 115]) = false := by decide +kernel
  have s12 : ((opAt 13).name == [108, 98]) = true := by decide +kernel
  obtain ⟨N, hN⟩ : ∃ N, (opAt 13).name = N := ⟨_, rfl⟩
  rw [hN] at hT j0 j1 j2 s0 s1 s2 s3 s4 s5 s6 s7 s8 s9 s10 s11 s12
  clear hN
  refine rMid p w hb 13 a b2 cc n rb rc ha8 hb8 hc8 hn16 HRb.out HRc.out _ N j0 j1 j2 ?_ cd hcd T b ob A2 c2 v hT h12
  clear hcd hT h12 cd T b ob A2 c2 v j0 j1 j2
  intro cd hcd T b ob A2 c2 x hT h12
  have HS5 := Lib.hid h12.st
  have HX5 := Lib.hid h12.x
  have hobb := h12.lt
  obtain ⟨⟨z, o0, o1, o2, o3, o4⟩, _⟩ := (Blk5.mk h12.x).all
  have hlt := h12.st.pb.lt
  have hrb32 : rb < 4294967296 := by rw [← HRb.out]; exact hb.rb b2
  have hrc32 : rc < 4294967296 := by rw [← HRc.out]; exact hb.rb cc
  have hai : (a : Int) < 8 := by omega
  have wrn : IntKind.i64.wrap ((rb : Int) + (n : Int)) = (rb : Int) + (n : Int) := Go.IntWalk.i64_in _ (by omega)
  have wr0 : IntKind.i64.wrap (rb : Int) = (rb : Int) := Go.IntWalk.i64_in _ (by omega)
  clear h12 hb
  generalize (fun i => T.getD i undef) = y at hT
  subst hT
  refine rest_of hcd rfl ?_
  clear hcd cd
  simp only [slots16]
  have c13 := HS5.out.pb.cells.2.2.2.2.2
  have hati : (rb : Int) + (n : Int) = (at_ : Int) := by have := HAt.out; omega
  have hatb : at_ < 4295032832 := by omega
  clear wrn
  have wrn : IntKind.i64.wrap (at_ : Int) = (at_ : Int) := Go.IntWalk.i64_in _ (by omega)
  go_wp2_with fail
  refine (rRead_no A2 p.mem c2 at_ 1 _ (by omega) (by omega) HTh.out).mono ?_
  rintro e x2 ⟨er, hern, her0, rfl, rfl⟩
  have c12 := HS5.out.pb.cells.2.2.2.2.1
  have hlt := HS5.out.pb.lt
  have hf := HS5.out.pb.frozen 12
  have HS8 := Lib.hid (HS5.out.at (setAt _ b 12 (.int .u8 3)) (HS5.out.pb.setSt 3) rfl)
  go_wp2_with (first
    | (refine sel (some 352) (.load _ (.tmp 5)) ?_; refine Vm_stop ?_))
  refine HoleV.mk ?_
  refine wpList_load_row rfl 26 (.tmp 5) rfl b rfl 26 _ (0, 0) _ HS8.out.pb.out Tryz.underlying26 rfl (by rw [partC_size HS8.out.pb.len]; exact info_part) ?_
  go_wp2_with (first
    | (refine sel none (.store _ (.tmp 2) (.tmp 352)) ?_; refine Vm_stop ?_))
  refine HoleV.mk ?_
  refine wpList_store_rowA rfl 26 (.tmp 2) (.tmp 352) rfl (w.heap.size + 1) _ rfl rfl 26 zeroPart HS8.out.rb (by rw [partC_size HS8.out.pb.len]; exact info_part) (by rw [partC_size HS8.out.pb.len]; rfl) (partC_one _ _ rfl) ?_
  intro WR hgR hbR
  have HBR := Lib.hid hbR
  have HGR := Lib.hid hgR
  clear hbR hgR
  go_wp2_with fail
  refine bodyPost_ret (results_ctt Tryz.results10 _ _ (w.heap.size + 1) 26 _ (0, 0) _ (.int .i64 (-1)) (.int .i64 (0)) rfl rfl rfl HBR.out Tryz.underlying26 rfl (by rw [partC_size HS8.out.pb.len]; exact info_part)) rfl ?_
  exact ⟨_, _, rfl, HS8.out.h1, HS8.out.h2, (HS8.out.own.keep HGR.out (fun b o e1 e2 e3 e4 => by omega)).mono (by omega), HS8.out.chg.then_new HGR.out (fun x e => by omega)⟩
set_option maxRecDepth 100000 in
set_option maxHeartbeats 8000000 in
theorem rStep_15 (p : Pt) (A : Option Addr) (c : Nat) (w : World) (hb : p.Bd) (hr : Rd w A p.mem) (hl : p.mem.length ≤ 1000000) (hs : p.st = 0) (ht : there p.mem p.pc 4 = true) (f0 f1 f2 f3 : UInt8) (hcut : cut p.mem p.pc 4 = [f0, f1, f2, f3]) (a b2 cc n : Nat) (hd : decI f0.toNat f1.toNat f2.toNat f3.toNat = ⟨15, a, b2, cc, (n : Nat)⟩) (hm : mayB ⟨15, a, b2, cc, (n : Nat)⟩ = true) (hth : there p.mem (p.g b2 + n) 4 = true) :
    Calls Tryz.prog 10 #[.agg (partC p (.slice A p.mem.length c))] w (RetStep w ({ (p.set a (num32 (cut p.mem (p.g b2 + n) 4)) : Pt) with pc := (p.pc + 4) % 4294967296 }) (-1) (0)) := by
  have hx1 := may_bd hm
  have ha8 : a < 8 := hx1.2.1
  have hb8 : b2 < 8 := hx1.2.2.1
  have hc8 : cc < 8 := hx1.2.2.2.1
  have hn16 : n < 65536 := hx1.2.2.2.2
  have HBd := Lib.hid hb
  obtain ⟨pv, hpv⟩ : ∃ pv, (p.pc + 4) % 4294967296 = pv := ⟨_, rfl⟩
  have HPc : Hid (((p.pc : Int) + 4) % 4294967296 = pv) := Lib.hid (by omega)
  rw [hpv]
  clear hpv
  obtain ⟨rb, hrb⟩ : ∃ rb, p.g b2 = rb := ⟨_, rfl⟩
  obtain ⟨rc, hrc⟩ : ∃ rc, p.g cc = rc := ⟨_, rfl⟩
  obtain ⟨ra, hra⟩ : ∃ ra, p.g a = ra := ⟨_, rfl⟩
  have HRb := Lib.hid hrb
  have HRc := Lib.hid hrc
  have HRa := Lib.hid hra
  obtain ⟨at_, hat⟩ : ∃ at_, rb + n = at_ := ⟨_, rfl⟩
  rw [hrb, hat] at hth ⊢
  have HAt := Lib.hid hat
  have HTh := Lib.hid hth
  clear hat hth
  obtain ⟨mv, hmv⟩ : ∃ mv, num32 (cut p.mem at_ 4) = mv := ⟨_, rfl⟩
  rw [hmv]
  have HMv := Lib.hid hmv
  clear hmv
  clear hrb hrc hra
  refine rHead p A c w hb hr hl hs ht f0 f1 f2 f3 hcut 15 a b2 cc n hd hm _ ?_
  clear hd hm ht hcut hs hr hl hx1
  intro cd hcd T b ob A2 c2 v hT h12
  have j0 : ((opAt 15).name == [106, 109, 112]) = false := by decide +kernel
  have j1 : ((opAt 15).name == [106, 122]) = false := by decide +kernel
  have j2 : ((opAt 15).name == [106, 110, 122]) = false := by decide +kernel
  have s0 : ((opAt 15).name == [115, 101, 116]) = false := by decide +kernel
  have s1 : ((opAt 15).name == [104, 105, 103, 104]) = false := by decide +kernel
  have s2 : ((opAt 15).name == [109, 111, 118]) = false := by decide +kernel
  have s3 : ((opAt 15).name == [97, 100, 100]) = false := by decide +kernel
  have s4 : ((opAt 15).name == [115, 117, 98]) = false := by decide +kernel
  have s5 : ((opAt 15).name == [109, 117, 108]) = false := by decide +kernel
  have s6 : ((opAt 15).name == [97, 110, 100]) = false := by decide +kernel
  have s7 : ((opAt 15).name == [111, 114]) = false := by decide +kernel
  have s8 : ((opAt 15).name == [120, 111, 114]) = false := by decide +kernel
  have s9 : ((opAt 15).name == [115, 104, 108]) = false := by decide +kernel
  have s10 : ((opAt 15).name == [115, 104, 114]) = false := by decide +kernel
  have s11 : ((opAt 15).name == [108, 101, 115, 115]) = false := by decide +kernel
  have s12 : ((opAt 15).name == [108, 98]) = false := by decide +kernel
  have s13 : ((opAt 15).name == [108, 119]) = true := by decide +kernel
  obtain ⟨N, hN⟩ : ∃ N, (opAt 15).name = N := ⟨_, rfl⟩
  rw [hN] at hT j0 j1 j2 s0 s1 s2 s3 s4 s5 s6 s7 s8 s9 s10 s11 s12 s13
  clear hN
  refine rMid p w hb 15 a b2 cc n rb rc ha8 hb8 hc8 hn16 HRb.out HRc.out _ N j0 j1 j2 ?_ cd hcd T b ob A2 c2 v hT h12
  clear hcd hT h12 cd T b ob A2 c2 v j0 j1 j2
  intro cd hcd T b ob A2 c2 x hT h12
  have HS5 := Lib.hid h12.st
  have HX5 := Lib.hid h12.x
  have hobb := h12.lt
  obtain ⟨⟨z, o0, o1, o2, o3, o4⟩, _⟩ := (Blk5.mk h12.x).all
  have hlt := h12.st.pb.lt
  have hrb32 : rb < 4294967296 := by rw [← HRb.out]; exact hb.rb b2
  have hrc32 : rc < 4294967296 := by rw [← HRc.out]; exact hb.rb cc
  have hai : (a : Int) < 8 := by omega
  have wrn : IntKind.i64.wrap ((rb : Int) + (n : Int)) = (rb : Int) + (n : Int) := Go.IntWalk.i64_in _ (by omega)
  have wr0 : IntKind.i64.wrap (rb : Int) = (rb : Int) := Go.IntWalk.i64_in _ (by omega)
  clear h12 hb
  generalize (fun i => T.getD i undef) = y at hT
  subst hT
  refine rest_of hcd rfl ?_
  clear hcd cd
  simp only [slots16]
  have c13 := HS5.out.pb.cells.2.2.2.2.2
  have hati : (rb : Int) + (n : Int) = (at_ : Int) := by have := HAt.out; omega
  have hatb : at_ < 4295032832 := by omega
  clear wrn
  have wrn : IntKind.i64.wrap (at_ : Int) = (at_ : Int) := Go.IntWalk.i64_in _ (by omega)
  go_wp2_with fail
  have hn4 := num32_lt (cut p.mem at_ 4) (cut_le _ _ _)
  rw [HMv.out] at hn4
  have hld := rLoad_yes A2 p.mem c2 at_ x HS5.out.own.rd HTh.out
  rw [HMv.out] at hld
  refine hld.mono ?_
  rintro e x2 ⟨rfl, g7⟩
  have HS6 := Lib.hid (HS5.out.non g7)
  have HX6 := Lib.hid (blockN g7 HX5.out)
  clear z o0 o1 o2 o3 o4 c13 g7 hld
  obtain ⟨⟨z, o0, o1, o2, o3, o4⟩, _⟩ := (Blk5.mk HX6.out).all
  have hf3 := HS6.out.pb.frozen (3 + a)
  have hga := HS6.out.pb.reg a ha8
  have hlt7 := HS6.out.pb.lt
  have HS7b := Lib.hid (HS6.out.at (setAt _ b (3 + a) (.int .u32 (mv : Nat))) (HS6.out.pb.setReg a mv ha8) rfl)
  have hpcv := HPc.out
  have hc11 : World.cell? _ ⟨b, 11, none⟩ = some (.int .u32 (p.pc : Nat)) := HS7b.out.pb.cells.2.2.2.1
  have hlt7 := HS7b.out.pb.lt
  have hf7 := HS7b.out.pb.frozen 11
  have HS8 := Lib.hid (HS7b.out.at (setAt _ b 11 (.int .u32 (pv : Nat))) (HS7b.out.pb.setPc pv) rfl)
  go_wp2_with (first
    | (refine sel (some 357) (.load _ (.tmp 5)) ?_; refine Vm_stop ?_))
  refine HoleV.mk ?_
  refine wpList_load_row rfl 26 (.tmp 5) rfl b rfl 26 _ (0, 0) _ HS8.out.pb.out Tryz.underlying26 rfl (by rw [partC_size HS8.out.pb.len]; exact info_part) ?_
  go_wp2_with (first
    | (refine sel none (.store _ (.tmp 2) (.tmp 357)) ?_; refine Vm_stop ?_))
  refine HoleV.mk ?_
  refine wpList_store_rowA rfl 26 (.tmp 2) (.tmp 357) rfl (w.heap.size + 1) _ rfl rfl 26 zeroPart HS8.out.rb (by rw [partC_size HS8.out.pb.len]; exact info_part) (by rw [partC_size HS8.out.pb.len]; rfl) (partC_one _ _ rfl) ?_
  intro WR hgR hbR
  have HBR := Lib.hid hbR
  have HGR := Lib.hid hgR
  clear hbR hgR
  go_wp2_with fail
  refine bodyPost_ret (results_ctt Tryz.results10 _ _ (w.heap.size + 1) 26 _ (0, 0) _ (.int .i64 (-1)) (.int .i64 (0)) rfl rfl rfl HBR.out Tryz.underlying26 rfl (by rw [partC_size HS8.out.pb.len]; exact info_part)) rfl ?_
  exact ⟨_, _, rfl, HS8.out.h1, HS8.out.h2, (HS8.out.own.keep HGR.out (fun b o e1 e2 e3 e4 => by omega)).mono (by omega), HS8.out.chg.then_new HGR.out (fun x e => by omega)⟩
set_option maxRecDepth 100000 in
set_option maxHeartbeats 8000000 in
theorem rStep_15n (p : Pt) (A : Option Addr) (c : Nat) (w : World) (hb : p.Bd) (hr : Rd w A p.mem) (hl : p.mem.length ≤ 1000000) (hs : p.st = 0) (ht : there p.mem p.pc 4 = true) (f0 f1 f2 f3 : UInt8) (hcut : cut p.mem p.pc 4 = [f0, f1, f2, f3]) (a b2 cc n : Nat) (hd : decI f0.toNat f1.toNat f2.toNat f3.toNat = ⟨15, a, b2, cc, (n : Nat)⟩) (hm : mayB ⟨15, a, b2, cc, (n : Nat)⟩ = true) (hth : there p.mem (p.g b2 + n) 4 = false) :
    Calls Tryz.prog 10 #[.agg (partC p (.slice A p.mem.length c))] w (RetStep w ({ p with st := 3 }) (-1) (0)) := by
  have hx1 := may_bd hm
  have ha8 : a < 8 := hx1.2.1
  have hb8 : b2 < 8 := hx1.2.2.1
  have hc8 : cc < 8 := hx1.2.2.2.1
  have hn16 : n < 65536 := hx1.2.2.2.2
  have HBd := Lib.hid hb
  obtain ⟨rb, hrb⟩ : ∃ rb, p.g b2 = rb := ⟨_, rfl⟩
  obtain ⟨rc, hrc⟩ : ∃ rc, p.g cc = rc := ⟨_, rfl⟩
  obtain ⟨ra, hra⟩ : ∃ ra, p.g a = ra := ⟨_, rfl⟩
  have HRb := Lib.hid hrb
  have HRc := Lib.hid hrc
  have HRa := Lib.hid hra
  obtain ⟨at_, hat⟩ : ∃ at_, rb + n = at_ := ⟨_, rfl⟩
  rw [hrb, hat] at hth
  have HAt := Lib.hid hat
  have HTh := Lib.hid hth
  clear hat hth
  clear hrb hrc hra
  refine rHead p A c w hb hr hl hs ht f0 f1 f2 f3 hcut 15 a b2 cc n hd hm _ ?_
  clear hd hm ht hcut hs hr hl hx1
  intro cd hcd T b ob A2 c2 v hT h12
  have j0 : ((opAt 15).name == [106, 109, 112]) = false := by decide +kernel
  have j1 : ((opAt 15).name == [106, 122]) = false := by decide +kernel
  have j2 : ((opAt 15).name == [106, 110, 122]) = false := by decide +kernel
  have s0 : ((opAt 15).name == [115, 101, 116]) = false := by decide +kernel
  have s1 : ((opAt 15).name == [104, 105, 103, 104]) = false := by decide +kernel
  have s2 : ((opAt 15).name == [109, 111, 118]) = false := by decide +kernel
  have s3 : ((opAt 15).name == [97, 100, 100]) = false := by decide +kernel
  have s4 : ((opAt 15).name == [115, 117, 98]) = false := by decide +kernel
  have s5 : ((opAt 15).name == [109, 117, 108]) = false := by decide +kernel
  have s6 : ((opAt 15).name == [97, 110, 100]) = false := by decide +kernel
  have s7 : ((opAt 15).name == [111, 114]) = false := by decide +kernel
  have s8 : ((opAt 15).name == [120, 111, 114]) = false := by decide +kernel
  have s9 : ((opAt 15).name == [115, 104, 108]) = false := by decide +kernel
  have s10 : ((opAt 15).name == [115, 104, 114]) = false := by decide +kernel
  have s11 : ((opAt 15).name == [108, 101, 115, 115]) = false := by decide +kernel
  have s12 : ((opAt 15).name == [108, 98]) = false := by decide +kernel
  have s13 : ((opAt 15).name == [108, 119]) = true := by decide +kernel
  obtain ⟨N, hN⟩ : ∃ N, (opAt 15).name = N := ⟨_, rfl⟩
  rw [hN] at hT j0 j1 j2 s0 s1 s2 s3 s4 s5 s6 s7 s8 s9 s10 s11 s12 s13
  clear hN
  refine rMid p w hb 15 a b2 cc n rb rc ha8 hb8 hc8 hn16 HRb.out HRc.out _ N j0 j1 j2 ?_ cd hcd T b ob A2 c2 v hT h12
  clear hcd hT h12 cd T b ob A2 c2 v j0 j1 j2
  intro cd hcd T b ob A2 c2 x hT h12
  have HS5 := Lib.hid h12.st
  have HX5 := Lib.hid h12.x
  have hobb := h12.lt
  obtain ⟨⟨z, o0, o1, o2, o3, o4⟩, _⟩ := (Blk5.mk h12.x).all
  have hlt := h12.st.pb.lt
  have hrb32 : rb < 4294967296 := by rw [← HRb.out]; exact hb.rb b2
  have hrc32 : rc < 4294967296 := by rw [← HRc.out]; exact hb.rb cc
  have hai : (a : Int) < 8 := by omega
  have wrn : IntKind.i64.wrap ((rb : Int) + (n : Int)) = (rb : Int) + (n : Int) := Go.IntWalk.i64_in _ (by omega)
  have wr0 : IntKind.i64.wrap (rb : Int) = (rb : Int) := Go.IntWalk.i64_in _ (by omega)
  clear h12 hb
  generalize (fun i => T.getD i undef) = y at hT
  subst hT
  refine rest_of hcd rfl ?_
  clear hcd cd
  simp only [slots16]
  have c13 := HS5.out.pb.cells.2.2.2.2.2
  have hati : (rb : Int) + (n : Int) = (at_ : Int) := by have := HAt.out; omega
  have hatb : at_ < 4295032832 := by omega
  clear wrn
  have wrn : IntKind.i64.wrap (at_ : Int) = (at_ : Int) := Go.IntWalk.i64_in _ (by omega)
  go_wp2_with fail
  refine (rLoad_no A2 p.mem c2 at_ _ (by omega) HTh.out).mono ?_
  rintro e x2 ⟨er, hern, her0, rfl, rfl⟩
  have c12 := HS5.out.pb.cells.2.2.2.2.1
  have hlt := HS5.out.pb.lt
  have hf := HS5.out.pb.frozen 12
  have HS8 := Lib.hid (HS5.out.at (setAt _ b 12 (.int .u8 3)) (HS5.out.pb.setSt 3) rfl)
  go_wp2_with (first
    | (refine sel (some 352) (.load _ (.tmp 5)) ?_; refine Vm_stop ?_))
  refine HoleV.mk ?_
  refine wpList_load_row rfl 26 (.tmp 5) rfl b rfl 26 _ (0, 0) _ HS8.out.pb.out Tryz.underlying26 rfl (by rw [partC_size HS8.out.pb.len]; exact info_part) ?_
  go_wp2_with (first
    | (refine sel none (.store _ (.tmp 2) (.tmp 352)) ?_; refine Vm_stop ?_))
  refine HoleV.mk ?_
  refine wpList_store_rowA rfl 26 (.tmp 2) (.tmp 352) rfl (w.heap.size + 1) _ rfl rfl 26 zeroPart HS8.out.rb (by rw [partC_size HS8.out.pb.len]; exact info_part) (by rw [partC_size HS8.out.pb.len]; rfl) (partC_one _ _ rfl) ?_
  intro WR hgR hbR
  have HBR := Lib.hid hbR
  have HGR := Lib.hid hgR
  clear hbR hgR
  go_wp2_with fail
  refine bodyPost_ret (results_ctt Tryz.results10 _ _ (w.heap.size + 1) 26 _ (0, 0) _ (.int .i64 (-1)) (.int .i64 (0)) rfl rfl rfl HBR.out Tryz.underlying26 rfl (by rw [partC_size HS8.out.pb.len]; exact info_part)) rfl ?_
  exact ⟨_, _, rfl, HS8.out.h1, HS8.out.h2, (HS8.out.own.keep HGR.out (fun b o e1 e2 e3 e4 => by omega)).mono (by omega), HS8.out.chg.then_new HGR.out (fun x e => by omega)⟩
set_option maxRecDepth 100000 in
set_option maxHeartbeats 8000000 in
theorem rStep_14 (p : Pt) (A : Option Addr) (c : Nat) (w : World) (hb : p.Bd) (hr : Rd w A p.mem) (hl : p.mem.length ≤ 1000000) (hs : p.st = 0) (ht : there p.mem p.pc 4 = true) (f0 f1 f2 f3 : UInt8) (hcut : cut p.mem p.pc 4 = [f0, f1, f2, f3]) (a b2 cc n : Nat) (hd : decI f0.toNat f1.toNat f2.toNat f3.toNat = ⟨14, a, b2, cc, (n : Nat)⟩) (hm : mayB ⟨14, a, b2, cc, (n : Nat)⟩ = true) (hth : there p.mem (p.g b2 + n) 1 = true) :
    Calls Tryz.prog 10 #[.agg (partC p (.slice A p.mem.length c))] w (RetStep w ({ (({ p with mem := put p.mem (p.g b2 + n) [UInt8.ofNat (p.g a)] } : Pt) : Pt) with pc := (p.pc + 4) % 4294967296 }) (-1) (0)) := by
  have hx1 := may_bd hm
  have ha8 : a < 8 := hx1.2.1
  have hb8 : b2 < 8 := hx1.2.2.1
  have hc8 : cc < 8 := hx1.2.2.2.1
  have hn16 : n < 65536 := hx1.2.2.2.2
  have HBd := Lib.hid hb
  obtain ⟨pv, hpv⟩ : ∃ pv, (p.pc + 4) % 4294967296 = pv := ⟨_, rfl⟩
  have HPc : Hid (((p.pc : Int) + 4) % 4294967296 = pv) := Lib.hid (by omega)
  rw [hpv]
  clear hpv
  obtain ⟨rb, hrb⟩ : ∃ rb, p.g b2 = rb := ⟨_, rfl⟩
  obtain ⟨rc, hrc⟩ : ∃ rc, p.g cc = rc := ⟨_, rfl⟩
  obtain ⟨ra, hra⟩ : ∃ ra, p.g a = ra := ⟨_, rfl⟩
  have HRb := Lib.hid hrb
  have HRc := Lib.hid hrc
  have HRa := Lib.hid hra
  obtain ⟨at_, hat⟩ : ∃ at_, rb + n = at_ := ⟨_, rfl⟩
  rw [hrb, hat] at hth ⊢
  have HAt := Lib.hid hat
  have HTh := Lib.hid hth
  clear hat hth
  rw [hra]
  clear hrb hrc hra
  refine rHead p A c w hb hr hl hs ht f0 f1 f2 f3 hcut 14 a b2 cc n hd hm _ ?_
  clear hd hm ht hcut hs hr hl hx1
  intro cd hcd T b ob A2 c2 v hT h12
  have j0 : ((opAt 14).name == [106, 109, 112]) = false := by decide +kernel
  have j1 : ((opAt 14).name == [106, 122]) = false := by decide +kernel
  have j2 : ((opAt 14).name == [106, 110, 122]) = false := by decide +kernel
  have s0 : ((opAt 14).name == [115, 101, 116]) = false := by decide +kernel
  have s1 : ((opAt 14).name == [104, 105, 103, 104]) = false := by decide +kernel
  have s2 : ((opAt 14).name == [109, 111, 118]) = false := by decide +kernel
  have s3 : ((opAt 14).name == [97, 100, 100]) = false := by decide +kernel
  have s4 : ((opAt 14).name == [115, 117, 98]) = false := by decide +kernel
  have s5 : ((opAt 14).name == [109, 117, 108]) = false := by decide +kernel
  have s6 : ((opAt 14).name == [97, 110, 100]) = false := by decide +kernel
  have s7 : ((opAt 14).name == [111, 114]) = false := by decide +kernel
  have s8 : ((opAt 14).name == [120, 111, 114]) = false := by decide +kernel
  have s9 : ((opAt 14).name == [115, 104, 108]) = false := by decide +kernel
  have s10 : ((opAt 14).name == [115, 104, 114]) = false := by decide +kernel
  have s11 : ((opAt 14).name == [108, 101, 115, 115]) = false := by decide +kernel
  have s12 : ((opAt 14).name == [108, 98]) = false := by decide +kernel
  have s13 : ((opAt 14).name == [108, 119]) = false := by decide +kernel
  have s14 : ((opAt 14).name == [115, 98]) = true := by decide +kernel
  obtain ⟨N, hN⟩ : ∃ N, (opAt 14).name = N := ⟨_, rfl⟩
  rw [hN] at hT j0 j1 j2 s0 s1 s2 s3 s4 s5 s6 s7 s8 s9 s10 s11 s12 s13 s14
  clear hN
  refine rMid p w hb 14 a b2 cc n rb rc ha8 hb8 hc8 hn16 HRb.out HRc.out _ N j0 j1 j2 ?_ cd hcd T b ob A2 c2 v hT h12
  clear hcd hT h12 cd T b ob A2 c2 v j0 j1 j2
  intro cd hcd T b ob A2 c2 x hT h12
  have HS5 := Lib.hid h12.st
  have HX5 := Lib.hid h12.x
  have hobb := h12.lt
  obtain ⟨⟨z, o0, o1, o2, o3, o4⟩, _⟩ := (Blk5.mk h12.x).all
  have hlt := h12.st.pb.lt
  have hrb32 : rb < 4294967296 := by rw [← HRb.out]; exact hb.rb b2
  have hrc32 : rc < 4294967296 := by rw [← HRc.out]; exact hb.rb cc
  have hai : (a : Int) < 8 := by omega
  have wrn : IntKind.i64.wrap ((rb : Int) + (n : Int)) = (rb : Int) + (n : Int) := Go.IntWalk.i64_in _ (by omega)
  have wr0 : IntKind.i64.wrap (rb : Int) = (rb : Int) := Go.IntWalk.i64_in _ (by omega)
  clear h12 hb
  generalize (fun i => T.getD i undef) = y at hT
  subst hT
  refine rest_of hcd rfl ?_
  clear hcd cd
  simp only [slots16]
  have c13 := HS5.out.pb.cells.2.2.2.2.2
  have hati : (rb : Int) + (n : Int) = (at_ : Int) := by have := HAt.out; omega
  have hatb : at_ < 4295032832 := by omega
  clear wrn
  have wrn : IntKind.i64.wrap (at_ : Int) = (at_ : Int) := Go.IntWalk.i64_in _ (by omega)
  have hga := HS5.out.pb.reg a ha8
  have hra32 : p.g a < 4294967296 := HBd.out.rb a
  rw [HRa.out] at hga hra32
  have wt8 : (ra : Int).tmod 256 = (ra : Int) % 256 := Int.tmod_eq_emod_of_nonneg (by omega)
  have wm8 : IntKind.u8.wrap ((ra : Int) % 256) = (ra : Int) % 256 := by rw [IntKind.wrap_u8']; omega
  go_wp2_with fail
  refine wp_region_held_drew (S := fun W => Chg Non x W) (by kernel_rfl) ((Chg.refl Non _).drew) (fun hHeld => ?_)
  clear hHeld
  refine h_pure 0 (some 306) (.pointer (some ⟨b, 13, none⟩)) rfl (by kernel_rfl) (by kernel_rfl) (by kernel_rfl) (by kernel_rfl) (fun _ _ _ h => h) (by kernel_rfl) (fun W hW => by go_simp) ((Chg.refl Non _).drew) ?_
  simp only [Act.put, List.setIfInBounds_toArray, List.set_cons_zero, List.set_cons_succ]
  refine h_pure 1 (some 307) (.slice A2 p.mem.length c2) rfl (by kernel_rfl) (by kernel_rfl) (by kernel_rfl) (by kernel_rfl) (fun _ _ _ h => h) (by kernel_rfl) (fun W hW => by have hq := hW.cell_some c13 (fun e => e); go_simp) ((Chg.refl Non _).drew) ?_
  simp only [Act.put, List.setIfInBounds_toArray, List.set_cons_zero, List.set_cons_succ]
  refine h_pure 2 (some 308) (.int .i64 at_) rfl (by kernel_rfl) (by kernel_rfl) (by kernel_rfl) (by kernel_rfl) (fun _ _ _ h => h) (by kernel_rfl) (fun W hW => by go_simp) ((Chg.refl Non _).drew) ?_
  simp only [Act.put, List.setIfInBounds_toArray, List.set_cons_zero, List.set_cons_succ]
  refine h_pure 3 (some 309) (.pointer (some ⟨ob, 1, none⟩)) rfl (by kernel_rfl) (by kernel_rfl) (by kernel_rfl) (by kernel_rfl) (fun _ _ _ h => h) (by kernel_rfl) (fun W hW => by go_simp) ((Chg.refl Non _).drew) ?_
  simp only [Act.put, List.setIfInBounds_toArray, List.set_cons_zero, List.set_cons_succ]
  refine h_pure 4 (some 310) (.int .u8 a) rfl (by kernel_rfl) (by kernel_rfl) (by kernel_rfl) (by kernel_rfl) (fun _ _ _ h => h) (by kernel_rfl) (fun W hW => by have hq := hW.cell_some o1 (fun e => e); go_simp) ((Chg.refl Non _).drew) ?_
  simp only [Act.put, List.setIfInBounds_toArray, List.set_cons_zero, List.set_cons_succ]
  refine h_pure 5 (some 311) (.pointer (some ⟨b, 3, none⟩)) rfl (by kernel_rfl) (by kernel_rfl) (by kernel_rfl) (by kernel_rfl) (fun _ _ _ h => h) (by kernel_rfl) (fun W hW => by go_simp) ((Chg.refl Non _).drew) ?_
  simp only [Act.put, List.setIfInBounds_toArray, List.set_cons_zero, List.set_cons_succ]
  refine h_pure 6 (some 312) (.pointer (some ⟨b, 3 + a, none⟩)) rfl (by kernel_rfl) (by kernel_rfl) (by kernel_rfl) (by kernel_rfl) (fun _ _ _ h => h) (by kernel_rfl) (fun W hW => by go_simp) ((Chg.refl Non _).drew) ?_
  simp only [Act.put, List.setIfInBounds_toArray, List.set_cons_zero, List.set_cons_succ]
  refine h_pure 7 (some 313) (.int .u32 ra) rfl (by kernel_rfl) (by kernel_rfl) (by kernel_rfl) (by kernel_rfl) (fun _ _ _ h => h) (by kernel_rfl) (fun W hW => by have hq := hW.cell_some hga (fun e => e); go_simp) ((Chg.refl Non _).drew) ?_
  simp only [Act.put, List.setIfInBounds_toArray, List.set_cons_zero, List.set_cons_succ]
  refine h_pure 8 (some 314) (.int .u32 ((ra : Int) % 256)) rfl (by kernel_rfl) (by kernel_rfl) (by kernel_rfl) (by kernel_rfl) (fun _ _ _ h => h) (by kernel_rfl) (fun W hW => by go_simp) ((Chg.refl Non _).drew) ?_
  simp only [Act.put, List.setIfInBounds_toArray, List.set_cons_zero, List.set_cons_succ]
  refine h_pure 9 (some 315) (.int .u8 ((ra : Int) % 256)) rfl (by kernel_rfl) (by kernel_rfl) (by kernel_rfl) (by kernel_rfl) (fun _ _ _ h => h) (by kernel_rfl) (fun W hW => by go_simp) ((Chg.refl Non _).drew) ?_
  simp only [Act.put, List.setIfInBounds_toArray, List.set_cons_zero, List.set_cons_succ]
  refine h_one 10 (by kernel_rfl) rfl (by kernel_rfl) ?_
  intro K hK
  go_simp
  refine hK.out _ _ (((Chg.refl Non _).drew).alloc _) (fun _ => ?_)
  clear hK K
  refine h_one 11 (by kernel_rfl) rfl (by kernel_rfl) ?_
  intro K hK
  go_simp
  refine (rWrite_yes A2 p.mem c2 at_ (some ⟨x.heap.size, 0, none⟩) [UInt8.ofNat ra] 1 _ (HS5.out.own.rd.non (((Chg.refl Non _).drew).alloc _)) (by have h := rd_one x.drew (UInt8.ofNat ra); rw [u8_of] at h; exact h) (by simp) (by simp) HTh.out).mono ?_
  rintro e x2 ⟨A4, c4, rfl, m1, m2, m3, g7⟩
  have HG7 : Hid (Chg Non x x2) := Lib.hid ((((Chg.refl Non _).drew).alloc _).then_non g7)
  have HO7 := Lib.hid m3
  have hsz7 := g7.size
  have hszx := chg_sz (((Chg.refl Non _).drew).alloc _) g7
  clear m3 g7
  refine hK.out _ _ HG7.out (fun _ => ?_)
  clear hK K
  refine h_pure 12 (some 305) (.tuple #[.slice A4 p.mem.length c4, .int .i64 0]) rfl (by kernel_rfl) (by kernel_rfl) (by kernel_rfl) (by kernel_rfl) (fun _ _ _ h => h) (by kernel_rfl) (fun W hW => by go_simp) HG7.out ?_
  simp only [Act.put, List.setIfInBounds_toArray, List.set_cons_zero, List.set_cons_succ]
  refine h_pure 13 (some 318) (.slice A4 p.mem.length c4) rfl (by kernel_rfl) (by kernel_rfl) (by kernel_rfl) (by kernel_rfl) (fun _ _ _ h => h) (by kernel_rfl) (fun W hW => by go_simp) HG7.out ?_
  simp only [Act.put, List.setIfInBounds_toArray, List.set_cons_zero, List.set_cons_succ]
  refine h_pure 14 (some 319) (.int .i64 0) rfl (by kernel_rfl) (by kernel_rfl) (by kernel_rfl) (by kernel_rfl) (fun _ _ _ h => h) (by kernel_rfl) (fun W hW => by go_simp) HG7.out ?_
  simp only [Act.put, List.setIfInBounds_toArray, List.set_cons_zero, List.set_cons_succ]
  refine h_pure 15 (some 22) (.slice A4 p.mem.length c4) rfl (by kernel_rfl) (by kernel_rfl) (by kernel_rfl) (by kernel_rfl) (fun _ _ _ h => h) (by kernel_rfl) (fun W hW => by go_simp) HG7.out ?_
  simp only [Act.put, List.setIfInBounds_toArray, List.set_cons_zero, List.set_cons_succ]
  refine h_pure 16 (some 23) (.int .i64 0) rfl (by kernel_rfl) (by kernel_rfl) (by kernel_rfl) (by kernel_rfl) (fun _ _ _ h => h) (by kernel_rfl) (fun W hW => by go_simp) HG7.out ?_
  simp only [Act.put, List.setIfInBounds_toArray, List.set_cons_zero, List.set_cons_succ]
  refine wpAnyH_done (by kernel_rfl) ?_ _
  have HS6 := Lib.hid (HS5.out.non HG7.out)
  have hlt7 := HS6.out.pb.lt
  have hf13 := HS6.out.pb.frozen 13
  have d13 := HS6.out.pb.cells.2.2.2.2.2
  have hpl : (put p.mem at_ [UInt8.ofNat ra]).length = p.mem.length := put_len (by simpa using (there_yes HTh.out).2)
  have hbx : b < x.heap.size := HS5.out.pb.lt
  have hs1 := setAt x2 b 13 (.slice A4 p.mem.length c4)
  have hne4 : ∀ b' o', A4 = some ⟨b', o', none⟩ → put p.mem at_ [UInt8.ofNat ra] ≠ [] → b' ≠ b := fun b' o' e1 e2 => by
    subst e1
    have h1 := HO7.out.ge e2
    omega
  have HS7b := Lib.hid (HS6.out.mem hs1 (by rw [hpl]; exact HS6.out.pb.setMem (.slice A4 p.mem.length c4)) (by rw [hpl]; exact m1) m2 ((HO7.out.mono (by have := HS5.out.chg.size; have h2 := HS5.out.ge; omega)).keep hs1 (fun b' o' e1 e2 e3 => hne4 b' o' e1 e3)) hne4)
  clear hs1 hne4
  have hpcv := HPc.out
  have hc11 : World.cell? _ ⟨b, 11, none⟩ = some (.int .u32 (p.pc : Nat)) := HS7b.out.pb.cells.2.2.2.1
  have hlt7 := HS7b.out.pb.lt
  have hf7 := HS7b.out.pb.frozen 11
  have HS8 := Lib.hid (HS7b.out.at (setAt _ b 11 (.int .u32 (pv : Nat))) (HS7b.out.pb.setPc pv) rfl)
  go_wp2_with (first
    | (refine sel (some 357) (.load _ (.tmp 5)) ?_; refine Vm_stop ?_))
  refine HoleV.mk ?_
  refine wpList_load_row rfl 26 (.tmp 5) rfl b rfl 26 _ (0, 0) _ HS8.out.pb.out Tryz.underlying26 rfl (by rw [partC_size HS8.out.pb.len]; exact info_part) ?_
  go_wp2_with (first
    | (refine sel none (.store _ (.tmp 2) (.tmp 357)) ?_; refine Vm_stop ?_))
  refine HoleV.mk ?_
  refine wpList_store_rowA rfl 26 (.tmp 2) (.tmp 357) rfl (w.heap.size + 1) _ rfl rfl 26 zeroPart HS8.out.rb (by rw [partC_size HS8.out.pb.len]; exact info_part) (by rw [partC_size HS8.out.pb.len]; rfl) (partC_one _ _ rfl) ?_
  intro WR hgR hbR
  have HBR := Lib.hid hbR
  have HGR := Lib.hid hgR
  clear hbR hgR
  go_wp2_with fail
  refine bodyPost_ret (results_ctt Tryz.results10 _ _ (w.heap.size + 1) 26 _ (0, 0) _ (.int .i64 (-1)) (.int .i64 (0)) rfl rfl rfl HBR.out Tryz.underlying26 rfl (by rw [partC_size HS8.out.pb.len]; exact info_part)) rfl ?_
  exact ⟨_, _, by simp only [hpl], HS8.out.h1, HS8.out.h2, (HS8.out.own.keep HGR.out (fun b o e1 e2 e3 e4 => by omega)).mono (by omega), HS8.out.chg.then_new HGR.out (fun x e => by omega)⟩
set_option maxRecDepth 100000 in
set_option maxHeartbeats 8000000 in
theorem rStep_14n (p : Pt) (A : Option Addr) (c : Nat) (w : World) (hb : p.Bd) (hr : Rd w A p.mem) (hl : p.mem.length ≤ 1000000) (hs : p.st = 0) (ht : there p.mem p.pc 4 = true) (f0 f1 f2 f3 : UInt8) (hcut : cut p.mem p.pc 4 = [f0, f1, f2, f3]) (a b2 cc n : Nat) (hd : decI f0.toNat f1.toNat f2.toNat f3.toNat = ⟨14, a, b2, cc, (n : Nat)⟩) (hm : mayB ⟨14, a, b2, cc, (n : Nat)⟩ = true) (hth : there p.mem (p.g b2 + n) 1 = false) :
    Calls Tryz.prog 10 #[.agg (partC p (.slice A p.mem.length c))] w (RetStep w ({ p with st := 3 }) (-1) (0)) := by
  have hx1 := may_bd hm
  have ha8 : a < 8 := hx1.2.1
  have hb8 : b2 < 8 := hx1.2.2.1
  have hc8 : cc < 8 := hx1.2.2.2.1
  have hn16 : n < 65536 := hx1.2.2.2.2
  have HBd := Lib.hid hb
  obtain ⟨rb, hrb⟩ : ∃ rb, p.g b2 = rb := ⟨_, rfl⟩
  obtain ⟨rc, hrc⟩ : ∃ rc, p.g cc = rc := ⟨_, rfl⟩
  obtain ⟨ra, hra⟩ : ∃ ra, p.g a = ra := ⟨_, rfl⟩
  have HRb := Lib.hid hrb
  have HRc := Lib.hid hrc
  have HRa := Lib.hid hra
  obtain ⟨at_, hat⟩ : ∃ at_, rb + n = at_ := ⟨_, rfl⟩
  rw [hrb, hat] at hth
  have HAt := Lib.hid hat
  have HTh := Lib.hid hth
  clear hat hth
  clear hrb hrc hra
  refine rHead p A c w hb hr hl hs ht f0 f1 f2 f3 hcut 14 a b2 cc n hd hm _ ?_
  clear hd hm ht hcut hs hr hl hx1
  intro cd hcd T b ob A2 c2 v hT h12
  have j0 : ((opAt 14).name == [106, 109, 112]) = false := by decide +kernel
  have j1 : ((opAt 14).name == [106, 122]) = false := by decide +kernel
  have j2 : ((opAt 14).name == [106, 110, 122]) = false := by decide +kernel
  have s0 : ((opAt 14).name == [115, 101, 116]) = false := by decide +kernel
  have s1 : ((opAt 14).name == [104, 105, 103, 104]) = false := by decide +kernel
  have s2 : ((opAt 14).name == [109, 111, 118]) = false := by decide +kernel
  have s3 : ((opAt 14).name == [97, 100, 100]) = false := by decide +kernel
  have s4 : ((opAt 14).name == [115, 117, 98]) = false := by decide +kernel
  have s5 : ((opAt 14).name == [109, 117, 108]) = false := by decide +kernel
  have s6 : ((opAt 14).name == [97, 110, 100]) = false := by decide +kernel
  have s7 : ((opAt 14).name == [111, 114]) = false := by decide +kernel
  have s8 : ((opAt 14).name == [120, 111, 114]) = false := by decide +kernel
  have s9 : ((opAt 14).name == [115, 104, 108]) = false := by decide +kernel
  have s10 : ((opAt 14).name == [115, 104, 114]) = false := by decide +kernel
  have s11 : ((opAt 14).name == [108, 101, 115, 115]) = false := by decide +kernel
  have s12 : ((opAt 14).name == [108, 98]) = false := by decide +kernel
  have s13 : ((opAt 14).name == [108, 119]) = false := by decide +kernel
  have s14 : ((opAt 14).name == [115, 98]) = true := by decide +kernel
  obtain ⟨N, hN⟩ : ∃ N, (opAt 14).name = N := ⟨_, rfl⟩
  rw [hN] at hT j0 j1 j2 s0 s1 s2 s3 s4 s5 s6 s7 s8 s9 s10 s11 s12 s13 s14
  clear hN
  refine rMid p w hb 14 a b2 cc n rb rc ha8 hb8 hc8 hn16 HRb.out HRc.out _ N j0 j1 j2 ?_ cd hcd T b ob A2 c2 v hT h12
  clear hcd hT h12 cd T b ob A2 c2 v j0 j1 j2
  intro cd hcd T b ob A2 c2 x hT h12
  have HS5 := Lib.hid h12.st
  have HX5 := Lib.hid h12.x
  have hobb := h12.lt
  obtain ⟨⟨z, o0, o1, o2, o3, o4⟩, _⟩ := (Blk5.mk h12.x).all
  have hlt := h12.st.pb.lt
  have hrb32 : rb < 4294967296 := by rw [← HRb.out]; exact hb.rb b2
  have hrc32 : rc < 4294967296 := by rw [← HRc.out]; exact hb.rb cc
  have hai : (a : Int) < 8 := by omega
  have wrn : IntKind.i64.wrap ((rb : Int) + (n : Int)) = (rb : Int) + (n : Int) := Go.IntWalk.i64_in _ (by omega)
  have wr0 : IntKind.i64.wrap (rb : Int) = (rb : Int) := Go.IntWalk.i64_in _ (by omega)
  clear h12 hb
  generalize (fun i => T.getD i undef) = y at hT
  subst hT
  refine rest_of hcd rfl ?_
  clear hcd cd
  simp only [slots16]
  have c13 := HS5.out.pb.cells.2.2.2.2.2
  have hati : (rb : Int) + (n : Int) = (at_ : Int) := by have := HAt.out; omega
  have hatb : at_ < 4295032832 := by omega
  clear wrn
  have wrn : IntKind.i64.wrap (at_ : Int) = (at_ : Int) := Go.IntWalk.i64_in _ (by omega)
  have hga := HS5.out.pb.reg a ha8
  have hra32 : p.g a < 4294967296 := HBd.out.rb a
  rw [HRa.out] at hga hra32
  have wt8 : (ra : Int).tmod 256 = (ra : Int) % 256 := Int.tmod_eq_emod_of_nonneg (by omega)
  have wm8 : IntKind.u8.wrap ((ra : Int) % 256) = (ra : Int) % 256 := by rw [IntKind.wrap_u8']; omega
  go_wp2_with fail
  refine wp_region_held_drew (S := fun W => Chg Non x W) (by kernel_rfl) ((Chg.refl Non _).drew) (fun hHeld => ?_)
  clear hHeld
  refine h_pure 0 (some 306) (.pointer (some ⟨b, 13, none⟩)) rfl (by kernel_rfl) (by kernel_rfl) (by kernel_rfl) (by kernel_rfl) (fun _ _ _ h => h) (by kernel_rfl) (fun W hW => by go_simp) ((Chg.refl Non _).drew) ?_
  simp only [Act.put, List.setIfInBounds_toArray, List.set_cons_zero, List.set_cons_succ]
  refine h_pure 1 (some 307) (.slice A2 p.mem.length c2) rfl (by kernel_rfl) (by kernel_rfl) (by kernel_rfl) (by kernel_rfl) (fun _ _ _ h => h) (by kernel_rfl) (fun W hW => by have hq := hW.cell_some c13 (fun e => e); go_simp) ((Chg.refl Non _).drew) ?_
  simp only [Act.put, List.setIfInBounds_toArray, List.set_cons_zero, List.set_cons_succ]
  refine h_pure 2 (some 308) (.int .i64 at_) rfl (by kernel_rfl) (by kernel_rfl) (by kernel_rfl) (by kernel_rfl) (fun _ _ _ h => h) (by kernel_rfl) (fun W hW => by go_simp) ((Chg.refl Non _).drew) ?_
  simp only [Act.put, List.setIfInBounds_toArray, List.set_cons_zero, List.set_cons_succ]
  refine h_pure 3 (some 309) (.pointer (some ⟨ob, 1, none⟩)) rfl (by kernel_rfl) (by kernel_rfl) (by kernel_rfl) (by kernel_rfl) (fun _ _ _ h => h) (by kernel_rfl) (fun W hW => by go_simp) ((Chg.refl Non _).drew) ?_
  simp only [Act.put, List.setIfInBounds_toArray, List.set_cons_zero, List.set_cons_succ]
  refine h_pure 4 (some 310) (.int .u8 a) rfl (by kernel_rfl) (by kernel_rfl) (by kernel_rfl) (by kernel_rfl) (fun _ _ _ h => h) (by kernel_rfl) (fun W hW => by have hq := hW.cell_some o1 (fun e => e); go_simp) ((Chg.refl Non _).drew) ?_
  simp only [Act.put, List.setIfInBounds_toArray, List.set_cons_zero, List.set_cons_succ]
  refine h_pure 5 (some 311) (.pointer (some ⟨b, 3, none⟩)) rfl (by kernel_rfl) (by kernel_rfl) (by kernel_rfl) (by kernel_rfl) (fun _ _ _ h => h) (by kernel_rfl) (fun W hW => by go_simp) ((Chg.refl Non _).drew) ?_
  simp only [Act.put, List.setIfInBounds_toArray, List.set_cons_zero, List.set_cons_succ]
  refine h_pure 6 (some 312) (.pointer (some ⟨b, 3 + a, none⟩)) rfl (by kernel_rfl) (by kernel_rfl) (by kernel_rfl) (by kernel_rfl) (fun _ _ _ h => h) (by kernel_rfl) (fun W hW => by go_simp) ((Chg.refl Non _).drew) ?_
  simp only [Act.put, List.setIfInBounds_toArray, List.set_cons_zero, List.set_cons_succ]
  refine h_pure 7 (some 313) (.int .u32 ra) rfl (by kernel_rfl) (by kernel_rfl) (by kernel_rfl) (by kernel_rfl) (fun _ _ _ h => h) (by kernel_rfl) (fun W hW => by have hq := hW.cell_some hga (fun e => e); go_simp) ((Chg.refl Non _).drew) ?_
  simp only [Act.put, List.setIfInBounds_toArray, List.set_cons_zero, List.set_cons_succ]
  refine h_pure 8 (some 314) (.int .u32 ((ra : Int) % 256)) rfl (by kernel_rfl) (by kernel_rfl) (by kernel_rfl) (by kernel_rfl) (fun _ _ _ h => h) (by kernel_rfl) (fun W hW => by go_simp) ((Chg.refl Non _).drew) ?_
  simp only [Act.put, List.setIfInBounds_toArray, List.set_cons_zero, List.set_cons_succ]
  refine h_pure 9 (some 315) (.int .u8 ((ra : Int) % 256)) rfl (by kernel_rfl) (by kernel_rfl) (by kernel_rfl) (by kernel_rfl) (fun _ _ _ h => h) (by kernel_rfl) (fun W hW => by go_simp) ((Chg.refl Non _).drew) ?_
  simp only [Act.put, List.setIfInBounds_toArray, List.set_cons_zero, List.set_cons_succ]
  refine h_one 10 (by kernel_rfl) rfl (by kernel_rfl) ?_
  intro K hK
  go_simp
  refine hK.out _ _ (((Chg.refl Non _).drew).alloc _) (fun _ => ?_)
  clear hK K
  refine h_one 11 (by kernel_rfl) rfl (by kernel_rfl) ?_
  intro K hK
  go_simp
  refine (rWrite_no A2 p.mem c2 at_ (some ⟨x.heap.size, 0, none⟩) [UInt8.ofNat ra] 1 _ (by simp) (by omega) HTh.out).mono ?_
  rintro e x2 ⟨er, hern, her0, rfl, rfl⟩
  have HG7 : Hid (Chg Non x (x.alloc (.cells #[.int .u8 ((ra : Int) % 256)] 5)).drew) := Lib.hid (((Chg.refl Non _).drew).alloc _)
  refine hK.out _ _ HG7.out (fun _ => ?_)
  clear hK K
  refine h_pure 12 (some 305) (.tuple #[.slice none 0 0, .int .i64 er]) rfl (by kernel_rfl) (by kernel_rfl) (by kernel_rfl) (by kernel_rfl) (fun _ _ _ h => h) (by kernel_rfl) (fun W hW => by go_simp) HG7.out ?_
  simp only [Act.put, List.setIfInBounds_toArray, List.set_cons_zero, List.set_cons_succ]
  refine h_pure 13 (some 318) (.slice none 0 0) rfl (by kernel_rfl) (by kernel_rfl) (by kernel_rfl) (by kernel_rfl) (fun _ _ _ h => h) (by kernel_rfl) (fun W hW => by go_simp) HG7.out ?_
  simp only [Act.put, List.setIfInBounds_toArray, List.set_cons_zero, List.set_cons_succ]
  refine h_pure 14 (some 319) (.int .i64 er) rfl (by kernel_rfl) (by kernel_rfl) (by kernel_rfl) (by kernel_rfl) (fun _ _ _ h => h) (by kernel_rfl) (fun W hW => by go_simp) HG7.out ?_
  simp only [Act.put, List.setIfInBounds_toArray, List.set_cons_zero, List.set_cons_succ]
  refine h_pure 15 (some 22) (.slice none 0 0) rfl (by kernel_rfl) (by kernel_rfl) (by kernel_rfl) (by kernel_rfl) (fun _ _ _ h => h) (by kernel_rfl) (fun W hW => by go_simp) HG7.out ?_
  simp only [Act.put, List.setIfInBounds_toArray, List.set_cons_zero, List.set_cons_succ]
  refine h_pure 16 (some 23) (.int .i64 er) rfl (by kernel_rfl) (by kernel_rfl) (by kernel_rfl) (by kernel_rfl) (fun _ _ _ h => h) (by kernel_rfl) (fun W hW => by go_simp) HG7.out ?_
  simp only [Act.put, List.setIfInBounds_toArray, List.set_cons_zero, List.set_cons_succ]
  refine wpAnyH_done (by kernel_rfl) ?_ _
  have HS6 := Lib.hid (HS5.out.non HG7.out)
  generalize (x.alloc (.cells #[.int .u8 ((ra : Int) % 256)] 5)).drew = x8 at HS6 ⊢
  have hlt := HS6.out.pb.lt
  have hf := HS6.out.pb.frozen 12
  have c12 := HS6.out.pb.cells.2.2.2.2.1
  have HS8 := Lib.hid (HS6.out.at (setAt _ b 12 (.int .u8 3)) (HS6.out.pb.setSt 3) rfl)
  go_wp2_with (first
    | (refine sel (some 352) (.load _ (.tmp 5)) ?_; refine Vm_stop ?_))
  refine HoleV.mk ?_
  refine wpList_load_row rfl 26 (.tmp 5) rfl b rfl 26 _ (0, 0) _ HS8.out.pb.out Tryz.underlying26 rfl (by rw [partC_size HS8.out.pb.len]; exact info_part) ?_
  go_wp2_with (first
    | (refine sel none (.store _ (.tmp 2) (.tmp 352)) ?_; refine Vm_stop ?_))
  refine HoleV.mk ?_
  refine wpList_store_rowA rfl 26 (.tmp 2) (.tmp 352) rfl (w.heap.size + 1) _ rfl rfl 26 zeroPart HS8.out.rb (by rw [partC_size HS8.out.pb.len]; exact info_part) (by rw [partC_size HS8.out.pb.len]; rfl) (partC_one _ _ rfl) ?_
  intro WR hgR hbR
  have HBR := Lib.hid hbR
  have HGR := Lib.hid hgR
  clear hbR hgR
  go_wp2_with fail
  refine bodyPost_ret (results_ctt Tryz.results10 _ _ (w.heap.size + 1) 26 _ (0, 0) _ (.int .i64 (-1)) (.int .i64 (0)) rfl rfl rfl HBR.out Tryz.underlying26 rfl (by rw [partC_size HS8.out.pb.len]; exact info_part)) rfl ?_
  exact ⟨_, _, rfl, HS8.out.h1, HS8.out.h2, (HS8.out.own.keep HGR.out (fun b o e1 e2 e3 e4 => by omega)).mono (by omega), HS8.out.chg.then_new HGR.out (fun x e => by omega)⟩
set_option maxRecDepth 100000 in
set_option maxHeartbeats 8000000 in
theorem rStep_16 (p : Pt) (A : Option Addr) (c : Nat) (w : World) (hb : p.Bd) (hr : Rd w A p.mem) (hl : p.mem.length ≤ 1000000) (hs : p.st = 0) (ht : there p.mem p.pc 4 = true) (f0 f1 f2 f3 : UInt8) (hcut : cut p.mem p.pc 4 = [f0, f1, f2, f3]) (a b2 cc n : Nat) (hd : decI f0.toNat f1.toNat f2.toNat f3.toNat = ⟨16, a, b2, cc, (n : Nat)⟩) (hm : mayB ⟨16, a, b2, cc, (n : Nat)⟩ = true) (hth : there p.mem (p.g b2 + n) 4 = true) :
    Calls Tryz.prog 10 #[.agg (partC p (.slice A p.mem.length c))] w (RetStep w ({ (({ p with mem := put p.mem (p.g b2 + n) (word32 (p.g a)) } : Pt) : Pt) with pc := (p.pc + 4) % 4294967296 }) (-1) (0)) := by
  have hx1 := may_bd hm
  have ha8 : a < 8 := hx1.2.1
  have hb8 : b2 < 8 := hx1.2.2.1
  have hc8 : cc < 8 := hx1.2.2.2.1
  have hn16 : n < 65536 := hx1.2.2.2.2
  have HBd := Lib.hid hb
  obtain ⟨pv, hpv⟩ : ∃ pv, (p.pc + 4) % 4294967296 = pv := ⟨_, rfl⟩
  have HPc : Hid (((p.pc : Int) + 4) % 4294967296 = pv) := Lib.hid (by omega)
  rw [hpv]
  clear hpv
  obtain ⟨rb, hrb⟩ : ∃ rb, p.g b2 = rb := ⟨_, rfl⟩
  obtain ⟨rc, hrc⟩ : ∃ rc, p.g cc = rc := ⟨_, rfl⟩
  obtain ⟨ra, hra⟩ : ∃ ra, p.g a = ra := ⟨_, rfl⟩
  have HRb := Lib.hid hrb
  have HRc := Lib.hid hrc
  have HRa := Lib.hid hra
  obtain ⟨at_, hat⟩ : ∃ at_, rb + n = at_ := ⟨_, rfl⟩
  rw [hrb, hat] at hth ⊢
  have HAt := Lib.hid hat
  have HTh := Lib.hid hth
  clear hat hth
  rw [hra]
  clear hrb hrc hra
  refine rHead p A c w hb hr hl hs ht f0 f1 f2 f3 hcut 16 a b2 cc n hd hm _ ?_
  clear hd hm ht hcut hs hr hl hx1
  intro cd hcd T b ob A2 c2 v hT h12
  have j0 : ((opAt 16).name == [106, 109, 112]) = false := by decide +kernel
  have j1 : ((opAt 16).name == [106, 122]) = false := by decide +kernel
  have j2 : ((opAt 16).name == [106, 110, 122]) = false := by decide +kernel
  have s0 : ((opAt 16).name == [115, 101, 116]) = false := by decide +kernel
  have s1 : ((opAt 16).name == [104, 105, 103, 104]) = false := by decide +kernel
  have s2 : ((opAt 16).name == [109, 111, 118]) = false := by decide +kernel
  have s3 : ((opAt 16).name == [97, 100, 100]) = false := by decide +kernel
  have s4 : ((opAt 16).name == [115, 117, 98]) = false := by decide +kernel
  have s5 : ((opAt 16).name == [109, 117, 108]) = false := by decide +kernel
  have s6 : ((opAt 16).name == [97, 110, 100]) = false := by decide +kernel
  have s7 : ((opAt 16).name == [111, 114]) = false := by decide +kernel
  have s8 : ((opAt 16).name == [120, 111, 114]) = false := by decide +kernel
  have s9 : ((opAt 16).name == [115, 104, 108]) = false := by decide +kernel
  have s10 : ((opAt 16).name == [115, 104, 114]) = false := by decide +kernel
  have s11 : ((opAt 16).name == [108, 101, 115, 115]) = false := by decide +kernel
  have s12 : ((opAt 16).name == [108, 98]) = false := by decide +kernel
  have s13 : ((opAt 16).name == [108, 119]) = false := by decide +kernel
  have s14 : ((opAt 16).name == [115, 98]) = false := by decide +kernel
  have s15 : ((opAt 16).name == [115, 119]) = true := by decide +kernel
  obtain ⟨N, hN⟩ : ∃ N, (opAt 16).name = N := ⟨_, rfl⟩
  rw [hN] at hT j0 j1 j2 s0 s1 s2 s3 s4 s5 s6 s7 s8 s9 s10 s11 s12 s13 s14 s15
  clear hN
  refine rMid p w hb 16 a b2 cc n rb rc ha8 hb8 hc8 hn16 HRb.out HRc.out _ N j0 j1 j2 ?_ cd hcd T b ob A2 c2 v hT h12
  clear hcd hT h12 cd T b ob A2 c2 v j0 j1 j2
  intro cd hcd T b ob A2 c2 x hT h12
  have HS5 := Lib.hid h12.st
  have HX5 := Lib.hid h12.x
  have hobb := h12.lt
  obtain ⟨⟨z, o0, o1, o2, o3, o4⟩, _⟩ := (Blk5.mk h12.x).all
  have hlt := h12.st.pb.lt
  have hrb32 : rb < 4294967296 := by rw [← HRb.out]; exact hb.rb b2
  have hrc32 : rc < 4294967296 := by rw [← HRc.out]; exact hb.rb cc
  have hai : (a : Int) < 8 := by omega
  have wrn : IntKind.i64.wrap ((rb : Int) + (n : Int)) = (rb : Int) + (n : Int) := Go.IntWalk.i64_in _ (by omega)
  have wr0 : IntKind.i64.wrap (rb : Int) = (rb : Int) := Go.IntWalk.i64_in _ (by omega)
  clear h12 hb
  generalize (fun i => T.getD i undef) = y at hT
  subst hT
  refine rest_of hcd rfl ?_
  clear hcd cd
  simp only [slots16]
  have c13 := HS5.out.pb.cells.2.2.2.2.2
  have hati : (rb : Int) + (n : Int) = (at_ : Int) := by have := HAt.out; omega
  have hatb : at_ < 4295032832 := by omega
  clear wrn
  have wrn : IntKind.i64.wrap (at_ : Int) = (at_ : Int) := Go.IntWalk.i64_in _ (by omega)
  have hga := HS5.out.pb.reg a ha8
  have hra32 : p.g a < 4294967296 := HBd.out.rb a
  rw [HRa.out] at hga hra32
  have wt8 : (ra : Int).tmod 256 = (ra : Int) % 256 := Int.tmod_eq_emod_of_nonneg (by omega)
  have wm8 : IntKind.u8.wrap ((ra : Int) % 256) = (ra : Int) % 256 := by rw [IntKind.wrap_u8']; omega
  go_wp2_with fail
  refine wp_region_held_drew (S := fun W => Chg Non x W) (by kernel_rfl) ((Chg.refl Non _).drew) (fun hHeld => ?_)
  clear hHeld
  refine h_pure 0 (some 328) (.pointer (some ⟨b, 13, none⟩)) rfl (by kernel_rfl) (by kernel_rfl) (by kernel_rfl) (by kernel_rfl) (fun _ _ _ h => h) (by kernel_rfl) (fun W hW => by go_simp) ((Chg.refl Non _).drew) ?_
  simp only [Act.put, List.setIfInBounds_toArray, List.set_cons_zero, List.set_cons_succ]
  refine h_pure 1 (some 329) (.slice A2 p.mem.length c2) rfl (by kernel_rfl) (by kernel_rfl) (by kernel_rfl) (by kernel_rfl) (fun _ _ _ h => h) (by kernel_rfl) (fun W hW => by have hq := hW.cell_some c13 (fun e => e); go_simp) ((Chg.refl Non _).drew) ?_
  simp only [Act.put, List.setIfInBounds_toArray, List.set_cons_zero, List.set_cons_succ]
  refine h_pure 2 (some 330) (.int .i64 at_) rfl (by kernel_rfl) (by kernel_rfl) (by kernel_rfl) (by kernel_rfl) (fun _ _ _ h => h) (by kernel_rfl) (fun W hW => by go_simp) ((Chg.refl Non _).drew) ?_
  simp only [Act.put, List.setIfInBounds_toArray, List.set_cons_zero, List.set_cons_succ]
  refine h_pure 3 (some 331) (.pointer (some ⟨ob, 1, none⟩)) rfl (by kernel_rfl) (by kernel_rfl) (by kernel_rfl) (by kernel_rfl) (fun _ _ _ h => h) (by kernel_rfl) (fun W hW => by go_simp) ((Chg.refl Non _).drew) ?_
  simp only [Act.put, List.setIfInBounds_toArray, List.set_cons_zero, List.set_cons_succ]
  refine h_pure 4 (some 332) (.int .u8 a) rfl (by kernel_rfl) (by kernel_rfl) (by kernel_rfl) (by kernel_rfl) (fun _ _ _ h => h) (by kernel_rfl) (fun W hW => by have hq := hW.cell_some o1 (fun e => e); go_simp) ((Chg.refl Non _).drew) ?_
  simp only [Act.put, List.setIfInBounds_toArray, List.set_cons_zero, List.set_cons_succ]
  refine h_pure 5 (some 333) (.pointer (some ⟨b, 3, none⟩)) rfl (by kernel_rfl) (by kernel_rfl) (by kernel_rfl) (by kernel_rfl) (fun _ _ _ h => h) (by kernel_rfl) (fun W hW => by go_simp) ((Chg.refl Non _).drew) ?_
  simp only [Act.put, List.setIfInBounds_toArray, List.set_cons_zero, List.set_cons_succ]
  refine h_pure 6 (some 334) (.pointer (some ⟨b, 3 + a, none⟩)) rfl (by kernel_rfl) (by kernel_rfl) (by kernel_rfl) (by kernel_rfl) (fun _ _ _ h => h) (by kernel_rfl) (fun W hW => by go_simp) ((Chg.refl Non _).drew) ?_
  simp only [Act.put, List.setIfInBounds_toArray, List.set_cons_zero, List.set_cons_succ]
  refine h_pure 7 (some 335) (.int .u32 ra) rfl (by kernel_rfl) (by kernel_rfl) (by kernel_rfl) (by kernel_rfl) (fun _ _ _ h => h) (by kernel_rfl) (fun W hW => by have hq := hW.cell_some hga (fun e => e); go_simp) ((Chg.refl Non _).drew) ?_
  simp only [Act.put, List.setIfInBounds_toArray, List.set_cons_zero, List.set_cons_succ]
  refine h_one 8 (by kernel_rfl) rfl (by kernel_rfl) ?_
  intro K hK
  go_simp
  refine (rWord_ok ra hra32 _).mono ?_
  rintro e x1 ⟨rfl, hrw, gw⟩
  have HRw := Lib.hid hrw
  have HGw : Hid (Chg Non x x1) := Lib.hid (((Chg.refl Non _).drew).then_non gw)
  clear hrw gw
  refine hK.out _ _ HGw.out (fun _ => ?_)
  clear hK K
  refine h_one 9 (by kernel_rfl) rfl (by kernel_rfl) ?_
  intro K hK
  go_simp
  refine (rWrite_yes A2 p.mem c2 at_ (some ⟨x.heap.size, 0, none⟩) (word32 ra) 4 _ (HS5.out.own.rd.non HGw.out) HRw.out (by simp [word32]) (by simp [word32]) HTh.out).mono ?_
  rintro e x2 ⟨A4, c4, rfl, m1, m2, m3, g7⟩
  have HG7 : Hid (Chg Non x x2) := Lib.hid (HGw.out.then_non g7)
  have HO7 := Lib.hid m3
  have hsz7 := g7.size
  have hszx := chg_sz HGw.out g7
  clear m3 g7
  refine hK.out _ _ HG7.out (fun _ => ?_)
  clear hK K
  refine h_pure 10 (some 327) (.tuple #[.slice A4 p.mem.length c4, .int .i64 0]) rfl (by kernel_rfl) (by kernel_rfl) (by kernel_rfl) (by kernel_rfl) (fun _ _ _ h => h) (by kernel_rfl) (fun W hW => by go_simp) HG7.out ?_
  simp only [Act.put, List.setIfInBounds_toArray, List.set_cons_zero, List.set_cons_succ]
  refine h_pure 11 (some 338) (.slice A4 p.mem.length c4) rfl (by kernel_rfl) (by kernel_rfl) (by kernel_rfl) (by kernel_rfl) (fun _ _ _ h => h) (by kernel_rfl) (fun W hW => by go_simp) HG7.out ?_
  simp only [Act.put, List.setIfInBounds_toArray, List.set_cons_zero, List.set_cons_succ]
  refine h_pure 12 (some 339) (.int .i64 0) rfl (by kernel_rfl) (by kernel_rfl) (by kernel_rfl) (by kernel_rfl) (fun _ _ _ h => h) (by kernel_rfl) (fun W hW => by go_simp) HG7.out ?_
  simp only [Act.put, List.setIfInBounds_toArray, List.set_cons_zero, List.set_cons_succ]
  refine h_pure 13 (some 24) (.slice A4 p.mem.length c4) rfl (by kernel_rfl) (by kernel_rfl) (by kernel_rfl) (by kernel_rfl) (fun _ _ _ h => h) (by kernel_rfl) (fun W hW => by go_simp) HG7.out ?_
  simp only [Act.put, List.setIfInBounds_toArray, List.set_cons_zero, List.set_cons_succ]
  refine h_pure 14 (some 25) (.int .i64 0) rfl (by kernel_rfl) (by kernel_rfl) (by kernel_rfl) (by kernel_rfl) (fun _ _ _ h => h) (by kernel_rfl) (fun W hW => by go_simp) HG7.out ?_
  simp only [Act.put, List.setIfInBounds_toArray, List.set_cons_zero, List.set_cons_succ]
  refine wpAnyH_done (by kernel_rfl) ?_ _
  have HS6 := Lib.hid (HS5.out.non HG7.out)
  have hlt7 := HS6.out.pb.lt
  have hf13 := HS6.out.pb.frozen 13
  have d13 := HS6.out.pb.cells.2.2.2.2.2
  have hpl : (put p.mem at_ (word32 ra)).length = p.mem.length := put_len (by simpa [word32] using (there_yes HTh.out).2)
  have hbx : b < x.heap.size := HS5.out.pb.lt
  have hs1 := setAt x2 b 13 (.slice A4 p.mem.length c4)
  have hne4 : ∀ b' o', A4 = some ⟨b', o', none⟩ → put p.mem at_ (word32 ra) ≠ [] → b' ≠ b := fun b' o' e1 e2 => by
    subst e1
    have h1 := HO7.out.ge e2
    omega
  have HS7b := Lib.hid (HS6.out.mem hs1 (by rw [hpl]; exact HS6.out.pb.setMem (.slice A4 p.mem.length c4)) (by rw [hpl]; exact m1) m2 ((HO7.out.mono (by have := HS5.out.chg.size; have h2 := HS5.out.ge; omega)).keep hs1 (fun b' o' e1 e2 e3 => hne4 b' o' e1 e3)) hne4)
  clear hs1 hne4
  have hpcv := HPc.out
  have hc11 : World.cell? _ ⟨b, 11, none⟩ = some (.int .u32 (p.pc : Nat)) := HS7b.out.pb.cells.2.2.2.1
  have hlt7 := HS7b.out.pb.lt
  have hf7 := HS7b.out.pb.frozen 11
  have HS8 := Lib.hid (HS7b.out.at (setAt _ b 11 (.int .u32 (pv : Nat))) (HS7b.out.pb.setPc pv) rfl)
  go_wp2_with (first
    | (refine sel (some 357) (.load _ (.tmp 5)) ?_; refine Vm_stop ?_))
  refine HoleV.mk ?_
  refine wpList_load_row rfl 26 (.tmp 5) rfl b rfl 26 _ (0, 0) _ HS8.out.pb.out Tryz.underlying26 rfl (by rw [partC_size HS8.out.pb.len]; exact info_part) ?_
  go_wp2_with (first
    | (refine sel none (.store _ (.tmp 2) (.tmp 357)) ?_; refine Vm_stop ?_))
  refine HoleV.mk ?_
  refine wpList_store_rowA rfl 26 (.tmp 2) (.tmp 357) rfl (w.heap.size + 1) _ rfl rfl 26 zeroPart HS8.out.rb (by rw [partC_size HS8.out.pb.len]; exact info_part) (by rw [partC_size HS8.out.pb.len]; rfl) (partC_one _ _ rfl) ?_
  intro WR hgR hbR
  have HBR := Lib.hid hbR
  have HGR := Lib.hid hgR
  clear hbR hgR
  go_wp2_with fail
  refine bodyPost_ret (results_ctt Tryz.results10 _ _ (w.heap.size + 1) 26 _ (0, 0) _ (.int .i64 (-1)) (.int .i64 (0)) rfl rfl rfl HBR.out Tryz.underlying26 rfl (by rw [partC_size HS8.out.pb.len]; exact info_part)) rfl ?_
  exact ⟨_, _, by simp only [hpl], HS8.out.h1, HS8.out.h2, (HS8.out.own.keep HGR.out (fun b o e1 e2 e3 e4 => by omega)).mono (by omega), HS8.out.chg.then_new HGR.out (fun x e => by omega)⟩
set_option maxRecDepth 100000 in
set_option maxHeartbeats 8000000 in
theorem rStep_16n (p : Pt) (A : Option Addr) (c : Nat) (w : World) (hb : p.Bd) (hr : Rd w A p.mem) (hl : p.mem.length ≤ 1000000) (hs : p.st = 0) (ht : there p.mem p.pc 4 = true) (f0 f1 f2 f3 : UInt8) (hcut : cut p.mem p.pc 4 = [f0, f1, f2, f3]) (a b2 cc n : Nat) (hd : decI f0.toNat f1.toNat f2.toNat f3.toNat = ⟨16, a, b2, cc, (n : Nat)⟩) (hm : mayB ⟨16, a, b2, cc, (n : Nat)⟩ = true) (hth : there p.mem (p.g b2 + n) 4 = false) :
    Calls Tryz.prog 10 #[.agg (partC p (.slice A p.mem.length c))] w (RetStep w ({ p with st := 3 }) (-1) (0)) := by
  have hx1 := may_bd hm
  have ha8 : a < 8 := hx1.2.1
  have hb8 : b2 < 8 := hx1.2.2.1
  have hc8 : cc < 8 := hx1.2.2.2.1
  have hn16 : n < 65536 := hx1.2.2.2.2
  have HBd := Lib.hid hb
  obtain ⟨rb, hrb⟩ : ∃ rb, p.g b2 = rb := ⟨_, rfl⟩
  obtain ⟨rc, hrc⟩ : ∃ rc, p.g cc = rc := ⟨_, rfl⟩
  obtain ⟨ra, hra⟩ : ∃ ra, p.g a = ra := ⟨_, rfl⟩
  have HRb := Lib.hid hrb
  have HRc := Lib.hid hrc
  have HRa := Lib.hid hra
  obtain ⟨at_, hat⟩ : ∃ at_, rb + n = at_ := ⟨_, rfl⟩
  rw [hrb, hat] at hth
  have HAt := Lib.hid hat
  have HTh := Lib.hid hth
  clear hat hth
  clear hrb hrc hra
  refine rHead p A c w hb hr hl hs ht f0 f1 f2 f3 hcut 16 a b2 cc n hd hm _ ?_
  clear hd hm ht hcut hs hr hl hx1
  intro cd hcd T b ob A2 c2 v hT h12
  have j0 : ((opAt 16).name == [106, 109, 112]) = false := by decide +kernel
  have j1 : ((opAt 16).name == [106, 122]) = false := by decide +kernel
  have j2 : ((opAt 16).name == [106, 110, 122]) = false := by decide +kernel
  have s0 : ((opAt 16).name == [115, 101, 116]) = false := by decide +kernel
  have s1 : ((opAt 16).name == [104, 105, 103, 104]) = false := by decide +kernel
  have s2 : ((opAt 16).name == [109, 111, 118]) = false := by decide +kernel
  have s3 : ((opAt 16).name == [97, 100, 100]) = false := by decide +kernel
  have s4 : ((opAt 16).name == [115, 117, 98]) = false := by decide +kernel
  have s5 : ((opAt 16).name == [109, 117, 108]) = false := by decide +kernel
  have s6 : ((opAt 16).name == [97, 110, 100]) = false := by decide +kernel
  have s7 : ((opAt 16).name == [111, 114]) = false := by decide +kernel
  have s8 : ((opAt 16).name == [120, 111, 114]) = false := by decide +kernel
  have s9 : ((opAt 16).name == [115, 104, 108]) = false := by decide +kernel
  have s10 : ((opAt 16).name == [115, 104, 114]) = false := by decide +kernel
  have s11 : ((opAt 16).name == [108, 101, 115, 115]) = false := by decide +kernel
  have s12 : ((opAt 16).name == [108, 98]) = false := by decide +kernel
  have s13 : ((opAt 16).name == [108, 119]) = false := by decide +kernel
  have s14 : ((opAt 16).name == [115, 98]) = false := by decide +kernel
  have s15 : ((opAt 16).name == [115, 119]) = true := by decide +kernel
  obtain ⟨N, hN⟩ : ∃ N, (opAt 16).name = N := ⟨_, rfl⟩
  rw [hN] at hT j0 j1 j2 s0 s1 s2 s3 s4 s5 s6 s7 s8 s9 s10 s11 s12 s13 s14 s15
  clear hN
  refine rMid p w hb 16 a b2 cc n rb rc ha8 hb8 hc8 hn16 HRb.out HRc.out _ N j0 j1 j2 ?_ cd hcd T b ob A2 c2 v hT h12
  clear hcd hT h12 cd T b ob A2 c2 v j0 j1 j2
  intro cd hcd T b ob A2 c2 x hT h12
  have HS5 := Lib.hid h12.st
  have HX5 := Lib.hid h12.x
  have hobb := h12.lt
  obtain ⟨⟨z, o0, o1, o2, o3, o4⟩, _⟩ := (Blk5.mk h12.x).all
  have hlt := h12.st.pb.lt
  have hrb32 : rb < 4294967296 := by rw [← HRb.out]; exact hb.rb b2
  have hrc32 : rc < 4294967296 := by rw [← HRc.out]; exact hb.rb cc
  have hai : (a : Int) < 8 := by omega
  have wrn : IntKind.i64.wrap ((rb : Int) + (n : Int)) = (rb : Int) + (n : Int) := Go.IntWalk.i64_in _ (by omega)
  have wr0 : IntKind.i64.wrap (rb : Int) = (rb : Int) := Go.IntWalk.i64_in _ (by omega)
  clear h12 hb
  generalize (fun i => T.getD i undef) = y at hT
  subst hT
  refine rest_of hcd rfl ?_
  clear hcd cd
  simp only [slots16]
  have c13 := HS5.out.pb.cells.2.2.2.2.2
  have hati : (rb : Int) + (n : Int) = (at_ : Int) := by have := HAt.out; omega
  have hatb : at_ < 4295032832 := by omega
  clear wrn
  have wrn : IntKind.i64.wrap (at_ : Int) = (at_ : Int) := Go.IntWalk.i64_in _ (by omega)
  have hga := HS5.out.pb.reg a ha8
  have hra32 : p.g a < 4294967296 := HBd.out.rb a
  rw [HRa.out] at hga hra32
  have wt8 : (ra : Int).tmod 256 = (ra : Int) % 256 := Int.tmod_eq_emod_of_nonneg (by omega)
  have wm8 : IntKind.u8.wrap ((ra : Int) % 256) = (ra : Int) % 256 := by rw [IntKind.wrap_u8']; omega
  go_wp2_with fail
  refine wp_region_held_drew (S := fun W => Chg Non x W) (by kernel_rfl) ((Chg.refl Non _).drew) (fun hHeld => ?_)
  clear hHeld
  refine h_pure 0 (some 328) (.pointer (some ⟨b, 13, none⟩)) rfl (by kernel_rfl) (by kernel_rfl) (by kernel_rfl) (by kernel_rfl) (fun _ _ _ h => h) (by kernel_rfl) (fun W hW => by go_simp) ((Chg.refl Non _).drew) ?_
  simp only [Act.put, List.setIfInBounds_toArray, List.set_cons_zero, List.set_cons_succ]
  refine h_pure 1 (some 329) (.slice A2 p.mem.length c2) rfl (by kernel_rfl) (by kernel_rfl) (by kernel_rfl) (by kernel_rfl) (fun _ _ _ h => h) (by kernel_rfl) (fun W hW => by have hq := hW.cell_some c13 (fun e => e); go_simp) ((Chg.refl Non _).drew) ?_
  simp only [Act.put, List.setIfInBounds_toArray, List.set_cons_zero, List.set_cons_succ]
  refine h_pure 2 (some 330) (.int .i64 at_) rfl (by kernel_rfl) (by kernel_rfl) (by kernel_rfl) (by kernel_rfl) (fun _ _ _ h => h) (by kernel_rfl) (fun W hW => by go_simp) ((Chg.refl Non _).drew) ?_
  simp only [Act.put, List.setIfInBounds_toArray, List.set_cons_zero, List.set_cons_succ]
  refine h_pure 3 (some 331) (.pointer (some ⟨ob, 1, none⟩)) rfl (by kernel_rfl) (by kernel_rfl) (by kernel_rfl) (by kernel_rfl) (fun _ _ _ h => h) (by kernel_rfl) (fun W hW => by go_simp) ((Chg.refl Non _).drew) ?_
  simp only [Act.put, List.setIfInBounds_toArray, List.set_cons_zero, List.set_cons_succ]
  refine h_pure 4 (some 332) (.int .u8 a) rfl (by kernel_rfl) (by kernel_rfl) (by kernel_rfl) (by kernel_rfl) (fun _ _ _ h => h) (by kernel_rfl) (fun W hW => by have hq := hW.cell_some o1 (fun e => e); go_simp) ((Chg.refl Non _).drew) ?_
  simp only [Act.put, List.setIfInBounds_toArray, List.set_cons_zero, List.set_cons_succ]
  refine h_pure 5 (some 333) (.pointer (some ⟨b, 3, none⟩)) rfl (by kernel_rfl) (by kernel_rfl) (by kernel_rfl) (by kernel_rfl) (fun _ _ _ h => h) (by kernel_rfl) (fun W hW => by go_simp) ((Chg.refl Non _).drew) ?_
  simp only [Act.put, List.setIfInBounds_toArray, List.set_cons_zero, List.set_cons_succ]
  refine h_pure 6 (some 334) (.pointer (some ⟨b, 3 + a, none⟩)) rfl (by kernel_rfl) (by kernel_rfl) (by kernel_rfl) (by kernel_rfl) (fun _ _ _ h => h) (by kernel_rfl) (fun W hW => by go_simp) ((Chg.refl Non _).drew) ?_
  simp only [Act.put, List.setIfInBounds_toArray, List.set_cons_zero, List.set_cons_succ]
  refine h_pure 7 (some 335) (.int .u32 ra) rfl (by kernel_rfl) (by kernel_rfl) (by kernel_rfl) (by kernel_rfl) (fun _ _ _ h => h) (by kernel_rfl) (fun W hW => by have hq := hW.cell_some hga (fun e => e); go_simp) ((Chg.refl Non _).drew) ?_
  simp only [Act.put, List.setIfInBounds_toArray, List.set_cons_zero, List.set_cons_succ]
  refine h_one 8 (by kernel_rfl) rfl (by kernel_rfl) ?_
  intro K hK
  go_simp
  refine (rWord_ok ra hra32 _).mono ?_
  rintro e x1 ⟨rfl, hrw, gw⟩
  have HRw := Lib.hid hrw
  have HGw : Hid (Chg Non x x1) := Lib.hid (((Chg.refl Non _).drew).then_non gw)
  clear hrw gw
  refine hK.out _ _ HGw.out (fun _ => ?_)
  clear hK K
  refine h_one 9 (by kernel_rfl) rfl (by kernel_rfl) ?_
  intro K hK
  go_simp
  refine (rWrite_no A2 p.mem c2 at_ (some ⟨x.heap.size, 0, none⟩) (word32 ra) 4 _ (by simp [word32]) (by omega) HTh.out).mono ?_
  rintro e x2 ⟨er, hern, her0, rfl, rfl⟩
  have HG7 : Hid (Chg Non x x1) := Lib.hid HGw.out
  refine hK.out _ _ HG7.out (fun _ => ?_)
  clear hK K
  refine h_pure 10 (some 327) (.tuple #[.slice none 0 0, .int .i64 er]) rfl (by kernel_rfl) (by kernel_rfl) (by kernel_rfl) (by kernel_rfl) (fun _ _ _ h => h) (by kernel_rfl) (fun W hW => by go_simp) HG7.out ?_
  simp only [Act.put, List.setIfInBounds_toArray, List.set_cons_zero, List.set_cons_succ]
  refine h_pure 11 (some 338) (.slice none 0 0) rfl (by kernel_rfl) (by kernel_rfl) (by kernel_rfl) (by kernel_rfl) (fun _ _ _ h => h) (by kernel_rfl) (fun W hW => by go_simp) HG7.out ?_
  simp only [Act.put, List.setIfInBounds_toArray, List.set_cons_zero, List.set_cons_succ]
  refine h_pure 12 (some 339) (.int .i64 er) rfl (by kernel_rfl) (by kernel_rfl) (by kernel_rfl) (by kernel_rfl) (fun _ _ _ h => h) (by kernel_rfl) (fun W hW => by go_simp) HG7.out ?_
  simp only [Act.put, List.setIfInBounds_toArray, List.set_cons_zero, List.set_cons_succ]
  refine h_pure 13 (some 24) (.slice none 0 0) rfl (by kernel_rfl) (by kernel_rfl) (by kernel_rfl) (by kernel_rfl) (fun _ _ _ h => h) (by kernel_rfl) (fun W hW => by go_simp) HG7.out ?_
  simp only [Act.put, List.setIfInBounds_toArray, List.set_cons_zero, List.set_cons_succ]
  refine h_pure 14 (some 25) (.int .i64 er) rfl (by kernel_rfl) (by kernel_rfl) (by kernel_rfl) (by kernel_rfl) (fun _ _ _ h => h) (by kernel_rfl) (fun W hW => by go_simp) HG7.out ?_
  simp only [Act.put, List.setIfInBounds_toArray, List.set_cons_zero, List.set_cons_succ]
  refine wpAnyH_done (by kernel_rfl) ?_ _
  have HS6 := Lib.hid (HS5.out.non HG7.out)
  have hlt := HS6.out.pb.lt
  have hf := HS6.out.pb.frozen 12
  have c12 := HS6.out.pb.cells.2.2.2.2.1
  have HS8 := Lib.hid (HS6.out.at (setAt _ b 12 (.int .u8 3)) (HS6.out.pb.setSt 3) rfl)
  go_wp2_with (first
    | (refine sel (some 352) (.load _ (.tmp 5)) ?_; refine Vm_stop ?_))
  refine HoleV.mk ?_
  refine wpList_load_row rfl 26 (.tmp 5) rfl b rfl 26 _ (0, 0) _ HS8.out.pb.out Tryz.underlying26 rfl (by rw [partC_size HS8.out.pb.len]; exact info_part) ?_
  go_wp2_with (first
    | (refine sel none (.store _ (.tmp 2) (.tmp 352)) ?_; refine Vm_stop ?_))
  refine HoleV.mk ?_
  refine wpList_store_rowA rfl 26 (.tmp 2) (.tmp 352) rfl (w.heap.size + 1) _ rfl rfl 26 zeroPart HS8.out.rb (by rw [partC_size HS8.out.pb.len]; exact info_part) (by rw [partC_size HS8.out.pb.len]; rfl) (partC_one _ _ rfl) ?_
  intro WR hgR hbR
  have HBR := Lib.hid hbR
  have HGR := Lib.hid hgR
  clear hbR hgR
  go_wp2_with fail
  refine bodyPost_ret (results_ctt Tryz.results10 _ _ (w.heap.size + 1) 26 _ (0, 0) _ (.int .i64 (-1)) (.int .i64 (0)) rfl rfl rfl HBR.out Tryz.underlying26 rfl (by rw [partC_size HS8.out.pb.len]; exact info_part)) rfl ?_
  exact ⟨_, _, rfl, HS8.out.h1, HS8.out.h2, (HS8.out.own.keep HGR.out (fun b o e1 e2 e3 e4 => by omega)).mono (by omega), HS8.out.chg.then_new HGR.out (fun x e => by omega)⟩
end Go.Proofs.YtpcmnphohneddaaGreatDoor
