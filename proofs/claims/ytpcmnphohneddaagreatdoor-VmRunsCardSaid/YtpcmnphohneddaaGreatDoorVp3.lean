/- Package vm: Step where it stops, fetches nothing, jumps. (Written by wip/merge_vm.py.) -/
import Derived.Test.YtpcmnphohneddaaGreatDoorVp2
namespace Go.Proofs.YtpcmnphohneddaaGreatDoor
open Go.RowKit
set_option linter.unusedVariables false

/-- what Step gives -/
def RetStep (w : World) (q : Pt) (call er : Int) (e : Ending) (w' : World) : Prop :=
  ∃ A' c', e = .returned (.tuple #[.agg (partC q (.slice A' q.mem.length c')), .int .i64 call, .int .i64 er]) ∧ q.mem.length ≤ c' ∧ c' ≤ maxLen ∧ Own w.heap.size w' A' q.mem ∧ Chg Non w w'
/-- a step's state: the partition, the result's block, the memory -/
structure StS (w W : World) (p : Pt) (A : Option Addr) (c : Nat) : Prop where
  pb : PartB W w.heap.size p (.slice A p.mem.length c)
  rb : W.heap[w.heap.size + 1]? = some (.cells zeroPart 26 (0, 0))
  own : Own (w.heap.size + 2) W A p.mem
  chg : Chg Non w W
  h1 : p.mem.length ≤ c
  h2 : c ≤ maxLen
theorem StS.non {w W W' : World} {p : Pt} {A : Option Addr} {c : Nat} (h : StS w W p A c) (hg : Chg Non W W') : StS w W' p A c :=
  ⟨h.pb.non hg, blockN hg h.rb, h.own.non hg, h.chg.then_non hg, h.h1, h.h2⟩
theorem StS.at {w W W' : World} {p q : Pt} {A : Option Addr} {c : Nat} (h : StS w W p A c) (hg : Chg (fun k => k = w.heap.size) W W') (hq : PartB W' w.heap.size q (.slice A p.mem.length c)) (hm : q.mem = p.mem) : StS w W' q A c :=
  ⟨by rw [hm]; exact hq, blockS h.rb hg (by omega), by rw [hm]; exact h.own.keep hg (fun b o e1 e2 e3 e4 => by omega), h.chg.then_new hg (fun x e => by omega), by rw [hm]; exact h.h1, h.h2⟩
theorem StS.mem {w W W' : World} {p : Pt} {A A2 : Option Addr} {c c2 : Nat} {l : List UInt8} (h : StS w W p A c) (hg : Chg (fun k => k = w.heap.size) W W') (hq : PartB W' w.heap.size p (.slice A2 l.length c2)) (h1 : l.length ≤ c2) (h2 : c2 ≤ maxLen) (ho : Own (w.heap.size + 2) W' A2 l) : StS w W' { p with mem := l } A2 c2 :=
  ⟨⟨hq.out, hq.len⟩, blockS h.rb hg (by omega), ho, h.chg.then_new hg (fun x e => by omega), h1, h2⟩
theorem results_ctt {P : Program} {fn : Func} {p q q2 : Tmp} {ty : TypeId} (h : fn.results = #[.cell p ty, .tmp q, .tmp q2]) (tmps : Array Value) (w : World) (g : Nat) (t : TypeId) (cs : Array Value) (fr : Nat × Nat) (d : TypeDesc) (v v2 : Value)
    (hp : tmps.getD p undef = .pointer (some ⟨g, 0, none⟩)) (hv : tmps.getD q undef = v) (hv2 : tmps.getD q2 undef = v2) (hg : w.heap[g]? = some (.cells cs t fr))
    (hu : P.underlying ty = some d) (hd : (match d with | .struct _ | .array _ _ => true | _ => false) = true) (hi : (P.info? ty).map (·.size) = some cs.size) :
    (results fn tmps).run P w = .ok (.tuple #[.agg cs, v, v2]) w := by
  have hp' : tmps[p]?.getD undef = .pointer (some ⟨g, 0, none⟩) := by simpa using hp
  have hv' : tmps[q]?.getD undef = v := by simpa using hv
  have hv2' : tmps[q2]?.getD undef = v2 := by simpa using hv2
  simp [results, h, hp', hv', hv2', asAddr, run_loadVar_row w g t ty cs fr d hg hu hd hi]
set_option maxRecDepth 100000 in
set_option maxHeartbeats 4000000 in
theorem step_stop (p : Pt) (A : Option Addr) (c : Nat) (w : World) (hb : p.Bd) (hr : Rd w A p.mem) (hl : p.mem.length ≤ 140737488355328) (hs : p.st ≠ 0) :
    Calls Tryz.prog 9 #[.agg (partC p (.slice A p.mem.length c))] w (RetStep w (p) (-1) (2)) := by
  have h8 := hb.r8
  have HBd := Lib.hid hb
  obtain ⟨C, hC⟩ : ∃ C, partC p (.slice A p.mem.length c) = C := ⟨_, rfl⟩
  have hsz : C.size = 14 := by rw [← hC]; exact partC_size h8 _
  have hcp := fun W hrW => Copy_ok p A p.mem c W h8 hrW hl
  rw [hC] at hcp ⊢
  have HCp := Lib.hid hcp
  have HR := Lib.hid hr
  clear hcp hC hr hb
  go_enter Tryz.func9, Tryz.ntmps9
  go_wp2_with (first
    | (refine sel (some 8) (.load _ (.tmp 1)) ?_; refine Vm_stop ?_))
  refine HoleV.mk ?_
  refine wpList_load_row rfl 26 (.tmp 1) rfl w.heap.size rfl 26 C (0, 0) _ (al_2_0 w _ _) Tryz.underlying26 rfl (by rw [hsz]; exact info_part) ?_
  go_wp2_with fail
  refine (HCp.out _ (HR.out.non (((Chg.refl Non w).alloc _).alloc _))).mono ?_
  rintro e w1 ⟨A2, c2, rfl, q1, q2, q3, q4⟩
  have hbx := blockN q4 (al_2_0 w (.cells C 26) (.cells zeroPart 26))
  have HBy := Lib.hid (blockN q4 (al_2_1 w (.cells C 26) (.cells zeroPart 26)))
  have HO := Lib.hid (q3.mono (show w.heap.size + 2 ≤ _ by simp))
  have HG := Lib.hid ((((Chg.refl Non w).alloc _).alloc _).then_non q4)
  clear q3 q4
  go_wp2_with (first
    | (refine sel none (.store _ (.tmp 1) (.tmp 9)) ?_; refine Vm_stop ?_))
  refine HoleV.mk ?_
  refine wpList_store_rowA rfl 26 (.tmp 1) (.tmp 9) rfl w.heap.size (partC p (.slice A2 p.mem.length c2)) rfl rfl 26 C hbx (by rw [partC_size h8]; exact info_part) (by rw [partC_size h8, hsz]) (partC_one _ _ rfl) ?_
  intro w2 hg2 hb2
  have hst0 : StS w w2 p A2 c2 := ⟨⟨hb2, h8⟩, blockS HBy.out hg2 (by omega), HO.out.keep hg2 (fun b o e1 e2 e3 e4 => by omega), HG.out.then_new hg2 (fun x e => by omega), q1, q2⟩
  have HS := Lib.hid hst0
  have c12 := hst0.pb.cells.2.2.2.2.1
  clear hg2 hb2 hst0 hbx
  have hsb : ((p.st : Int) != 0) = true := by rw [bne_iff_ne]; omega
  go_wp2_with (first
    | (refine sel (some 13) (.load _ (.tmp 1)) ?_; refine Vm_stop ?_))
  refine HoleV.mk ?_
  refine wpList_load_row rfl 26 (.tmp 1) rfl w.heap.size rfl 26 _ (0, 0) _ HS.out.pb.out Tryz.underlying26 rfl (by rw [partC_size HS.out.pb.len]; exact info_part) ?_
  go_wp2_with (first
    | (refine sel none (.store _ (.tmp 2) (.tmp 13)) ?_; refine Vm_stop ?_))
  refine HoleV.mk ?_
  refine wpList_store_rowA rfl 26 (.tmp 2) (.tmp 13) rfl (w.heap.size + 1) _ rfl rfl 26 zeroPart HS.out.rb (by rw [partC_size HS.out.pb.len]; exact info_part) (by rw [partC_size HS.out.pb.len]; rfl) (partC_one _ _ rfl) ?_
  intro WR hgR hbR
  have HBR := Lib.hid hbR
  have HGR := Lib.hid hgR
  clear hbR hgR
  go_wp2_with fail
  refine bodyPost_ret (results_ctt Tryz.results9 _ _ (w.heap.size + 1) 26 _ (0, 0) _ (.int .i64 (-1)) (.int .i64 (2)) rfl rfl rfl HBR.out Tryz.underlying26 rfl (by rw [partC_size HS.out.pb.len]; exact info_part)) rfl ?_
  exact ⟨_, _, rfl, HS.out.h1, HS.out.h2, (HS.out.own.keep HGR.out (fun b o e1 e2 e3 e4 => by omega)).mono (by omega), HS.out.chg.then_new HGR.out (fun x e => by omega)⟩

set_option maxRecDepth 100000 in
set_option maxHeartbeats 4000000 in
theorem step_nofetch (p : Pt) (A : Option Addr) (c : Nat) (w : World) (hb : p.Bd) (hr : Rd w A p.mem) (hl : p.mem.length ≤ 140737488355328) (hs : p.st = 0) (ht : there p.mem p.pc 4 = false) :
    Calls Tryz.prog 9 #[.agg (partC p (.slice A p.mem.length c))] w (RetStep w ({ p with st := 3 }) (-1) (0)) := by
  have HT := Lib.hid ht
  clear ht
  have h8 := hb.r8
  have HBd := Lib.hid hb
  obtain ⟨C, hC⟩ : ∃ C, partC p (.slice A p.mem.length c) = C := ⟨_, rfl⟩
  have hsz : C.size = 14 := by rw [← hC]; exact partC_size h8 _
  have hcp := fun W hrW => Copy_ok p A p.mem c W h8 hrW hl
  rw [hC] at hcp ⊢
  have HCp := Lib.hid hcp
  have HR := Lib.hid hr
  clear hcp hC hr hb
  go_enter Tryz.func9, Tryz.ntmps9
  go_wp2_with (first
    | (refine sel (some 8) (.load _ (.tmp 1)) ?_; refine Vm_stop ?_))
  refine HoleV.mk ?_
  refine wpList_load_row rfl 26 (.tmp 1) rfl w.heap.size rfl 26 C (0, 0) _ (al_2_0 w _ _) Tryz.underlying26 rfl (by rw [hsz]; exact info_part) ?_
  go_wp2_with fail
  refine (HCp.out _ (HR.out.non (((Chg.refl Non w).alloc _).alloc _))).mono ?_
  rintro e w1 ⟨A2, c2, rfl, q1, q2, q3, q4⟩
  have hbx := blockN q4 (al_2_0 w (.cells C 26) (.cells zeroPart 26))
  have HBy := Lib.hid (blockN q4 (al_2_1 w (.cells C 26) (.cells zeroPart 26)))
  have HO := Lib.hid (q3.mono (show w.heap.size + 2 ≤ _ by simp))
  have HG := Lib.hid ((((Chg.refl Non w).alloc _).alloc _).then_non q4)
  clear q3 q4
  go_wp2_with (first
    | (refine sel none (.store _ (.tmp 1) (.tmp 9)) ?_; refine Vm_stop ?_))
  refine HoleV.mk ?_
  refine wpList_store_rowA rfl 26 (.tmp 1) (.tmp 9) rfl w.heap.size (partC p (.slice A2 p.mem.length c2)) rfl rfl 26 C hbx (by rw [partC_size h8]; exact info_part) (by rw [partC_size h8, hsz]) (partC_one _ _ rfl) ?_
  intro w2 hg2 hb2
  have hst0 : StS w w2 p A2 c2 := ⟨⟨hb2, h8⟩, blockS HBy.out hg2 (by omega), HO.out.keep hg2 (fun b o e1 e2 e3 e4 => by omega), HG.out.then_new hg2 (fun x e => by omega), q1, q2⟩
  have HS := Lib.hid hst0
  have c12 := hst0.pb.cells.2.2.2.2.1
  clear hg2 hb2 hst0 hbx
  have c12' : w2.cell? ⟨w.heap.size, 12, none⟩ = some (.int .u8 0) := by rw [hs] at c12; exact c12
  have c11 := HS.out.pb.cells.2.2.2.1
  have c13 := HS.out.pb.cells.2.2.2.2.2
  have hwp : IntKind.i64.wrap (p.pc : Int) = p.pc := Go.IntWalk.i64_in _ (by have := HBd.out.pcb; omega)
  clear c12 hs
  go_wp2_with fail
  refine (Read_no A2 p.mem c2 p.pc 4 _ (by have := HBd.out.pcb; omega) (by omega) HT.out).mono ?_
  rintro e y1 ⟨er, her, rfl, rfl⟩
  have hern : (er != 0) = true := by rw [bne, her]; rfl
  have hlt := HS.out.pb.lt
  have hf := HS.out.pb.frozen 12
  have HS2 := Lib.hid (HS.out.at (setAt w2 w.heap.size 12 (.int .u8 3)) (HS.out.pb.setSt 3) rfl)
  go_wp2_with (first
    | (refine sel (some 26) (.load _ (.tmp 1)) ?_; refine Vm_stop ?_))
  refine HoleV.mk ?_
  refine wpList_load_row rfl 26 (.tmp 1) rfl w.heap.size rfl 26 _ (0, 0) _ HS2.out.pb.out Tryz.underlying26 rfl (by rw [partC_size HS2.out.pb.len]; exact info_part) ?_
  go_wp2_with (first
    | (refine sel none (.store _ (.tmp 2) (.tmp 26)) ?_; refine Vm_stop ?_))
  refine HoleV.mk ?_
  refine wpList_store_rowA rfl 26 (.tmp 2) (.tmp 26) rfl (w.heap.size + 1) _ rfl rfl 26 zeroPart HS2.out.rb (by rw [partC_size HS2.out.pb.len]; exact info_part) (by rw [partC_size HS2.out.pb.len]; rfl) (partC_one _ _ rfl) ?_
  intro WR hgR hbR
  have HBR := Lib.hid hbR
  have HGR := Lib.hid hgR
  clear hbR hgR
  go_wp2_with fail
  refine bodyPost_ret (results_ctt Tryz.results9 _ _ (w.heap.size + 1) 26 _ (0, 0) _ (.int .i64 (-1)) (.int .i64 (0)) rfl rfl rfl HBR.out Tryz.underlying26 rfl (by rw [partC_size HS2.out.pb.len]; exact info_part)) rfl ?_
  exact ⟨_, _, rfl, HS2.out.h1, HS2.out.h2, (HS2.out.own.keep HGR.out (fun b o e1 e2 e3 e4 => by omega)).mono (by omega), HS2.out.chg.then_new HGR.out (fun x e => by omega)⟩
set_option maxRecDepth 100000 in
set_option maxHeartbeats 4000000 in
theorem step_badop (p : Pt) (A : Option Addr) (c : Nat) (w : World) (hb : p.Bd) (hr : Rd w A p.mem) (hl : p.mem.length ≤ 140737488355328) (hs : p.st = 0) (ht : there p.mem p.pc 4 = true) (f0 f1 f2 f3 : UInt8) (hcut : cut p.mem p.pc 4 = [f0, f1, f2, f3]) (hm : mayB (decI f0.toNat f1.toNat f2.toNat f3.toNat) = false) :
    Calls Tryz.prog 9 #[.agg (partC p (.slice A p.mem.length c))] w (RetStep w ({ p with st := 2 }) (-1) (0)) := by
  have HT := Lib.hid ht
  have HM := Lib.hid hm
  have HF4 : Hid (Four (f0.toNat, f1.toNat, f2.toNat, f3.toNat)) := Lib.hid ⟨f0.toNat_lt, f1.toNat_lt, f2.toNat_lt, f3.toNat_lt⟩
  clear ht hm
  have h8 := hb.r8
  have HBd := Lib.hid hb
  obtain ⟨C, hC⟩ : ∃ C, partC p (.slice A p.mem.length c) = C := ⟨_, rfl⟩
  have hsz : C.size = 14 := by rw [← hC]; exact partC_size h8 _
  have hcp := fun W hrW => Copy_ok p A p.mem c W h8 hrW hl
  rw [hC] at hcp ⊢
  have HCp := Lib.hid hcp
  have HR := Lib.hid hr
  clear hcp hC hr hb
  go_enter Tryz.func9, Tryz.ntmps9
  go_wp2_with (first
    | (refine sel (some 8) (.load _ (.tmp 1)) ?_; refine Vm_stop ?_))
  refine HoleV.mk ?_
  refine wpList_load_row rfl 26 (.tmp 1) rfl w.heap.size rfl 26 C (0, 0) _ (al_2_0 w _ _) Tryz.underlying26 rfl (by rw [hsz]; exact info_part) ?_
  go_wp2_with fail
  refine (HCp.out _ (HR.out.non (((Chg.refl Non w).alloc _).alloc _))).mono ?_
  rintro e w1 ⟨A2, c2, rfl, q1, q2, q3, q4⟩
  have hbx := blockN q4 (al_2_0 w (.cells C 26) (.cells zeroPart 26))
  have HBy := Lib.hid (blockN q4 (al_2_1 w (.cells C 26) (.cells zeroPart 26)))
  have HO := Lib.hid (q3.mono (show w.heap.size + 2 ≤ _ by simp))
  have HG := Lib.hid ((((Chg.refl Non w).alloc _).alloc _).then_non q4)
  clear q3 q4
  go_wp2_with (first
    | (refine sel none (.store _ (.tmp 1) (.tmp 9)) ?_; refine Vm_stop ?_))
  refine HoleV.mk ?_
  refine wpList_store_rowA rfl 26 (.tmp 1) (.tmp 9) rfl w.heap.size (partC p (.slice A2 p.mem.length c2)) rfl rfl 26 C hbx (by rw [partC_size h8]; exact info_part) (by rw [partC_size h8, hsz]) (partC_one _ _ rfl) ?_
  intro w2 hg2 hb2
  have hst0 : StS w w2 p A2 c2 := ⟨⟨hb2, h8⟩, blockS HBy.out hg2 (by omega), HO.out.keep hg2 (fun b o e1 e2 e3 e4 => by omega), HG.out.then_new hg2 (fun x e => by omega), q1, q2⟩
  have HS := Lib.hid hst0
  have c12 := hst0.pb.cells.2.2.2.2.1
  clear hg2 hb2 hst0 hbx
  have c12' : w2.cell? ⟨w.heap.size, 12, none⟩ = some (.int .u8 0) := by rw [hs] at c12; exact c12
  have c11 := HS.out.pb.cells.2.2.2.1
  have c13 := HS.out.pb.cells.2.2.2.2.2
  have hwp : IntKind.i64.wrap (p.pc : Int) = p.pc := Go.IntWalk.i64_in _ (by have := HBd.out.pcb; omega)
  clear c12 hs
  go_wp2_with fail
  have hrd := Read_yes A2 p.mem c2 p.pc 4 w2 HS.out.own.rd q1 q2 (by omega) HT.out
  rw [hcut] at hrd
  refine hrd.mono ?_
  rintro e y1 ⟨A3, c3, rfl, k1, k2, k3, k4⟩
  obtain ⟨b3, o3, rfl, _, hc3⟩ := k3.rd.at_ (by simp)
  have d0 := hc3 0 (by simp)
  have d1 := hc3 1 (by simp)
  have d2 := hc3 2 (by simp)
  have d3 := hc3 3 (by simp)
  simp only [Nat.add_zero, List.getElem_cons_zero, List.getElem_cons_succ] at d0 d1 d2 d3
  have HS := Lib.hid (HS.out.non k4)
  have harr : ∀ W : World, (Instr.arrayAt 41 (.slice (some ⟨b3, o3, none⟩) 4 c3)).run Tryz.prog W = .ok (.pointer (some ⟨b3, o3, none⟩)) W := fun W => run_arrayAt W _ _ 4 _ 4 c3 Tryz.underlying41 (Nat.le_refl _)
  clear hc3 k3 k4 hrd c12' c11 c13
  go_wp2_with fail
  refine (Dec_n f0.toNat f1.toNat f2.toNat f3.toNat _ HF4.out HM.out).mono ?_
  rintro e y2 ⟨rfl, k5⟩
  have HS := Lib.hid (HS.out.non k5)
  clear k5 d0 d1 d2 d3
  have hs3 := HS.out.non ((Chg.refl Non _).alloc (.cells #[.int .u8 0, .int .u8 0, .int .u8 0, .int .u8 0, .int .i64 0] 38))
  have HS3 := Lib.hid hs3
  have c12 := hs3.pb.cells.2.2.2.2.1
  have hlt := hs3.pb.lt
  have hf := hs3.pb.frozen 12
  clear hs3
  have HS4 := Lib.hid (HS3.out.at (setAt _ w.heap.size 12 (.int .u8 2)) (HS3.out.pb.setSt 2) rfl)
  go_wp2_with (first
    | (refine sel (some 37) (.load _ (.tmp 1)) ?_; refine Vm_stop ?_))
  refine HoleV.mk ?_
  refine wpList_load_row rfl 26 (.tmp 1) rfl w.heap.size rfl 26 _ (0, 0) _ HS4.out.pb.out Tryz.underlying26 rfl (by rw [partC_size HS4.out.pb.len]; exact info_part) ?_
  go_wp2_with (first
    | (refine sel none (.store _ (.tmp 2) (.tmp 37)) ?_; refine Vm_stop ?_))
  refine HoleV.mk ?_
  refine wpList_store_rowA rfl 26 (.tmp 2) (.tmp 37) rfl (w.heap.size + 1) _ rfl rfl 26 zeroPart HS4.out.rb (by rw [partC_size HS4.out.pb.len]; exact info_part) (by rw [partC_size HS4.out.pb.len]; rfl) (partC_one _ _ rfl) ?_
  intro WR hgR hbR
  have HBR := Lib.hid hbR
  have HGR := Lib.hid hgR
  clear hbR hgR
  go_wp2_with fail
  refine bodyPost_ret (results_ctt Tryz.results9 _ _ (w.heap.size + 1) 26 _ (0, 0) _ (.int .i64 (-1)) (.int .i64 (0)) rfl rfl rfl HBR.out Tryz.underlying26 rfl (by rw [partC_size HS4.out.pb.len]; exact info_part)) rfl ?_
  exact ⟨_, _, rfl, HS4.out.h1, HS4.out.h2, (HS4.out.own.keep HGR.out (fun b o e1 e2 e3 e4 => by omega)).mono (by omega), HS4.out.chg.then_new HGR.out (fun x e => by omega)⟩

theorem may_bd {op a b c n : Nat} (h : mayB ⟨op, a, b, c, (n : Nat)⟩ = true) : op < 22 ∧ a < 8 ∧ b < 8 ∧ c < 8 ∧ n < 65536 := by
  have hi := (mayB_iff _).1 h
  obtain ⟨h1, h2, h3, h4, h5, h6⟩ := hi
  simp only at h1 h2 h3 h4 h5 h6
  have hn := opAt_n op
  have h1' := h1.2
  refine ⟨by omega, ?_, ?_, ?_, by omega⟩
  · rcases h2 with ⟨_, h⟩ | h <;> omega
  · rcases h3 with ⟨_, h⟩ | h <;> omega
  · rcases h4 with ⟨_, h⟩ | h <;> omega
set_option maxRecDepth 100000 in
set_option maxHeartbeats 4000000 in
theorem step_jump (p : Pt) (A : Option Addr) (c : Nat) (w : World) (hb : p.Bd) (hr : Rd w A p.mem) (hl : p.mem.length ≤ 140737488355328) (hs : p.st = 0) (ht : there p.mem p.pc 4 = true) (f0 f1 f2 f3 : UInt8) (hcut : cut p.mem p.pc 4 = [f0, f1, f2, f3]) (op a b2 cc n : Nat) (hd : decI f0.toNat f1.toNat f2.toNat f3.toNat = ⟨op, a, b2, cc, (n : Nat)⟩) (hm : mayB ⟨op, a, b2, cc, (n : Nat)⟩ = true) (hj : jumpsB ⟨op, a, b2, cc, (n : Nat)⟩ p = true) :
    Calls Tryz.prog 9 #[.agg (partC p (.slice A p.mem.length c))] w (RetStep w ({ p with pc := n }) (-1) (0)) := by
  have HT := Lib.hid ht
  have HM := Lib.hid hm
  have HDc := Lib.hid hd
  have hx1 := may_bd hm
  have ho22 : op < 22 := hx1.1
  have ha8 : a < 8 := hx1.2.1
  have hb8 : b2 < 8 := hx1.2.2.1
  have hc8 : cc < 8 := hx1.2.2.2.1
  have hn16 : n < 65536 := hx1.2.2.2.2
  have HF4 : Hid (Four (f0.toNat, f1.toNat, f2.toNat, f3.toNat)) := Lib.hid ⟨f0.toNat_lt, f1.toNat_lt, f2.toNat_lt, f3.toNat_lt⟩
  clear ht hm hd hx1
  have HJ := Lib.hid hj
  clear hj
  have h8 := hb.r8
  have HBd := Lib.hid hb
  obtain ⟨C, hC⟩ : ∃ C, partC p (.slice A p.mem.length c) = C := ⟨_, rfl⟩
  have hsz : C.size = 14 := by rw [← hC]; exact partC_size h8 _
  have hcp := fun W hrW => Copy_ok p A p.mem c W h8 hrW hl
  rw [hC] at hcp ⊢
  have HCp := Lib.hid hcp
  have HR := Lib.hid hr
  clear hcp hC hr hb
  go_enter Tryz.func9, Tryz.ntmps9
  go_wp2_with (first
    | (refine sel (some 8) (.load _ (.tmp 1)) ?_; refine Vm_stop ?_))
  refine HoleV.mk ?_
  refine wpList_load_row rfl 26 (.tmp 1) rfl w.heap.size rfl 26 C (0, 0) _ (al_2_0 w _ _) Tryz.underlying26 rfl (by rw [hsz]; exact info_part) ?_
  go_wp2_with fail
  refine (HCp.out _ (HR.out.non (((Chg.refl Non w).alloc _).alloc _))).mono ?_
  rintro e w1 ⟨A2, c2, rfl, q1, q2, q3, q4⟩
  have hbx := blockN q4 (al_2_0 w (.cells C 26) (.cells zeroPart 26))
  have HBy := Lib.hid (blockN q4 (al_2_1 w (.cells C 26) (.cells zeroPart 26)))
  have HO := Lib.hid (q3.mono (show w.heap.size + 2 ≤ _ by simp))
  have HG := Lib.hid ((((Chg.refl Non w).alloc _).alloc _).then_non q4)
  clear q3 q4
  go_wp2_with (first
    | (refine sel none (.store _ (.tmp 1) (.tmp 9)) ?_; refine Vm_stop ?_))
  refine HoleV.mk ?_
  refine wpList_store_rowA rfl 26 (.tmp 1) (.tmp 9) rfl w.heap.size (partC p (.slice A2 p.mem.length c2)) rfl rfl 26 C hbx (by rw [partC_size h8]; exact info_part) (by rw [partC_size h8, hsz]) (partC_one _ _ rfl) ?_
  intro w2 hg2 hb2
  have hst0 : StS w w2 p A2 c2 := ⟨⟨hb2, h8⟩, blockS HBy.out hg2 (by omega), HO.out.keep hg2 (fun b o e1 e2 e3 e4 => by omega), HG.out.then_new hg2 (fun x e => by omega), q1, q2⟩
  have HS := Lib.hid hst0
  have c12 := hst0.pb.cells.2.2.2.2.1
  clear hg2 hb2 hst0 hbx
  have c12' : w2.cell? ⟨w.heap.size, 12, none⟩ = some (.int .u8 0) := by rw [hs] at c12; exact c12
  have c11 := HS.out.pb.cells.2.2.2.1
  have c13 := HS.out.pb.cells.2.2.2.2.2
  have hwp : IntKind.i64.wrap (p.pc : Int) = p.pc := Go.IntWalk.i64_in _ (by have := HBd.out.pcb; omega)
  clear c12 hs
  go_wp2_with fail
  have hrd := Read_yes A2 p.mem c2 p.pc 4 w2 HS.out.own.rd q1 q2 (by omega) HT.out
  rw [hcut] at hrd
  refine hrd.mono ?_
  rintro e y1 ⟨A3, c3, rfl, k1, k2, k3, k4⟩
  obtain ⟨b3, o3, rfl, _, hc3⟩ := k3.rd.at_ (by simp)
  have d0 := hc3 0 (by simp)
  have d1 := hc3 1 (by simp)
  have d2 := hc3 2 (by simp)
  have d3 := hc3 3 (by simp)
  simp only [Nat.add_zero, List.getElem_cons_zero, List.getElem_cons_succ] at d0 d1 d2 d3
  have HS := Lib.hid (HS.out.non k4)
  have harr : ∀ W : World, (Instr.arrayAt 41 (.slice (some ⟨b3, o3, none⟩) 4 c3)).run Tryz.prog W = .ok (.pointer (some ⟨b3, o3, none⟩)) W := fun W => run_arrayAt W _ _ 4 _ 4 c3 Tryz.underlying41 (Nat.le_refl _)
  clear hc3 k3 k4 hrd c12' c11 c13
  go_wp2_with fail
  refine (Dec_v f0.toNat f1.toNat f2.toNat f3.toNat op a b2 cc n _ HF4.out HDc.out HM.out).mono ?_
  rintro e y2 ⟨rfl, k5⟩
  have HS := Lib.hid (HS.out.non k5)
  clear k5 d0 d1 d2 d3
  go_wp2_with fail
  have HS3 := Lib.hid (HS.out.non ((Chg.refl Non _).alloc (.cells #[.int .u8 op, .int .u8 a, .int .u8 b2, .int .u8 cc, .int .i64 (n : Nat)] 38)))
  have HX3 := Lib.hid (heap_alloc_new y2 (.cells #[.int .u8 op, .int .u8 a, .int .u8 b2, .int .u8 cc, .int .i64 (n : Nat)] 38))
  refine (jumps_ok w.heap.size p _ op a b2 cc n _ HS3.out.pb ho22 ha8).mono ?_
  rw [HJ.out]
  rintro e y3 ⟨rfl, k6⟩
  have hs4 := HS3.out.non k6
  have HS4 := Lib.hid hs4
  have HX4 := Lib.hid (blockN k6 HX3.out)
  obtain ⟨⟨z, c0, c1, c2x, c3x, c4⟩, _⟩ := (Blk5.mk HX4.out).all
  have hxb : w.heap.size + 2 ≤ y2.heap.size := by have h1 := (Array.getElem?_eq_some_iff.1 HS.out.rb).1; omega
  have c11 := hs4.pb.cells.2.2.2.1
  have hlt := hs4.pb.lt
  clear k6 hs4
  have hf := HS4.out.pb.frozen 11
  have hwn : IntKind.u32.wrap (n : Int) = n := Go.IntWalk.u32_in _ (by omega)
  have HS5 := Lib.hid (HS4.out.at (setAt _ w.heap.size 11 (.int .u32 (n : Nat))) (HS4.out.pb.setPc n) rfl)
  go_wp2_with (first
    | (refine sel (some 44) (.load _ (.tmp 1)) ?_; refine Vm_stop ?_))
  refine HoleV.mk ?_
  refine wpList_load_row rfl 26 (.tmp 1) rfl w.heap.size rfl 26 _ (0, 0) _ HS5.out.pb.out Tryz.underlying26 rfl (by rw [partC_size HS5.out.pb.len]; exact info_part) ?_
  go_wp2_with (first
    | (refine sel none (.store _ (.tmp 2) (.tmp 44)) ?_; refine Vm_stop ?_))
  refine HoleV.mk ?_
  refine wpList_store_rowA rfl 26 (.tmp 2) (.tmp 44) rfl (w.heap.size + 1) _ rfl rfl 26 zeroPart HS5.out.rb (by rw [partC_size HS5.out.pb.len]; exact info_part) (by rw [partC_size HS5.out.pb.len]; rfl) (partC_one _ _ rfl) ?_
  intro WR hgR hbR
  have HBR := Lib.hid hbR
  have HGR := Lib.hid hgR
  clear hbR hgR
  go_wp2_with fail
  refine bodyPost_ret (results_ctt Tryz.results9 _ _ (w.heap.size + 1) 26 _ (0, 0) _ (.int .i64 (-1)) (.int .i64 (0)) rfl rfl rfl HBR.out Tryz.underlying26 rfl (by rw [partC_size HS5.out.pb.len]; exact info_part)) rfl ?_
  exact ⟨_, _, rfl, HS5.out.h1, HS5.out.h2, (HS5.out.own.keep HGR.out (fun b o e1 e2 e3 e4 => by omega)).mono (by omega), HS5.out.chg.then_new HGR.out (fun x e => by omega)⟩

/-- two operations that may come up -/
theorem h_two {P : Program} {md : Region.Mode} {ops : Array Oper} {Q : Exit → Act → World → Prop} {S : World → Prop} {fuel : Nat} {listed : Array Bool} {a : Act} {w : World} (i j : Nat) {oi oj : Oper} (hr : Region.ready md ops listed = [i, j]) (hi : ops[i]? = some oi) (hj : ops[j]? = some oj) (hwi : Region.wanted oi (yielded ops a.tmps) = true) (hwj : Region.wanted oj (yielded ops a.tmps) = true)
    (h1 : ∀ K : Act → World → Prop, Shut (∀ a w, S w → (S w → wpAnyH P md ops Q S fuel (listed.setIfInBounds i true) a w) → K a w) → Oper.wp P oi a w K Q)
    (h2 : ∀ K : Act → World → Prop, Shut (∀ a w, S w → (S w → wpAnyH P md ops Q S fuel (listed.setIfInBounds j true) a w) → K a w) → Oper.wp P oj a w K Q) : wpAnyH P md ops Q S (fuel + 1) listed a w :=
  wpAnyH_ready hr (by simp) (AllReadyH.cons hi (fun K hK => by rw [if_pos hwi]; exact h1 K hK) (AllReadyH.cons hj (fun K hK => by rw [if_pos hwj]; exact h2 K hK) AllReadyH.nil))
theorem fn_ne_d (d : Nat) (f : FuncId) (W : World) : (Op.equalIn (d + 1) 51 (.func (.func f) #[] #[]) .nilFunc).run Tryz.prog W = .ok false W := by simp [Op.equalIn, run_underlying Tryz.underlying51]
theorem fn_ne (f : FuncId) (W : World) : (binOp .neq 51 (.func (.func f) #[] #[]) .nilFunc).run Tryz.prog W = .ok (.bool true) W := by
  have h1 : (Op.equal 51 (.func (.func f) #[] #[]) .nilFunc).run Tryz.prog W = .ok false W := fn_ne_d 9999 f W
  simp only [binOp]
  simp [h1]
theorem fn_eq_d (d : Nat) (W : World) : (Op.equalIn (d + 1) 51 .nilFunc .nilFunc).run Tryz.prog W = .ok true W := by simp [Op.equalIn, run_underlying Tryz.underlying51]
theorem fn_eq (W : World) : (binOp .neq 51 .nilFunc .nilFunc).run Tryz.prog W = .ok (.bool false) W := by
  have h1 : (Op.equal 51 .nilFunc .nilFunc).run Tryz.prog W = .ok true W := fn_eq_d 9999 W
  simp only [binOp]
  simp [h1]
theorem fd_ne_d (d : Nat) (f : FuncId) (W : World) : (Op.equalIn (d + 1) 49 (.func (.func f) #[] #[]) .nilFunc).run Tryz.prog W = .ok false W := by simp [Op.equalIn, run_underlying Tryz.underlying49]
theorem fd_ne (f : FuncId) (W : World) : (binOp .neq 49 (.func (.func f) #[] #[]) .nilFunc).run Tryz.prog W = .ok (.bool true) W := by
  have h1 : (Op.equal 49 (.func (.func f) #[] #[]) .nilFunc).run Tryz.prog W = .ok false W := fd_ne_d 9999 f W
  simp only [binOp]
  simp [h1]
theorem fd_eq_d (d : Nat) (W : World) : (Op.equalIn (d + 1) 49 .nilFunc .nilFunc).run Tryz.prog W = .ok true W := by simp [Op.equalIn, run_underlying Tryz.underlying49]
theorem fd_eq (W : World) : (binOp .neq 49 .nilFunc .nilFunc).run Tryz.prog W = .ok (.bool false) W := by
  have h1 : (Op.equal 49 .nilFunc .nilFunc).run Tryz.prog W = .ok true W := fd_eq_d 9999 W
  simp only [binOp]
  simp [h1]
theorem info_vop : (Tryz.prog.info? 53).map (·.size) = some 2 := by kernel_rfl
end Go.Proofs.YtpcmnphohneddaaGreatDoor
