/- Walk of citadellaw20.VmPieces. -/
import Derived.Test.YtpcmnphohneddaaGreatDoorVq6
namespace Go.Proofs.YtpcmnphohneddaaGreatDoor
open Go.RowKit
set_option linter.unusedVariables false

theorem run_bd (n : Nat) : ∀ p : Pt, p.Bd → (runV n p).1.Bd ∧ (runV n p).1.mem.length = p.mem.length := by
  induction n with
  | zero => intro p hp; exact ⟨hp, rfl⟩
  | succ n ih =>
    intro p hp
    unfold runV
    have hs := (step_bd hp).1
    have hm := step_mem p
    split
    · split
      · have h := ih _ hs
        exact ⟨h.1, h.2.trans hm⟩
      · exact ⟨hs, hm⟩
    · exact ⟨hp, rfl⟩
theorem Run_v (p q : Pt) (call : Int) (st : Nat) (N : Nat) (A : Option Addr) (c : Nat) (w : World) (hb : p.Bd) (hr : Rd w A p.mem) (hl : p.mem.length ≤ 140737488355328) (hN : N ≤ 100000) (hv : runV N p = (q, call, st)) :
    Calls Tryz.prog 18 #[.agg (partC p (.slice A p.mem.length c)), .int .i64 (N : Nat)] w fun e w' => ∃ A' c', e = .returned (.tuple #[.agg (partC q (.slice A' q.mem.length c')), .int .i64 call, .int .i64 (st : Nat)]) ∧ Rd w' A' q.mem ∧ Chg Non w w' := by
  refine (Run_ok p A c (N : Nat) w hb hr hl (by omega) (by omega) N (.inl (by omega))).mono ?_
  rw [hv]
  rintro e w' ⟨A', c', he, _, _, ho, hg⟩
  exact ⟨A', c', he, ho.rd, hg⟩
set_option maxRecDepth 100000 in
set_option maxHeartbeats 8000000 in
theorem pieces_long (p : Pt) (A : Option Addr) (c : Nat) (a b : Int) (w : World) (hE : Env w) (h8 : p.r.length = 8) (hl : 512 < p.mem.length) :
    Calls Tryz.prog 7 #[.agg (partC p (.slice A p.mem.length c)), .int .i64 a, .int .i64 b] w fun e w' => e = .returned (.bool true) ∧ Chg Non w w' := by
  have HE := Lib.hid hE
  have hb1 : decide ((p.mem.length : Int) > 512) = true := by simp; omega
  have hp : PartB (w.alloc (.cells (partC p (.slice A p.mem.length c)) 26)) w.heap.size p (.slice A p.mem.length c) := ⟨heap_alloc_new _ _, h8⟩
  have c13 := hp.cells.2.2.2.2.2
  obtain ⟨C, hC⟩ : ∃ C, partC p (.slice A p.mem.length c) = C := ⟨_, rfl⟩
  have z1 : C.size = 14 := by rw [← hC]; exact partC_size h8 _
  rw [hC] at c13 ⊢
  clear hC hp hE
  go_enter Tryz.func7, Tryz.ntmps7
  go_wp2_with fail
  refine (vawake_ok _ (HE.out.non ((Chg.refl Non w).alloc _))).mono ?_
  rintro e w1 ⟨rfl, hg⟩
  have HG := Lib.hid (((Chg.refl Non w).alloc _).then_non hg)
  clear hg
  go_wp2_with fail
  go_ret
  exact ⟨rfl, HG.out⟩
/- walk -/
theorem u201 (a : Int) : ∃ n : Nat, n < 201 ∧ wrap64 ((IntKind.u64.wrap a).tmod 201) = n := by
  have h : (IntKind.u64.wrap a) = a % 18446744073709551616 := IntKind.wrap_u64 a
  rw [h, Int.tmod_eq_emod_of_nonneg (by omega)]
  refine ⟨(a % 18446744073709551616 % 201).toNat, by omega, ?_⟩
  unfold wrap64
  omega
set_option maxRecDepth 100000 in
set_option maxHeartbeats 16000000 in
theorem pieces_ok (p : Pt) (A : Option Addr) (c : Nat) (a b : Int) (w : World) (hE : Env w) (hb : p.Bd) (hr : Rd w A p.mem) (hl : p.mem.length ≤ 512) :
    Calls Tryz.prog 7 #[.agg (partC p (.slice A p.mem.length c)), .int .i64 a, .int .i64 b] w fun e w' => e = .returned (.bool true) ∧ Chg Non w w' := by
  have HE := Lib.hid hE
  have HBd := Lib.hid hb
  have h8 := hb.r8
  have hb1 : decide ((p.mem.length : Int) > 512) = false := by simp; omega
  obtain ⟨na, hna1, hna⟩ := u201 a
  obtain ⟨nb, hnb1, hnb⟩ := u201 b
  have hp : PartB (w.alloc (.cells (partC p (.slice A p.mem.length c)) 26)) w.heap.size p (.slice A p.mem.length c) := ⟨heap_alloc_new _ _, h8⟩
  have hra := run_bd na p hb
  have hrab := run_bd (na + nb) p hb
  have hpc := run_pieces na nb p
  have hlea := run_le na p
  have hleab := run_le (na + nb) p
  obtain ⟨⟨qa, ka, sa⟩, ha⟩ : ∃ r, runV na p = r := ⟨_, rfl⟩
  obtain ⟨⟨qb, kb, sb⟩, hab⟩ : ∃ r, runV (na + nb) p = r := ⟨_, rfl⟩
  rw [ha] at hra hpc hlea
  rw [hab] at hrab hpc hleab
  simp only at hra hrab hpc hlea hleab
  have HA := Lib.hid ha
  have HAB := Lib.hid hab
  have HRa := Lib.hid hra
  have HRab := Lib.hid hrab
  have HPc := Lib.hid hpc
  have hqa8 := hra.1.r8
  have hqb8 := hrab.1.r8
  have HP := Lib.hid hp
  have HR := Lib.hid (hr.non ((Chg.refl Non w).alloc (.cells (partC p (.slice A p.mem.length c)) 26)))
  have c13 := hp.cells.2.2.2.2.2
  obtain ⟨C, hC⟩ : ∃ C, partC p (.slice A p.mem.length c) = C := ⟨_, rfl⟩
  have z1 : C.size = 14 := by rw [← hC]; exact partC_size h8 _
  have HC := Lib.hid hC
  rw [hC] at c13 ⊢
  have HG : Hid (Chg Non w (w.alloc (.cells C 26))) := Lib.hid ((Chg.refl Non w).alloc _)
  rw [hC] at HR HP
  clear hC hp hE hb hr ha hab hra hrab hpc
  go_enter Tryz.func7, Tryz.ntmps7
  go_wp2_with (first
    | (refine sel (some 30) (.load _ (.tmp 3)) ?_; refine Vm_stop ?_))
  refine HoleV.mk ?_
  refine wpList_load_row rfl 26 (.tmp 3) rfl w.heap.size rfl 26 C (0, 0) _ (heap_alloc_new _ _) Tryz.underlying26 rfl (by rw [z1]; exact info_part) ?_
  go_wp2_with fail
  have hrun := Run_v p qa ka sa na A c _ HBd.out HR.out (by omega) (by omega) HA.out
  rw [HC.out] at hrun
  refine hrun.mono ?_
  rintro e w1 ⟨A1, c1, rfl, m1, g1⟩
  have HM1 := Lib.hid m1
  have HG := Lib.hid (HG.out.then_non g1)
  have HP := Lib.hid (HP.out.non g1)
  have HR := Lib.hid (HR.out.non g1)
  clear m1 g1 hrun c13
  go_wp2_with (first
    | (refine sel none (.store _ (.tmp 7) (.tmp 33)) ?_; refine Vm_stop ?_))
  refine HoleV.mk ?_
  refine wpList_store_rowA rfl 26 (.tmp 7) (.tmp 33) rfl w1.heap.size (partC qa (.slice A1 qa.mem.length c1)) rfl rfl 26 zeroPart (heap_alloc_new w1 _) (by rw [partC_size hqa8]; exact info_part) (by rw [partC_size hqa8]; rfl) (partC_one _ _ rfl) ?_
  intro w2 hgW hbW
  have hgn : Chg Non w1 w2 := ((Chg.refl Non w1).alloc (.cells zeroPart 26)).then_new hgW (fun x e => by omega)
  have HP_a : Hid (PartB w2 w1.heap.size qa (.slice A1 qa.mem.length c1)) := Lib.hid ⟨hbW, hqa8⟩
  have HR_a := Lib.hid (HM1.out.non hgn)
  have HG := Lib.hid (HG.out.then_non hgn)
  have HP := Lib.hid (HP.out.non hgn)
  have HR := Lib.hid (HR.out.non hgn)
  clear hgW hbW hgn
  go_wp2_with (first
    | (refine sel (some 37) (.load _ (.tmp 3)) ?_; refine Vm_stop ?_))
  refine HoleV.mk ?_
  have hbc : w2.heap[w.heap.size]? = some (.cells C 26 (0, 0)) := by have h := HP.out.out; unfold PartAt at h; rw [HC.out] at h; exact h
  refine wpList_load_row rfl 26 (.tmp 3) rfl w.heap.size rfl 26 C (0, 0) _ hbc Tryz.underlying26 rfl (by rw [z1]; exact info_part) ?_
  go_wp2_with fail
  have hrun := Run_v p qb kb sb (na + nb) A c w2 HBd.out HR.out (by omega) (by omega) HAB.out
  rw [HC.out] at hrun
  refine hrun.mono ?_
  rintro e w3 ⟨A3, c3, rfl, m3, g3⟩
  have HM3 := Lib.hid m3
  have HG := Lib.hid (HG.out.then_non g3)
  have HP_a := Lib.hid (HP_a.out.non g3)
  have HR_a := Lib.hid (HR_a.out.non g3)
  clear m3 g3 hrun hbc
  go_wp2_with (first
    | (refine sel none (.store _ (.tmp 10) (.tmp 42)) ?_; refine Vm_stop ?_))
  refine HoleV.mk ?_
  refine wpList_store_rowA rfl 26 (.tmp 10) (.tmp 42) rfl w3.heap.size (partC qb (.slice A3 qb.mem.length c3)) rfl rfl 26 zeroPart (heap_alloc_new w3 _) (by rw [partC_size hqb8]; exact info_part) (by rw [partC_size hqb8]; rfl) (partC_one _ _ rfl) ?_
  intro w4 hgW hbW
  have hgn : Chg Non w3 w4 := ((Chg.refl Non w3).alloc (.cells zeroPart 26)).then_new hgW (fun x e => by omega)
  have HP_b : Hid (PartB w4 w3.heap.size qb (.slice A3 qb.mem.length c3)) := Lib.hid ⟨hbW, hqb8⟩
  have HR_b := Lib.hid (HM3.out.non hgn)
  have HG := Lib.hid (HG.out.then_non hgn)
  have HP_a := Lib.hid (HP_a.out.non hgn)
  have HR_a := Lib.hid (HR_a.out.non hgn)
  clear hgW hbW hgn
  obtain ⟨b_a, hba⟩ : ∃ b, w1.heap.size = b := ⟨_, rfl⟩
  obtain ⟨b_b, hbb⟩ : ∃ b, w3.heap.size = b := ⟨_, rfl⟩
  rw [hba] at HP_a ⊢
  rw [hbb] at HP_b ⊢
  clear hba hbb
  have s1 : decide ((sa : Int) > (na : Int)) = false := by simp; omega
  have s2 : decide ((sb : Int) > (na : Int) + (nb : Int)) = false := by rw [decide_eq_false_iff_not]; omega
  by_cases hk : 0 ≤ ka
  · have hq := HPc.out.1 hk
    simp only [Prod.mk.injEq] at hq
    obtain ⟨rfl, rfl, rfl⟩ := hq
    have k1 : decide (kb ≥ 0) = true := by simpa using hk
    clear hk
    go_wp2_with (first
      | (refine sel (some 68) (.load _ (.tmp 7)) ?_; refine Vm_stop ?_))
    refine HoleV.mk ?_
    refine wpList_loadW (some 68) 26 (.tmp 7) b_a 0 _ _ rfl rfl (by kernel_rfl) rfl (row_range HP_a.out.out) Tryz.underlying26 rfl (by rw [partC_size HP_a.out.len]; exact info_part) ?_
    go_wp2_with (first
      | (refine sel (some 69) (.load _ (.tmp 10)) ?_; refine Vm_stop ?_))
    refine HoleV.mk ?_
    refine wpList_loadW (some 69) 26 (.tmp 10) b_b 0 _ _ rfl rfl (by kernel_rfl) rfl (row_range HP_b.out.out) Tryz.underlying26 rfl (by rw [partC_size HP_b.out.len]; exact info_part) ?_
    go_wp2_with fail
    refine (Same_eq qb A1 A3 qb.mem c1 c3 _ HRab.out.1 HR_a.out HR_b.out).mono ?_
    rintro e w5 ⟨rfl, g5⟩
    have HG := Lib.hid (HG.out.then_non g5)
    clear g5
    go_wp2_with fail
    refine (vawake_ok _ (HE.out.non HG.out)).mono ?_
    rintro e w6 ⟨rfl, g6⟩
    have HG := Lib.hid (HG.out.then_non g6)
    clear g6
    go_wp2_with fail
    go_ret
    exact ⟨rfl, HG.out⟩
  · have hkn : ka < 0 := by omega
    have hq := HPc.out.2 hkn
    have hrc := run_bd nb qa HRa.out.1
    obtain ⟨⟨qc, kc, sc⟩, hc⟩ : ∃ r, runV nb qa = r := ⟨_, rfl⟩
    rw [hc] at hq hrc
    simp only at hq hrc
    obtain ⟨rfl, rfl, hsum⟩ := hq
    have HCc := Lib.hid hc
    have HSum := Lib.hid hsum
    have hsumi : (sa : Int) + (sc : Int) = (sb : Int) := by omega
    have k1 : decide (ka ≥ 0) = false := by simpa using hkn
    have hql : qa.mem.length ≤ 512 := by rw [HRa.out.2]; exact hl
    have HQl := Lib.hid hql
    clear hk hkn hc hrc hsum hql
    go_wp2_with (first
      | (refine sel (some 79) (.load _ (.tmp 7)) ?_; refine Vm_stop ?_))
    refine HoleV.mk ?_
    refine wpList_load_row rfl 26 (.tmp 7) rfl b_a rfl 26 _ (0, 0) _ HP_a.out.out Tryz.underlying26 rfl (by rw [partC_size HP_a.out.len]; exact info_part) ?_
    go_wp2_with fail
    refine (Run_v qa qb kb sc nb A1 c1 _ HRa.out.1 HR_a.out (by have := HQl.out; omega) (by omega) HCc.out).mono ?_
    rintro e w5 ⟨A5, c5, rfl, m5, g5⟩
    have HM5 := Lib.hid m5
    have HG := Lib.hid (HG.out.then_non g5)
    have HP_b := Lib.hid (HP_b.out.non g5)
    have HR_b := Lib.hid (HR_b.out.non g5)
    clear m5 g5
    go_wp2_with (first
      | (refine sel none (.store _ (.tmp 13) (.tmp 82)) ?_; refine Vm_stop ?_))
    refine HoleV.mk ?_
    refine wpList_store_rowA rfl 26 (.tmp 13) (.tmp 82) rfl w5.heap.size (partC qb (.slice A5 qb.mem.length c5)) rfl rfl 26 zeroPart (heap_alloc_new w5 _) (by rw [partC_size hqb8]; exact info_part) (by rw [partC_size hqb8]; rfl) (partC_one _ _ rfl) ?_
    intro w6 hgW hbW
    have hgn : Chg Non w5 w6 := ((Chg.refl Non w5).alloc (.cells zeroPart 26)).then_new hgW (fun x e => by omega)
    have HP_c : Hid (PartB w6 w5.heap.size qb (.slice A5 qb.mem.length c5)) := Lib.hid ⟨hbW, hqb8⟩
    have HR_c := Lib.hid (HM5.out.non hgn)
    have HG := Lib.hid (HG.out.then_non hgn)
    have HP_b := Lib.hid (HP_b.out.non hgn)
    have HR_b := Lib.hid (HR_b.out.non hgn)
    clear hgW hbW hgn
    go_wp2_with (first
      | (refine sel (some 85) (.load _ (.tmp 13)) ?_; refine Vm_stop ?_))
    refine HoleV.mk ?_
    refine wpList_load_row rfl 26 (.tmp 13) rfl w5.heap.size rfl 26 _ (0, 0) _ HP_c.out.out Tryz.underlying26 rfl (by rw [partC_size HP_c.out.len]; exact info_part) ?_
    go_wp2_with (first
      | (refine sel (some 86) (.load _ (.tmp 10)) ?_; refine Vm_stop ?_))
    refine HoleV.mk ?_
    refine wpList_load_row rfl 26 (.tmp 10) rfl b_b rfl 26 _ (0, 0) _ HP_b.out.out Tryz.underlying26 rfl (by rw [partC_size HP_b.out.len]; exact info_part) ?_
    go_wp2_with fail
    refine (Same_eq qb A5 A3 qb.mem c5 c3 _ HRab.out.1 HR_c.out HR_b.out).mono ?_
    rintro e w7 ⟨rfl, g7⟩
    have HG := Lib.hid (HG.out.then_non g7)
    clear g7
    go_wp2_with fail
    refine (vawake_ok _ (HE.out.non HG.out)).mono ?_
    rintro e w8 ⟨rfl, g8⟩
    have HG := Lib.hid (HG.out.then_non g8)
    clear g8
    go_wp2_with fail
    go_ret
    exact ⟨rfl, HG.out⟩
theorem VmPieces_ok (p : Pt) (A : Option Addr) (c : Nat) (a b : Int) (w : World) (hE : Env w) (hb : p.Bd) (hr : Rd w A p.mem) :
    Calls Tryz.prog 7 #[.agg (partC p (.slice A p.mem.length c)), .int .i64 a, .int .i64 b] w fun e w' => e = .returned (.bool true) ∧ Chg Non w w' := by
  rcases Nat.lt_or_ge 512 p.mem.length with h | h
  · exact pieces_long p A c a b w hE hb.r8 h
  · exact pieces_ok p A c a b w hE hb hr h
end Go.Proofs.YtpcmnphohneddaaGreatDoor
