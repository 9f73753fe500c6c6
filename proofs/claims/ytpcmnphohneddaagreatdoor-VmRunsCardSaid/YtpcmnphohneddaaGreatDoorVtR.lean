/- Walk of citadellaw20.VmRuns, and what it needs of the document's answer. (Written by wip/merge_vo.py.) -/
import Derived.Test.YtpcmnphohneddaaGreatDoorVoA
import Derived.Test.YtpcmnphohneddaaGreatDoorVoB
import Derived.Test.YtpcmnphohneddaaGreatDoorVq6
import Derived.Test.YtpcmnphohneddaaGreatDoorVsC
import Derived.Test.YtpcmnphohneddaaGreatDoorVsD
import Derived.Test.YtpcmnphohneddaaGreatDoorVsE
namespace Go.Proofs.YtpcmnphohneddaaGreatDoor
open Go.RowKit
set_option linter.unusedVariables false

theorem rStep_ok (p : Pt) (A : Option Addr) (c : Nat) (w : World) (hb : p.Bd) (hr : Rd w A p.mem) (hl : p.mem.length ≤ 1000000) :
    Calls Tryz.prog 10 #[.agg (partC p (.slice A p.mem.length c))] w (RetStep w (stepV p).1 (stepV p).2.1 (stepV p).2.2) := by
  by_cases hs : p.st = 0
  · cases ht : there p.mem p.pc 4 with
    | false =>
      rw [stepV_nof hs (by unfold fetch; rw [ht]; rfl)]
      exact rStep_nofetch p A c w hb hr hl hs ht
    | true =>
      have hlen := cut_len (there_yes ht).2
      match hcut : cut p.mem p.pc 4, hlen with
      | [f0, f1, f2, f3], _ =>
        have hfe : fetch p = some (decI f0.toNat f1.toNat f2.toNat f3.toNat) := by unfold fetch; rw [ht, hcut]; rfl
        cases hm : mayB (decI f0.toNat f1.toNat f2.toNat f3.toNat) with
        | false =>
          rw [stepV_bad hs hfe hm]
          exact rStep_badop p A c w hb hr hl hs ht f0 f1 f2 f3 hcut hm
        | true =>
          obtain ⟨⟨op, a, b2, cc, ni⟩, hd⟩ : ∃ x, decI f0.toNat f1.toNat f2.toNat f3.toNat = x := ⟨_, rfl⟩
          rw [hd] at hm hfe
          have hi := (mayB_iff _).1 hm
          have hop1 : 1 ≤ op := hi.1.1
          have hop2 : op ≤ 21 := hi.1.2
          obtain ⟨n, rfl⟩ : ∃ n : Nat, ni = n := ⟨ni.toNat, by have := hi.2.2.2.2.1; simp only at this; omega⟩
          have hk : op = 1 ∨ op = 2 ∨ op = 3 ∨ op = 4 ∨ op = 5 ∨ op = 6 ∨ op = 7 ∨ op = 8 ∨ op = 9 ∨ op = 10 ∨ op = 11 ∨ op = 12 ∨ op = 13 ∨ op = 14 ∨ op = 15 ∨ op = 16 ∨ op = 17 ∨ op = 18 ∨ op = 19 ∨ op = 20 ∨ op = 21 := by omega
          clear hi
          rcases hk with rfl | rfl | rfl | rfl | rfl | rfl | rfl | rfl | rfl | rfl | rfl | rfl | rfl | rfl | rfl | rfl | rfl | rfl | rfl | rfl | rfl
          · rw [stepV_does hs hfe hm (by simp [jumpsB]) (does_1 p a b2 cc n), if_neg (by show ¬ 1 = 20; omega)]
            exact rStep_1 p A c w hb hr hl hs ht f0 f1 f2 f3 hcut a b2 cc n hd hm
          · rw [stepV_does hs hfe hm (by simp [jumpsB]) (does_2 p a b2 cc n), if_neg (by show ¬ 2 = 20; omega)]
            exact rStep_2 p A c w hb hr hl hs ht f0 f1 f2 f3 hcut a b2 cc n hd hm
          · rw [stepV_does hs hfe hm (by simp [jumpsB]) (does_3 p a b2 cc n), if_neg (by show ¬ 3 = 20; omega)]
            exact rStep_3 p A c w hb hr hl hs ht f0 f1 f2 f3 hcut a b2 cc n hd hm
          · rw [stepV_does hs hfe hm (by simp [jumpsB]) (does_4 p a b2 cc n), if_neg (by show ¬ 4 = 20; omega)]
            exact rStep_4 p A c w hb hr hl hs ht f0 f1 f2 f3 hcut a b2 cc n hd hm
          · rw [stepV_does hs hfe hm (by simp [jumpsB]) (does_5 p a b2 cc n), if_neg (by show ¬ 5 = 20; omega)]
            exact rStep_5 p A c w hb hr hl hs ht f0 f1 f2 f3 hcut a b2 cc n hd hm
          · rw [stepV_does hs hfe hm (by simp [jumpsB]) (does_6 p a b2 cc n), if_neg (by show ¬ 6 = 20; omega)]
            exact rStep_6 p A c w hb hr hl hs ht f0 f1 f2 f3 hcut a b2 cc n hd hm
          · rw [stepV_does hs hfe hm (by simp [jumpsB]) (does_7 p a b2 cc n), if_neg (by show ¬ 7 = 20; omega)]
            exact rStep_7 p A c w hb hr hl hs ht f0 f1 f2 f3 hcut a b2 cc n hd hm
          · rw [stepV_does hs hfe hm (by simp [jumpsB]) (does_8 p a b2 cc n), if_neg (by show ¬ 8 = 20; omega)]
            exact rStep_8 p A c w hb hr hl hs ht f0 f1 f2 f3 hcut a b2 cc n hd hm
          · rw [stepV_does hs hfe hm (by simp [jumpsB]) (does_9 p a b2 cc n), if_neg (by show ¬ 9 = 20; omega)]
            exact rStep_9 p A c w hb hr hl hs ht f0 f1 f2 f3 hcut a b2 cc n hd hm
          · rw [stepV_does hs hfe hm (by simp [jumpsB]) (does_10 p a b2 cc n), if_neg (by show ¬ 10 = 20; omega)]
            exact rStep_10 p A c w hb hr hl hs ht f0 f1 f2 f3 hcut a b2 cc n hd hm
          · rw [stepV_does hs hfe hm (by simp [jumpsB]) (does_11 p a b2 cc n), if_neg (by show ¬ 11 = 20; omega)]
            exact rStep_11 p A c w hb hr hl hs ht f0 f1 f2 f3 hcut a b2 cc n hd hm
          · rw [stepV_does hs hfe hm (by simp [jumpsB]) (does_12 p a b2 cc n), if_neg (by show ¬ 12 = 20; omega)]
            exact rStep_12 p A c w hb hr hl hs ht f0 f1 f2 f3 hcut a b2 cc n hd hm
          · cases hth : there p.mem (p.g b2 + n) 1 with
            | true =>
              rw [stepV_does hs hfe hm (by simp [jumpsB]) (does_13 p a b2 cc n hth), if_neg (by show ¬ 13 = 20; omega)]
              exact rStep_13 p A c w hb hr hl hs ht f0 f1 f2 f3 hcut a b2 cc n hd hm hth
            | false =>
              rw [stepV_fail hs hfe hm (by simp [jumpsB]) (does_13n p a b2 cc n hth)]
              exact rStep_13n p A c w hb hr hl hs ht f0 f1 f2 f3 hcut a b2 cc n hd hm hth
          · cases hth : there p.mem (p.g b2 + n) 1 with
            | true =>
              rw [stepV_does hs hfe hm (by simp [jumpsB]) (does_14 p a b2 cc n hth), if_neg (by show ¬ 14 = 20; omega)]
              exact rStep_14 p A c w hb hr hl hs ht f0 f1 f2 f3 hcut a b2 cc n hd hm hth
            | false =>
              rw [stepV_fail hs hfe hm (by simp [jumpsB]) (does_14n p a b2 cc n hth)]
              exact rStep_14n p A c w hb hr hl hs ht f0 f1 f2 f3 hcut a b2 cc n hd hm hth
          · cases hth : there p.mem (p.g b2 + n) 4 with
            | true =>
              rw [stepV_does hs hfe hm (by simp [jumpsB]) (does_15 p a b2 cc n hth), if_neg (by show ¬ 15 = 20; omega)]
              exact rStep_15 p A c w hb hr hl hs ht f0 f1 f2 f3 hcut a b2 cc n hd hm hth
            | false =>
              rw [stepV_fail hs hfe hm (by simp [jumpsB]) (does_15n p a b2 cc n hth)]
              exact rStep_15n p A c w hb hr hl hs ht f0 f1 f2 f3 hcut a b2 cc n hd hm hth
          · cases hth : there p.mem (p.g b2 + n) 4 with
            | true =>
              rw [stepV_does hs hfe hm (by simp [jumpsB]) (does_16 p a b2 cc n hth), if_neg (by show ¬ 16 = 20; omega)]
              exact rStep_16 p A c w hb hr hl hs ht f0 f1 f2 f3 hcut a b2 cc n hd hm hth
            | false =>
              rw [stepV_fail hs hfe hm (by simp [jumpsB]) (does_16n p a b2 cc n hth)]
              exact rStep_16n p A c w hb hr hl hs ht f0 f1 f2 f3 hcut a b2 cc n hd hm hth
          · rw [stepV_jump hs hfe hm (by simp [jumpsB])]
            exact rStep_j17 p A c w hb hr hl hs ht f0 f1 f2 f3 hcut a b2 cc n hd hm
          · by_cases hz : p.g a = 0
            · rw [stepV_jump hs hfe hm (by simp [jumpsB, hz])]
              exact rStep_j18 p A c w hb hr hl hs ht f0 f1 f2 f3 hcut a b2 cc n hd hm hz
            · rw [stepV_does hs hfe hm (by simp [jumpsB, hz]) (does_18 p a b2 cc n), if_neg (by show ¬ 18 = 20; omega)]
              exact rStep_18 p A c w hb hr hl hs ht f0 f1 f2 f3 hcut a b2 cc n hd hm hz
          · by_cases hz : p.g a = 0
            · rw [stepV_does hs hfe hm (by simp [jumpsB, hz]) (does_19 p a b2 cc n), if_neg (by show ¬ 19 = 20; omega)]
              exact rStep_19 p A c w hb hr hl hs ht f0 f1 f2 f3 hcut a b2 cc n hd hm hz
            · rw [stepV_jump hs hfe hm (by simp [jumpsB, hz])]
              exact rStep_j19 p A c w hb hr hl hs ht f0 f1 f2 f3 hcut a b2 cc n hd hm hz
          · rw [stepV_does hs hfe hm (by simp [jumpsB]) (does_20 p a b2 cc n), if_pos rfl]
            exact rStep_20 p A c w hb hr hl hs ht f0 f1 f2 f3 hcut a b2 cc n hd hm
          · rw [stepV_does hs hfe hm (by simp [jumpsB]) (does_21 p a b2 cc n), if_neg (by show ¬ 21 = 20; omega)]
            exact rStep_21 p A c w hb hr hl hs ht f0 f1 f2 f3 hcut a b2 cc n hd hm
  · rw [stepV_stop hs]
    exact rStep_stop p A c w hb hr hl hs

/-- are two partitions the same? -/
def sameB (p q : Pt) : Bool := (p.id == q.id) && ((p.size == q.size) && ((p.keep == q.keep) && (decide (p.r = q.r) && (((p.pc : Int) == (q.pc : Int)) && (((p.st : Int) == (q.st : Int)) && decide (p.mem = q.mem))))))
theorem sameB_refl (p : Pt) : sameB p p = true := by simp [sameB]
theorem list8 {l : List Nat} (h : l.length = 8) : l = [l.getD 0 0, l.getD 1 0, l.getD 2 0, l.getD 3 0, l.getD 4 0, l.getD 5 0, l.getD 6 0, l.getD 7 0] := by
  match l, h with
  | [a, b, c, d, e, f, g, i], _ => rfl
theorem regLits_inj {p q : Pt} (hp : p.r.length = 8) (hq : q.r.length = 8) : regLits p = regLits q ↔ p.r = q.r := by
  constructor
  · intro h
    rw [list8 hp, list8 hq]
    simp only [regLits, List.cons.injEq, Lit.int.injEq, true_and, and_true, Pt.g] at h
    obtain ⟨h0, h1, h2, h3, h4, h5, h6, h7⟩ := h
    rw [show p.r.getD 0 0 = q.r.getD 0 0 by omega, show p.r.getD 1 0 = q.r.getD 1 0 by omega, show p.r.getD 2 0 = q.r.getD 2 0 by omega, show p.r.getD 3 0 = q.r.getD 3 0 by omega, show p.r.getD 4 0 = q.r.getD 4 0 by omega, show p.r.getD 5 0 = q.r.getD 5 0 by omega, show p.r.getD 6 0 = q.r.getD 6 0 by omega, show p.r.getD 7 0 = q.r.getD 7 0 by omega]
  · intro h
    simp only [regLits, Pt.g, h]
theorem eq_regs (p q : Pt) (hp : p.Bd) (hq : q.Bd) (w : World) : (binOp .eql 23 (.agg (regC p)) (.agg (regC q))).run Tryz.prog w = .ok (.bool (decide (p.r = q.r))) w :=
  (eq_agg (P := Tryz.prog) (t := 23) (regLits_inj hp.r8 hq.r8) 3 (by omega) (by kernel_rfl) (reg_formed p) (reg_formed q) (keyLits_reg p hp) (keyLits_reg q hq) w).1
theorem lst_eq (l m : List UInt8) : (l == m) = decide (l = m) := by
  rw [Bool.eq_iff_iff]
  simp
set_option maxRecDepth 100000 in
set_option maxHeartbeats 4000000 in
theorem vSame_0 (p q : Pt) (A1 A2 : Option Addr) (c1 c2 : Nat) (w : World) (hb : p.Bd) (hbq : q.Bd) (h1 : Rd w A1 p.mem) (h2 : Rd w A2 q.mem) (e0 : ((p.id : Int) == q.id) = false) :
    Calls Tryz.prog 15 #[.agg (partC p (.slice A1 p.mem.length c1)), .agg (partC q (.slice A2 q.mem.length c2))] w fun e w' => e = .returned (.bool false) ∧ Chg Non w w' := by
  have h8 := hb.r8
  have hq8 := hbq.r8
  have hg0 : Chg Non w ((w.alloc (.cells (partC p (.slice A1 p.mem.length c1)) 26)).alloc (.cells (partC q (.slice A2 q.mem.length c2)) 26)) := ((Chg.refl Non w).alloc _).alloc _
  have hp1 : PartB ((w.alloc (.cells (partC p (.slice A1 p.mem.length c1)) 26)).alloc (.cells (partC q (.slice A2 q.mem.length c2)) 26)) w.heap.size p (.slice A1 p.mem.length c1) := ⟨al_2_0 _ _ _, h8⟩
  have hp2 : PartB ((w.alloc (.cells (partC p (.slice A1 p.mem.length c1)) 26)).alloc (.cells (partC q (.slice A2 q.mem.length c2)) 26)) (w.heap.size + 1) q (.slice A2 q.mem.length c2) := ⟨al_2_1 _ _ _, hq8⟩
  have hs1 := str_of A1 p.mem c1 _ (h1.non hg0)
  have hs2 := str_of A2 q.mem c2 _ (h2.non hg0)
  obtain ⟨C1, hC1⟩ : ∃ C, partC p (.slice A1 p.mem.length c1) = C := ⟨_, rfl⟩
  obtain ⟨C2, hC2⟩ : ∃ C, partC q (.slice A2 q.mem.length c2) = C := ⟨_, rfl⟩
  have z1 : C1.size = 14 := by rw [← hC1]; exact partC_size h8 _
  have z2 : C2.size = 14 := by rw [← hC2]; exact partC_size hq8 _
  rw [hC1, hC2] at hp1 hp2 hg0 hs1 hs2 ⊢
  clear hC1 hC2
  have HP1 := Lib.hid hp1
  have HP2 := Lib.hid hp2
  have HG0 := Lib.hid hg0
  obtain ⟨a0, a1, a2, a3, a4, a5⟩ := hp1.cells
  obtain ⟨d0, d1, d2, d3, d4, d5⟩ := hp2.cells
  clear hp1 hp2 hg0 h1 h2 hs1 hs2
  go_enter Tryz.func15, Tryz.ntmps15
  go_wp2_with fail
  go_ret
  exact ⟨rfl, HG0.out⟩
set_option maxRecDepth 100000 in
set_option maxHeartbeats 4000000 in
theorem vSame_1 (p q : Pt) (A1 A2 : Option Addr) (c1 c2 : Nat) (w : World) (hb : p.Bd) (hbq : q.Bd) (h1 : Rd w A1 p.mem) (h2 : Rd w A2 q.mem) (e0 : ((p.id : Int) == q.id) = true) (e1 : ((p.size : Int) == q.size) = false) :
    Calls Tryz.prog 15 #[.agg (partC p (.slice A1 p.mem.length c1)), .agg (partC q (.slice A2 q.mem.length c2))] w fun e w' => e = .returned (.bool false) ∧ Chg Non w w' := by
  have h8 := hb.r8
  have hq8 := hbq.r8
  have hg0 : Chg Non w ((w.alloc (.cells (partC p (.slice A1 p.mem.length c1)) 26)).alloc (.cells (partC q (.slice A2 q.mem.length c2)) 26)) := ((Chg.refl Non w).alloc _).alloc _
  have hp1 : PartB ((w.alloc (.cells (partC p (.slice A1 p.mem.length c1)) 26)).alloc (.cells (partC q (.slice A2 q.mem.length c2)) 26)) w.heap.size p (.slice A1 p.mem.length c1) := ⟨al_2_0 _ _ _, h8⟩
  have hp2 : PartB ((w.alloc (.cells (partC p (.slice A1 p.mem.length c1)) 26)).alloc (.cells (partC q (.slice A2 q.mem.length c2)) 26)) (w.heap.size + 1) q (.slice A2 q.mem.length c2) := ⟨al_2_1 _ _ _, hq8⟩
  have hs1 := str_of A1 p.mem c1 _ (h1.non hg0)
  have hs2 := str_of A2 q.mem c2 _ (h2.non hg0)
  obtain ⟨C1, hC1⟩ : ∃ C, partC p (.slice A1 p.mem.length c1) = C := ⟨_, rfl⟩
  obtain ⟨C2, hC2⟩ : ∃ C, partC q (.slice A2 q.mem.length c2) = C := ⟨_, rfl⟩
  have z1 : C1.size = 14 := by rw [← hC1]; exact partC_size h8 _
  have z2 : C2.size = 14 := by rw [← hC2]; exact partC_size hq8 _
  rw [hC1, hC2] at hp1 hp2 hg0 hs1 hs2 ⊢
  clear hC1 hC2
  have HP1 := Lib.hid hp1
  have HP2 := Lib.hid hp2
  have HG0 := Lib.hid hg0
  obtain ⟨a0, a1, a2, a3, a4, a5⟩ := hp1.cells
  obtain ⟨d0, d1, d2, d3, d4, d5⟩ := hp2.cells
  clear hp1 hp2 hg0 h1 h2 hs1 hs2
  go_enter Tryz.func15, Tryz.ntmps15
  go_wp2_with fail
  go_ret
  exact ⟨rfl, HG0.out⟩
set_option maxRecDepth 100000 in
set_option maxHeartbeats 4000000 in
theorem vSame_2 (p q : Pt) (A1 A2 : Option Addr) (c1 c2 : Nat) (w : World) (hb : p.Bd) (hbq : q.Bd) (h1 : Rd w A1 p.mem) (h2 : Rd w A2 q.mem) (e0 : ((p.id : Int) == q.id) = true) (e1 : ((p.size : Int) == q.size) = true) (e2 : (p.keep == q.keep) = false) :
    Calls Tryz.prog 15 #[.agg (partC p (.slice A1 p.mem.length c1)), .agg (partC q (.slice A2 q.mem.length c2))] w fun e w' => e = .returned (.bool false) ∧ Chg Non w w' := by
  have h8 := hb.r8
  have hq8 := hbq.r8
  have hg0 : Chg Non w ((w.alloc (.cells (partC p (.slice A1 p.mem.length c1)) 26)).alloc (.cells (partC q (.slice A2 q.mem.length c2)) 26)) := ((Chg.refl Non w).alloc _).alloc _
  have hp1 : PartB ((w.alloc (.cells (partC p (.slice A1 p.mem.length c1)) 26)).alloc (.cells (partC q (.slice A2 q.mem.length c2)) 26)) w.heap.size p (.slice A1 p.mem.length c1) := ⟨al_2_0 _ _ _, h8⟩
  have hp2 : PartB ((w.alloc (.cells (partC p (.slice A1 p.mem.length c1)) 26)).alloc (.cells (partC q (.slice A2 q.mem.length c2)) 26)) (w.heap.size + 1) q (.slice A2 q.mem.length c2) := ⟨al_2_1 _ _ _, hq8⟩
  have hs1 := str_of A1 p.mem c1 _ (h1.non hg0)
  have hs2 := str_of A2 q.mem c2 _ (h2.non hg0)
  obtain ⟨C1, hC1⟩ : ∃ C, partC p (.slice A1 p.mem.length c1) = C := ⟨_, rfl⟩
  obtain ⟨C2, hC2⟩ : ∃ C, partC q (.slice A2 q.mem.length c2) = C := ⟨_, rfl⟩
  have z1 : C1.size = 14 := by rw [← hC1]; exact partC_size h8 _
  have z2 : C2.size = 14 := by rw [← hC2]; exact partC_size hq8 _
  rw [hC1, hC2] at hp1 hp2 hg0 hs1 hs2 ⊢
  clear hC1 hC2
  have HP1 := Lib.hid hp1
  have HP2 := Lib.hid hp2
  have HG0 := Lib.hid hg0
  obtain ⟨a0, a1, a2, a3, a4, a5⟩ := hp1.cells
  obtain ⟨d0, d1, d2, d3, d4, d5⟩ := hp2.cells
  clear hp1 hp2 hg0 h1 h2 hs1 hs2
  go_enter Tryz.func15, Tryz.ntmps15
  go_wp2_with fail
  go_ret
  exact ⟨rfl, HG0.out⟩
set_option maxRecDepth 100000 in
set_option maxHeartbeats 4000000 in
theorem vSame_3 (p q : Pt) (A1 A2 : Option Addr) (c1 c2 : Nat) (w : World) (hb : p.Bd) (hbq : q.Bd) (h1 : Rd w A1 p.mem) (h2 : Rd w A2 q.mem) (e0 : ((p.id : Int) == q.id) = true) (e1 : ((p.size : Int) == q.size) = true) (e2 : (p.keep == q.keep) = true) (e3 : decide (p.r = q.r) = false) :
    Calls Tryz.prog 15 #[.agg (partC p (.slice A1 p.mem.length c1)), .agg (partC q (.slice A2 q.mem.length c2))] w fun e w' => e = .returned (.bool false) ∧ Chg Non w w' := by
  have h8 := hb.r8
  have hq8 := hbq.r8
  have hg0 : Chg Non w ((w.alloc (.cells (partC p (.slice A1 p.mem.length c1)) 26)).alloc (.cells (partC q (.slice A2 q.mem.length c2)) 26)) := ((Chg.refl Non w).alloc _).alloc _
  have hp1 : PartB ((w.alloc (.cells (partC p (.slice A1 p.mem.length c1)) 26)).alloc (.cells (partC q (.slice A2 q.mem.length c2)) 26)) w.heap.size p (.slice A1 p.mem.length c1) := ⟨al_2_0 _ _ _, h8⟩
  have hp2 : PartB ((w.alloc (.cells (partC p (.slice A1 p.mem.length c1)) 26)).alloc (.cells (partC q (.slice A2 q.mem.length c2)) 26)) (w.heap.size + 1) q (.slice A2 q.mem.length c2) := ⟨al_2_1 _ _ _, hq8⟩
  have hs1 := str_of A1 p.mem c1 _ (h1.non hg0)
  have hs2 := str_of A2 q.mem c2 _ (h2.non hg0)
  obtain ⟨C1, hC1⟩ : ∃ C, partC p (.slice A1 p.mem.length c1) = C := ⟨_, rfl⟩
  obtain ⟨C2, hC2⟩ : ∃ C, partC q (.slice A2 q.mem.length c2) = C := ⟨_, rfl⟩
  have z1 : C1.size = 14 := by rw [← hC1]; exact partC_size h8 _
  have z2 : C2.size = 14 := by rw [← hC2]; exact partC_size hq8 _
  rw [hC1, hC2] at hp1 hp2 hg0 hs1 hs2 ⊢
  clear hC1 hC2
  have HP1 := Lib.hid hp1
  have HP2 := Lib.hid hp2
  have HG0 := Lib.hid hg0
  have he8 := eq_regs p q hb hbq
  rw [e3] at he8
  obtain ⟨a0, a1, a2, a3, a4, a5⟩ := hp1.cells
  obtain ⟨d0, d1, d2, d3, d4, d5⟩ := hp2.cells
  clear hp1 hp2 hg0 h1 h2 hs1 hs2 e3
  go_enter Tryz.func15, Tryz.ntmps15
  go_wp2_with (first
    | (refine sel (some 26) (.load _ (.tmp 25)) ?_; refine Vm_stop ?_))
  refine HoleV.mk ?_
  refine wpList_loadW (some 26) 23 (.tmp 25) w.heap.size 3 (regC p) _ rfl rfl (by kernel_rfl) rfl HP1.out.regs Tryz.underlying23 rfl info_reg ?_
  go_wp2_with (first
    | (refine sel (some 28) (.load _ (.tmp 27)) ?_; refine Vm_stop ?_))
  refine HoleV.mk ?_
  refine wpList_loadW (some 28) 23 (.tmp 27) (w.heap.size + 1) 3 (regC q) _ rfl rfl (by kernel_rfl) rfl HP2.out.regs Tryz.underlying23 rfl info_reg ?_
  go_wp2_with fail
  go_ret
  exact ⟨rfl, HG0.out⟩
set_option maxRecDepth 100000 in
set_option maxHeartbeats 4000000 in
theorem vSame_4 (p q : Pt) (A1 A2 : Option Addr) (c1 c2 : Nat) (w : World) (hb : p.Bd) (hbq : q.Bd) (h1 : Rd w A1 p.mem) (h2 : Rd w A2 q.mem) (e0 : ((p.id : Int) == q.id) = true) (e1 : ((p.size : Int) == q.size) = true) (e2 : (p.keep == q.keep) = true) (e3 : decide (p.r = q.r) = true) (e4 : ((p.pc : Int) == (q.pc : Int)) = false) :
    Calls Tryz.prog 15 #[.agg (partC p (.slice A1 p.mem.length c1)), .agg (partC q (.slice A2 q.mem.length c2))] w fun e w' => e = .returned (.bool false) ∧ Chg Non w w' := by
  have h8 := hb.r8
  have hq8 := hbq.r8
  have hg0 : Chg Non w ((w.alloc (.cells (partC p (.slice A1 p.mem.length c1)) 26)).alloc (.cells (partC q (.slice A2 q.mem.length c2)) 26)) := ((Chg.refl Non w).alloc _).alloc _
  have hp1 : PartB ((w.alloc (.cells (partC p (.slice A1 p.mem.length c1)) 26)).alloc (.cells (partC q (.slice A2 q.mem.length c2)) 26)) w.heap.size p (.slice A1 p.mem.length c1) := ⟨al_2_0 _ _ _, h8⟩
  have hp2 : PartB ((w.alloc (.cells (partC p (.slice A1 p.mem.length c1)) 26)).alloc (.cells (partC q (.slice A2 q.mem.length c2)) 26)) (w.heap.size + 1) q (.slice A2 q.mem.length c2) := ⟨al_2_1 _ _ _, hq8⟩
  have hs1 := str_of A1 p.mem c1 _ (h1.non hg0)
  have hs2 := str_of A2 q.mem c2 _ (h2.non hg0)
  obtain ⟨C1, hC1⟩ : ∃ C, partC p (.slice A1 p.mem.length c1) = C := ⟨_, rfl⟩
  obtain ⟨C2, hC2⟩ : ∃ C, partC q (.slice A2 q.mem.length c2) = C := ⟨_, rfl⟩
  have z1 : C1.size = 14 := by rw [← hC1]; exact partC_size h8 _
  have z2 : C2.size = 14 := by rw [← hC2]; exact partC_size hq8 _
  rw [hC1, hC2] at hp1 hp2 hg0 hs1 hs2 ⊢
  clear hC1 hC2
  have HP1 := Lib.hid hp1
  have HP2 := Lib.hid hp2
  have HG0 := Lib.hid hg0
  have he8 := eq_regs p q hb hbq
  rw [e3] at he8
  obtain ⟨a0, a1, a2, a3, a4, a5⟩ := hp1.cells
  obtain ⟨d0, d1, d2, d3, d4, d5⟩ := hp2.cells
  clear hp1 hp2 hg0 h1 h2 hs1 hs2 e3
  go_enter Tryz.func15, Tryz.ntmps15
  go_wp2_with (first
    | (refine sel (some 26) (.load _ (.tmp 25)) ?_; refine Vm_stop ?_))
  refine HoleV.mk ?_
  refine wpList_loadW (some 26) 23 (.tmp 25) w.heap.size 3 (regC p) _ rfl rfl (by kernel_rfl) rfl HP1.out.regs Tryz.underlying23 rfl info_reg ?_
  go_wp2_with (first
    | (refine sel (some 28) (.load _ (.tmp 27)) ?_; refine Vm_stop ?_))
  refine HoleV.mk ?_
  refine wpList_loadW (some 28) 23 (.tmp 27) (w.heap.size + 1) 3 (regC q) _ rfl rfl (by kernel_rfl) rfl HP2.out.regs Tryz.underlying23 rfl info_reg ?_
  go_wp2_with fail
  go_ret
  exact ⟨rfl, HG0.out⟩
set_option maxRecDepth 100000 in
set_option maxHeartbeats 4000000 in
theorem vSame_5 (p q : Pt) (A1 A2 : Option Addr) (c1 c2 : Nat) (w : World) (hb : p.Bd) (hbq : q.Bd) (h1 : Rd w A1 p.mem) (h2 : Rd w A2 q.mem) (e0 : ((p.id : Int) == q.id) = true) (e1 : ((p.size : Int) == q.size) = true) (e2 : (p.keep == q.keep) = true) (e3 : decide (p.r = q.r) = true) (e4 : ((p.pc : Int) == (q.pc : Int)) = true) (e5 : ((p.st : Int) == (q.st : Int)) = false) :
    Calls Tryz.prog 15 #[.agg (partC p (.slice A1 p.mem.length c1)), .agg (partC q (.slice A2 q.mem.length c2))] w fun e w' => e = .returned (.bool false) ∧ Chg Non w w' := by
  have h8 := hb.r8
  have hq8 := hbq.r8
  have hg0 : Chg Non w ((w.alloc (.cells (partC p (.slice A1 p.mem.length c1)) 26)).alloc (.cells (partC q (.slice A2 q.mem.length c2)) 26)) := ((Chg.refl Non w).alloc _).alloc _
  have hp1 : PartB ((w.alloc (.cells (partC p (.slice A1 p.mem.length c1)) 26)).alloc (.cells (partC q (.slice A2 q.mem.length c2)) 26)) w.heap.size p (.slice A1 p.mem.length c1) := ⟨al_2_0 _ _ _, h8⟩
  have hp2 : PartB ((w.alloc (.cells (partC p (.slice A1 p.mem.length c1)) 26)).alloc (.cells (partC q (.slice A2 q.mem.length c2)) 26)) (w.heap.size + 1) q (.slice A2 q.mem.length c2) := ⟨al_2_1 _ _ _, hq8⟩
  have hs1 := str_of A1 p.mem c1 _ (h1.non hg0)
  have hs2 := str_of A2 q.mem c2 _ (h2.non hg0)
  obtain ⟨C1, hC1⟩ : ∃ C, partC p (.slice A1 p.mem.length c1) = C := ⟨_, rfl⟩
  obtain ⟨C2, hC2⟩ : ∃ C, partC q (.slice A2 q.mem.length c2) = C := ⟨_, rfl⟩
  have z1 : C1.size = 14 := by rw [← hC1]; exact partC_size h8 _
  have z2 : C2.size = 14 := by rw [← hC2]; exact partC_size hq8 _
  rw [hC1, hC2] at hp1 hp2 hg0 hs1 hs2 ⊢
  clear hC1 hC2
  have HP1 := Lib.hid hp1
  have HP2 := Lib.hid hp2
  have HG0 := Lib.hid hg0
  have he8 := eq_regs p q hb hbq
  rw [e3] at he8
  obtain ⟨a0, a1, a2, a3, a4, a5⟩ := hp1.cells
  obtain ⟨d0, d1, d2, d3, d4, d5⟩ := hp2.cells
  clear hp1 hp2 hg0 h1 h2 hs1 hs2 e3
  go_enter Tryz.func15, Tryz.ntmps15
  go_wp2_with (first
    | (refine sel (some 26) (.load _ (.tmp 25)) ?_; refine Vm_stop ?_))
  refine HoleV.mk ?_
  refine wpList_loadW (some 26) 23 (.tmp 25) w.heap.size 3 (regC p) _ rfl rfl (by kernel_rfl) rfl HP1.out.regs Tryz.underlying23 rfl info_reg ?_
  go_wp2_with (first
    | (refine sel (some 28) (.load _ (.tmp 27)) ?_; refine Vm_stop ?_))
  refine HoleV.mk ?_
  refine wpList_loadW (some 28) 23 (.tmp 27) (w.heap.size + 1) 3 (regC q) _ rfl rfl (by kernel_rfl) rfl HP2.out.regs Tryz.underlying23 rfl info_reg ?_
  go_wp2_with fail
  go_ret
  exact ⟨rfl, HG0.out⟩
set_option maxRecDepth 100000 in
set_option maxHeartbeats 4000000 in
theorem vSame_6 (p q : Pt) (A1 A2 : Option Addr) (c1 c2 : Nat) (w : World) (hb : p.Bd) (hbq : q.Bd) (h1 : Rd w A1 p.mem) (h2 : Rd w A2 q.mem) (e0 : ((p.id : Int) == q.id) = true) (e1 : ((p.size : Int) == q.size) = true) (e2 : (p.keep == q.keep) = true) (e3 : decide (p.r = q.r) = true) (e4 : ((p.pc : Int) == (q.pc : Int)) = true) (e5 : ((p.st : Int) == (q.st : Int)) = true) (e6 : decide (p.mem = q.mem) = false) :
    Calls Tryz.prog 15 #[.agg (partC p (.slice A1 p.mem.length c1)), .agg (partC q (.slice A2 q.mem.length c2))] w fun e w' => e = .returned (.bool false) ∧ Chg Non w w' := by
  have h8 := hb.r8
  have hq8 := hbq.r8
  have hg0 : Chg Non w ((w.alloc (.cells (partC p (.slice A1 p.mem.length c1)) 26)).alloc (.cells (partC q (.slice A2 q.mem.length c2)) 26)) := ((Chg.refl Non w).alloc _).alloc _
  have hp1 : PartB ((w.alloc (.cells (partC p (.slice A1 p.mem.length c1)) 26)).alloc (.cells (partC q (.slice A2 q.mem.length c2)) 26)) w.heap.size p (.slice A1 p.mem.length c1) := ⟨al_2_0 _ _ _, h8⟩
  have hp2 : PartB ((w.alloc (.cells (partC p (.slice A1 p.mem.length c1)) 26)).alloc (.cells (partC q (.slice A2 q.mem.length c2)) 26)) (w.heap.size + 1) q (.slice A2 q.mem.length c2) := ⟨al_2_1 _ _ _, hq8⟩
  have hs1 := str_of A1 p.mem c1 _ (h1.non hg0)
  have hs2 := str_of A2 q.mem c2 _ (h2.non hg0)
  obtain ⟨C1, hC1⟩ : ∃ C, partC p (.slice A1 p.mem.length c1) = C := ⟨_, rfl⟩
  obtain ⟨C2, hC2⟩ : ∃ C, partC q (.slice A2 q.mem.length c2) = C := ⟨_, rfl⟩
  have z1 : C1.size = 14 := by rw [← hC1]; exact partC_size h8 _
  have z2 : C2.size = 14 := by rw [← hC2]; exact partC_size hq8 _
  rw [hC1, hC2] at hp1 hp2 hg0 hs1 hs2 ⊢
  clear hC1 hC2
  have HP1 := Lib.hid hp1
  have HP2 := Lib.hid hp2
  have HG0 := Lib.hid hg0
  have he8 := eq_regs p q hb hbq
  rw [e3] at he8
  have heq := Tryz.bytes_Equal_strs _ _ _ _ _ hs1 hs2
  rw [ByteArray.toList_mk, ByteArray.toList_mk, lst_eq, e6] at heq
  have HEq := Lib.hid heq
  obtain ⟨a0, a1, a2, a3, a4, a5⟩ := hp1.cells
  obtain ⟨d0, d1, d2, d3, d4, d5⟩ := hp2.cells
  clear hp1 hp2 hg0 h1 h2 hs1 hs2 heq e3 e6
  go_enter Tryz.func15, Tryz.ntmps15
  go_wp2_with (first
    | (refine sel (some 26) (.load _ (.tmp 25)) ?_; refine Vm_stop ?_))
  refine HoleV.mk ?_
  refine wpList_loadW (some 26) 23 (.tmp 25) w.heap.size 3 (regC p) _ rfl rfl (by kernel_rfl) rfl HP1.out.regs Tryz.underlying23 rfl info_reg ?_
  go_wp2_with (first
    | (refine sel (some 28) (.load _ (.tmp 27)) ?_; refine Vm_stop ?_))
  refine HoleV.mk ?_
  refine wpList_loadW (some 28) 23 (.tmp 27) (w.heap.size + 1) 3 (regC q) _ rfl rfl (by kernel_rfl) rfl HP2.out.regs Tryz.underlying23 rfl info_reg ?_
  go_wp2_with fail
  refine HEq.out.mono ?_
  rintro e w' ⟨rfl, rfl⟩
  go_wp2_with fail
  go_ret
  exact ⟨rfl, HG0.out⟩
set_option maxRecDepth 100000 in
set_option maxHeartbeats 4000000 in
theorem vSame_7 (p q : Pt) (A1 A2 : Option Addr) (c1 c2 : Nat) (w : World) (hb : p.Bd) (hbq : q.Bd) (h1 : Rd w A1 p.mem) (h2 : Rd w A2 q.mem) (e0 : ((p.id : Int) == q.id) = true) (e1 : ((p.size : Int) == q.size) = true) (e2 : (p.keep == q.keep) = true) (e3 : decide (p.r = q.r) = true) (e4 : ((p.pc : Int) == (q.pc : Int)) = true) (e5 : ((p.st : Int) == (q.st : Int)) = true) (e6 : decide (p.mem = q.mem) = true) :
    Calls Tryz.prog 15 #[.agg (partC p (.slice A1 p.mem.length c1)), .agg (partC q (.slice A2 q.mem.length c2))] w fun e w' => e = .returned (.bool true) ∧ Chg Non w w' := by
  have h8 := hb.r8
  have hq8 := hbq.r8
  have hg0 : Chg Non w ((w.alloc (.cells (partC p (.slice A1 p.mem.length c1)) 26)).alloc (.cells (partC q (.slice A2 q.mem.length c2)) 26)) := ((Chg.refl Non w).alloc _).alloc _
  have hp1 : PartB ((w.alloc (.cells (partC p (.slice A1 p.mem.length c1)) 26)).alloc (.cells (partC q (.slice A2 q.mem.length c2)) 26)) w.heap.size p (.slice A1 p.mem.length c1) := ⟨al_2_0 _ _ _, h8⟩
  have hp2 : PartB ((w.alloc (.cells (partC p (.slice A1 p.mem.length c1)) 26)).alloc (.cells (partC q (.slice A2 q.mem.length c2)) 26)) (w.heap.size + 1) q (.slice A2 q.mem.length c2) := ⟨al_2_1 _ _ _, hq8⟩
  have hs1 := str_of A1 p.mem c1 _ (h1.non hg0)
  have hs2 := str_of A2 q.mem c2 _ (h2.non hg0)
  obtain ⟨C1, hC1⟩ : ∃ C, partC p (.slice A1 p.mem.length c1) = C := ⟨_, rfl⟩
  obtain ⟨C2, hC2⟩ : ∃ C, partC q (.slice A2 q.mem.length c2) = C := ⟨_, rfl⟩
  have z1 : C1.size = 14 := by rw [← hC1]; exact partC_size h8 _
  have z2 : C2.size = 14 := by rw [← hC2]; exact partC_size hq8 _
  rw [hC1, hC2] at hp1 hp2 hg0 hs1 hs2 ⊢
  clear hC1 hC2
  have HP1 := Lib.hid hp1
  have HP2 := Lib.hid hp2
  have HG0 := Lib.hid hg0
  have he8 := eq_regs p q hb hbq
  rw [e3] at he8
  have heq := Tryz.bytes_Equal_strs _ _ _ _ _ hs1 hs2
  rw [ByteArray.toList_mk, ByteArray.toList_mk, lst_eq, e6] at heq
  have HEq := Lib.hid heq
  obtain ⟨a0, a1, a2, a3, a4, a5⟩ := hp1.cells
  obtain ⟨d0, d1, d2, d3, d4, d5⟩ := hp2.cells
  clear hp1 hp2 hg0 h1 h2 hs1 hs2 heq e3 e6
  go_enter Tryz.func15, Tryz.ntmps15
  go_wp2_with (first
    | (refine sel (some 26) (.load _ (.tmp 25)) ?_; refine Vm_stop ?_))
  refine HoleV.mk ?_
  refine wpList_loadW (some 26) 23 (.tmp 25) w.heap.size 3 (regC p) _ rfl rfl (by kernel_rfl) rfl HP1.out.regs Tryz.underlying23 rfl info_reg ?_
  go_wp2_with (first
    | (refine sel (some 28) (.load _ (.tmp 27)) ?_; refine Vm_stop ?_))
  refine HoleV.mk ?_
  refine wpList_loadW (some 28) 23 (.tmp 27) (w.heap.size + 1) 3 (regC q) _ rfl rfl (by kernel_rfl) rfl HP2.out.regs Tryz.underlying23 rfl info_reg ?_
  go_wp2_with fail
  refine HEq.out.mono ?_
  rintro e w' ⟨rfl, rfl⟩
  go_wp2_with fail
  go_ret
  exact ⟨rfl, HG0.out⟩
theorem vSame_ok (p q : Pt) (A1 A2 : Option Addr) (c1 c2 : Nat) (w : World) (hb : p.Bd) (hbq : q.Bd) (h1 : Rd w A1 p.mem) (h2 : Rd w A2 q.mem) :
    Calls Tryz.prog 15 #[.agg (partC p (.slice A1 p.mem.length c1)), .agg (partC q (.slice A2 q.mem.length c2))] w fun e w' => e = .returned (.bool (sameB p q)) ∧ Chg Non w w' := by
  cases e0 : ((p.id : Int) == q.id) with
  | false =>
    rw [show sameB p q = false by simp only [sameB, e0, Bool.false_and]]
    exact vSame_0 p q A1 A2 c1 c2 w hb hbq h1 h2 e0
  | true =>
  cases e1 : ((p.size : Int) == q.size) with
  | false =>
    rw [show sameB p q = false by simp only [sameB, e0, e1, Bool.true_and, Bool.false_and]]
    exact vSame_1 p q A1 A2 c1 c2 w hb hbq h1 h2 e0 e1
  | true =>
  cases e2 : (p.keep == q.keep) with
  | false =>
    rw [show sameB p q = false by simp only [sameB, e0, e1, e2, Bool.true_and, Bool.false_and]]
    exact vSame_2 p q A1 A2 c1 c2 w hb hbq h1 h2 e0 e1 e2
  | true =>
  cases e3 : decide (p.r = q.r) with
  | false =>
    rw [show sameB p q = false by simp only [sameB, e0, e1, e2, e3, Bool.true_and, Bool.false_and]]
    exact vSame_3 p q A1 A2 c1 c2 w hb hbq h1 h2 e0 e1 e2 e3
  | true =>
  cases e4 : ((p.pc : Int) == (q.pc : Int)) with
  | false =>
    rw [show sameB p q = false by simp only [sameB, e0, e1, e2, e3, e4, Bool.true_and, Bool.false_and]]
    exact vSame_4 p q A1 A2 c1 c2 w hb hbq h1 h2 e0 e1 e2 e3 e4
  | true =>
  cases e5 : ((p.st : Int) == (q.st : Int)) with
  | false =>
    rw [show sameB p q = false by simp only [sameB, e0, e1, e2, e3, e4, e5, Bool.true_and, Bool.false_and]]
    exact vSame_5 p q A1 A2 c1 c2 w hb hbq h1 h2 e0 e1 e2 e3 e4 e5
  | true =>
  cases e6 : decide (p.mem = q.mem) with
  | false =>
    rw [show sameB p q = false by simp only [sameB, e0, e1, e2, e3, e4, e5, e6, Bool.true_and]]
    exact vSame_6 p q A1 A2 c1 c2 w hb hbq h1 h2 e0 e1 e2 e3 e4 e5 e6
  | true =>
  rw [show sameB p q = true by simp only [sameB, e0, e1, e2, e3, e4, e5, e6, Bool.true_and]]
  exact vSame_7 p q A1 A2 c1 c2 w hb hbq h1 h2 e0 e1 e2 e3 e4 e5 e6
set_option maxRecDepth 100000 in
set_option maxHeartbeats 4000000 in
theorem rSame_0 (p q : Pt) (A1 A2 : Option Addr) (c1 c2 : Nat) (w : World) (hb : p.Bd) (hbq : q.Bd) (h1 : Rd w A1 p.mem) (h2 : Rd w A2 q.mem) (e0 : ((p.id : Int) == q.id) = false) :
    Calls Tryz.prog 11 #[.agg (partC p (.slice A1 p.mem.length c1)), .agg (partC q (.slice A2 q.mem.length c2))] w fun e w' => e = .returned (.bool false) ∧ Chg Non w w' := by
  have h8 := hb.r8
  have hq8 := hbq.r8
  have hg0 : Chg Non w ((w.alloc (.cells (partC p (.slice A1 p.mem.length c1)) 26)).alloc (.cells (partC q (.slice A2 q.mem.length c2)) 26)) := ((Chg.refl Non w).alloc _).alloc _
  have hp1 : PartB ((w.alloc (.cells (partC p (.slice A1 p.mem.length c1)) 26)).alloc (.cells (partC q (.slice A2 q.mem.length c2)) 26)) w.heap.size p (.slice A1 p.mem.length c1) := ⟨al_2_0 _ _ _, h8⟩
  have hp2 : PartB ((w.alloc (.cells (partC p (.slice A1 p.mem.length c1)) 26)).alloc (.cells (partC q (.slice A2 q.mem.length c2)) 26)) (w.heap.size + 1) q (.slice A2 q.mem.length c2) := ⟨al_2_1 _ _ _, hq8⟩
  have hs1 := str_of A1 p.mem c1 _ (h1.non hg0)
  have hs2 := str_of A2 q.mem c2 _ (h2.non hg0)
  obtain ⟨C1, hC1⟩ : ∃ C, partC p (.slice A1 p.mem.length c1) = C := ⟨_, rfl⟩
  obtain ⟨C2, hC2⟩ : ∃ C, partC q (.slice A2 q.mem.length c2) = C := ⟨_, rfl⟩
  have z1 : C1.size = 14 := by rw [← hC1]; exact partC_size h8 _
  have z2 : C2.size = 14 := by rw [← hC2]; exact partC_size hq8 _
  rw [hC1, hC2] at hp1 hp2 hg0 hs1 hs2 ⊢
  clear hC1 hC2
  have HP1 := Lib.hid hp1
  have HP2 := Lib.hid hp2
  have HG0 := Lib.hid hg0
  obtain ⟨a0, a1, a2, a3, a4, a5⟩ := hp1.cells
  obtain ⟨d0, d1, d2, d3, d4, d5⟩ := hp2.cells
  clear hp1 hp2 hg0 h1 h2 hs1 hs2
  go_enter Tryz.func11, Tryz.ntmps11
  go_wp2_with fail
  go_ret
  exact ⟨rfl, HG0.out⟩
set_option maxRecDepth 100000 in
set_option maxHeartbeats 4000000 in
theorem rSame_1 (p q : Pt) (A1 A2 : Option Addr) (c1 c2 : Nat) (w : World) (hb : p.Bd) (hbq : q.Bd) (h1 : Rd w A1 p.mem) (h2 : Rd w A2 q.mem) (e0 : ((p.id : Int) == q.id) = true) (e1 : ((p.size : Int) == q.size) = false) :
    Calls Tryz.prog 11 #[.agg (partC p (.slice A1 p.mem.length c1)), .agg (partC q (.slice A2 q.mem.length c2))] w fun e w' => e = .returned (.bool false) ∧ Chg Non w w' := by
  have h8 := hb.r8
  have hq8 := hbq.r8
  have hg0 : Chg Non w ((w.alloc (.cells (partC p (.slice A1 p.mem.length c1)) 26)).alloc (.cells (partC q (.slice A2 q.mem.length c2)) 26)) := ((Chg.refl Non w).alloc _).alloc _
  have hp1 : PartB ((w.alloc (.cells (partC p (.slice A1 p.mem.length c1)) 26)).alloc (.cells (partC q (.slice A2 q.mem.length c2)) 26)) w.heap.size p (.slice A1 p.mem.length c1) := ⟨al_2_0 _ _ _, h8⟩
  have hp2 : PartB ((w.alloc (.cells (partC p (.slice A1 p.mem.length c1)) 26)).alloc (.cells (partC q (.slice A2 q.mem.length c2)) 26)) (w.heap.size + 1) q (.slice A2 q.mem.length c2) := ⟨al_2_1 _ _ _, hq8⟩
  have hs1 := str_of A1 p.mem c1 _ (h1.non hg0)
  have hs2 := str_of A2 q.mem c2 _ (h2.non hg0)
  obtain ⟨C1, hC1⟩ : ∃ C, partC p (.slice A1 p.mem.length c1) = C := ⟨_, rfl⟩
  obtain ⟨C2, hC2⟩ : ∃ C, partC q (.slice A2 q.mem.length c2) = C := ⟨_, rfl⟩
  have z1 : C1.size = 14 := by rw [← hC1]; exact partC_size h8 _
  have z2 : C2.size = 14 := by rw [← hC2]; exact partC_size hq8 _
  rw [hC1, hC2] at hp1 hp2 hg0 hs1 hs2 ⊢
  clear hC1 hC2
  have HP1 := Lib.hid hp1
  have HP2 := Lib.hid hp2
  have HG0 := Lib.hid hg0
  obtain ⟨a0, a1, a2, a3, a4, a5⟩ := hp1.cells
  obtain ⟨d0, d1, d2, d3, d4, d5⟩ := hp2.cells
  clear hp1 hp2 hg0 h1 h2 hs1 hs2
  go_enter Tryz.func11, Tryz.ntmps11
  go_wp2_with fail
  go_ret
  exact ⟨rfl, HG0.out⟩
set_option maxRecDepth 100000 in
set_option maxHeartbeats 4000000 in
theorem rSame_2 (p q : Pt) (A1 A2 : Option Addr) (c1 c2 : Nat) (w : World) (hb : p.Bd) (hbq : q.Bd) (h1 : Rd w A1 p.mem) (h2 : Rd w A2 q.mem) (e0 : ((p.id : Int) == q.id) = true) (e1 : ((p.size : Int) == q.size) = true) (e2 : (p.keep == q.keep) = false) :
    Calls Tryz.prog 11 #[.agg (partC p (.slice A1 p.mem.length c1)), .agg (partC q (.slice A2 q.mem.length c2))] w fun e w' => e = .returned (.bool false) ∧ Chg Non w w' := by
  have h8 := hb.r8
  have hq8 := hbq.r8
  have hg0 : Chg Non w ((w.alloc (.cells (partC p (.slice A1 p.mem.length c1)) 26)).alloc (.cells (partC q (.slice A2 q.mem.length c2)) 26)) := ((Chg.refl Non w).alloc _).alloc _
  have hp1 : PartB ((w.alloc (.cells (partC p (.slice A1 p.mem.length c1)) 26)).alloc (.cells (partC q (.slice A2 q.mem.length c2)) 26)) w.heap.size p (.slice A1 p.mem.length c1) := ⟨al_2_0 _ _ _, h8⟩
  have hp2 : PartB ((w.alloc (.cells (partC p (.slice A1 p.mem.length c1)) 26)).alloc (.cells (partC q (.slice A2 q.mem.length c2)) 26)) (w.heap.size + 1) q (.slice A2 q.mem.length c2) := ⟨al_2_1 _ _ _, hq8⟩
  have hs1 := str_of A1 p.mem c1 _ (h1.non hg0)
  have hs2 := str_of A2 q.mem c2 _ (h2.non hg0)
  obtain ⟨C1, hC1⟩ : ∃ C, partC p (.slice A1 p.mem.length c1) = C := ⟨_, rfl⟩
  obtain ⟨C2, hC2⟩ : ∃ C, partC q (.slice A2 q.mem.length c2) = C := ⟨_, rfl⟩
  have z1 : C1.size = 14 := by rw [← hC1]; exact partC_size h8 _
  have z2 : C2.size = 14 := by rw [← hC2]; exact partC_size hq8 _
  rw [hC1, hC2] at hp1 hp2 hg0 hs1 hs2 ⊢
  clear hC1 hC2
  have HP1 := Lib.hid hp1
  have HP2 := Lib.hid hp2
  have HG0 := Lib.hid hg0
  obtain ⟨a0, a1, a2, a3, a4, a5⟩ := hp1.cells
  obtain ⟨d0, d1, d2, d3, d4, d5⟩ := hp2.cells
  clear hp1 hp2 hg0 h1 h2 hs1 hs2
  go_enter Tryz.func11, Tryz.ntmps11
  go_wp2_with fail
  go_ret
  exact ⟨rfl, HG0.out⟩
set_option maxRecDepth 100000 in
set_option maxHeartbeats 4000000 in
theorem rSame_3 (p q : Pt) (A1 A2 : Option Addr) (c1 c2 : Nat) (w : World) (hb : p.Bd) (hbq : q.Bd) (h1 : Rd w A1 p.mem) (h2 : Rd w A2 q.mem) (e0 : ((p.id : Int) == q.id) = true) (e1 : ((p.size : Int) == q.size) = true) (e2 : (p.keep == q.keep) = true) (e3 : decide (p.r = q.r) = false) :
    Calls Tryz.prog 11 #[.agg (partC p (.slice A1 p.mem.length c1)), .agg (partC q (.slice A2 q.mem.length c2))] w fun e w' => e = .returned (.bool false) ∧ Chg Non w w' := by
  have h8 := hb.r8
  have hq8 := hbq.r8
  have hg0 : Chg Non w ((w.alloc (.cells (partC p (.slice A1 p.mem.length c1)) 26)).alloc (.cells (partC q (.slice A2 q.mem.length c2)) 26)) := ((Chg.refl Non w).alloc _).alloc _
  have hp1 : PartB ((w.alloc (.cells (partC p (.slice A1 p.mem.length c1)) 26)).alloc (.cells (partC q (.slice A2 q.mem.length c2)) 26)) w.heap.size p (.slice A1 p.mem.length c1) := ⟨al_2_0 _ _ _, h8⟩
  have hp2 : PartB ((w.alloc (.cells (partC p (.slice A1 p.mem.length c1)) 26)).alloc (.cells (partC q (.slice A2 q.mem.length c2)) 26)) (w.heap.size + 1) q (.slice A2 q.mem.length c2) := ⟨al_2_1 _ _ _, hq8⟩
  have hs1 := str_of A1 p.mem c1 _ (h1.non hg0)
  have hs2 := str_of A2 q.mem c2 _ (h2.non hg0)
  obtain ⟨C1, hC1⟩ : ∃ C, partC p (.slice A1 p.mem.length c1) = C := ⟨_, rfl⟩
  obtain ⟨C2, hC2⟩ : ∃ C, partC q (.slice A2 q.mem.length c2) = C := ⟨_, rfl⟩
  have z1 : C1.size = 14 := by rw [← hC1]; exact partC_size h8 _
  have z2 : C2.size = 14 := by rw [← hC2]; exact partC_size hq8 _
  rw [hC1, hC2] at hp1 hp2 hg0 hs1 hs2 ⊢
  clear hC1 hC2
  have HP1 := Lib.hid hp1
  have HP2 := Lib.hid hp2
  have HG0 := Lib.hid hg0
  have he8 := eq_regs p q hb hbq
  rw [e3] at he8
  obtain ⟨a0, a1, a2, a3, a4, a5⟩ := hp1.cells
  obtain ⟨d0, d1, d2, d3, d4, d5⟩ := hp2.cells
  clear hp1 hp2 hg0 h1 h2 hs1 hs2 e3
  go_enter Tryz.func11, Tryz.ntmps11
  go_wp2_with (first
    | (refine sel (some 26) (.load _ (.tmp 25)) ?_; refine Vm_stop ?_))
  refine HoleV.mk ?_
  refine wpList_loadW (some 26) 23 (.tmp 25) w.heap.size 3 (regC p) _ rfl rfl (by kernel_rfl) rfl HP1.out.regs Tryz.underlying23 rfl info_reg ?_
  go_wp2_with (first
    | (refine sel (some 28) (.load _ (.tmp 27)) ?_; refine Vm_stop ?_))
  refine HoleV.mk ?_
  refine wpList_loadW (some 28) 23 (.tmp 27) (w.heap.size + 1) 3 (regC q) _ rfl rfl (by kernel_rfl) rfl HP2.out.regs Tryz.underlying23 rfl info_reg ?_
  go_wp2_with fail
  go_ret
  exact ⟨rfl, HG0.out⟩
set_option maxRecDepth 100000 in
set_option maxHeartbeats 4000000 in
theorem rSame_4 (p q : Pt) (A1 A2 : Option Addr) (c1 c2 : Nat) (w : World) (hb : p.Bd) (hbq : q.Bd) (h1 : Rd w A1 p.mem) (h2 : Rd w A2 q.mem) (e0 : ((p.id : Int) == q.id) = true) (e1 : ((p.size : Int) == q.size) = true) (e2 : (p.keep == q.keep) = true) (e3 : decide (p.r = q.r) = true) (e4 : ((p.pc : Int) == (q.pc : Int)) = false) :
    Calls Tryz.prog 11 #[.agg (partC p (.slice A1 p.mem.length c1)), .agg (partC q (.slice A2 q.mem.length c2))] w fun e w' => e = .returned (.bool false) ∧ Chg Non w w' := by
  have h8 := hb.r8
  have hq8 := hbq.r8
  have hg0 : Chg Non w ((w.alloc (.cells (partC p (.slice A1 p.mem.length c1)) 26)).alloc (.cells (partC q (.slice A2 q.mem.length c2)) 26)) := ((Chg.refl Non w).alloc _).alloc _
  have hp1 : PartB ((w.alloc (.cells (partC p (.slice A1 p.mem.length c1)) 26)).alloc (.cells (partC q (.slice A2 q.mem.length c2)) 26)) w.heap.size p (.slice A1 p.mem.length c1) := ⟨al_2_0 _ _ _, h8⟩
  have hp2 : PartB ((w.alloc (.cells (partC p (.slice A1 p.mem.length c1)) 26)).alloc (.cells (partC q (.slice A2 q.mem.length c2)) 26)) (w.heap.size + 1) q (.slice A2 q.mem.length c2) := ⟨al_2_1 _ _ _, hq8⟩
  have hs1 := str_of A1 p.mem c1 _ (h1.non hg0)
  have hs2 := str_of A2 q.mem c2 _ (h2.non hg0)
  obtain ⟨C1, hC1⟩ : ∃ C, partC p (.slice A1 p.mem.length c1) = C := ⟨_, rfl⟩
  obtain ⟨C2, hC2⟩ : ∃ C, partC q (.slice A2 q.mem.length c2) = C := ⟨_, rfl⟩
  have z1 : C1.size = 14 := by rw [← hC1]; exact partC_size h8 _
  have z2 : C2.size = 14 := by rw [← hC2]; exact partC_size hq8 _
  rw [hC1, hC2] at hp1 hp2 hg0 hs1 hs2 ⊢
  clear hC1 hC2
  have HP1 := Lib.hid hp1
  have HP2 := Lib.hid hp2
  have HG0 := Lib.hid hg0
  have he8 := eq_regs p q hb hbq
  rw [e3] at he8
  obtain ⟨a0, a1, a2, a3, a4, a5⟩ := hp1.cells
  obtain ⟨d0, d1, d2, d3, d4, d5⟩ := hp2.cells
  clear hp1 hp2 hg0 h1 h2 hs1 hs2 e3
  go_enter Tryz.func11, Tryz.ntmps11
  go_wp2_with (first
    | (refine sel (some 26) (.load _ (.tmp 25)) ?_; refine Vm_stop ?_))
  refine HoleV.mk ?_
  refine wpList_loadW (some 26) 23 (.tmp 25) w.heap.size 3 (regC p) _ rfl rfl (by kernel_rfl) rfl HP1.out.regs Tryz.underlying23 rfl info_reg ?_
  go_wp2_with (first
    | (refine sel (some 28) (.load _ (.tmp 27)) ?_; refine Vm_stop ?_))
  refine HoleV.mk ?_
  refine wpList_loadW (some 28) 23 (.tmp 27) (w.heap.size + 1) 3 (regC q) _ rfl rfl (by kernel_rfl) rfl HP2.out.regs Tryz.underlying23 rfl info_reg ?_
  go_wp2_with fail
  go_ret
  exact ⟨rfl, HG0.out⟩
set_option maxRecDepth 100000 in
set_option maxHeartbeats 4000000 in
theorem rSame_5 (p q : Pt) (A1 A2 : Option Addr) (c1 c2 : Nat) (w : World) (hb : p.Bd) (hbq : q.Bd) (h1 : Rd w A1 p.mem) (h2 : Rd w A2 q.mem) (e0 : ((p.id : Int) == q.id) = true) (e1 : ((p.size : Int) == q.size) = true) (e2 : (p.keep == q.keep) = true) (e3 : decide (p.r = q.r) = true) (e4 : ((p.pc : Int) == (q.pc : Int)) = true) (e5 : ((p.st : Int) == (q.st : Int)) = false) :
    Calls Tryz.prog 11 #[.agg (partC p (.slice A1 p.mem.length c1)), .agg (partC q (.slice A2 q.mem.length c2))] w fun e w' => e = .returned (.bool false) ∧ Chg Non w w' := by
  have h8 := hb.r8
  have hq8 := hbq.r8
  have hg0 : Chg Non w ((w.alloc (.cells (partC p (.slice A1 p.mem.length c1)) 26)).alloc (.cells (partC q (.slice A2 q.mem.length c2)) 26)) := ((Chg.refl Non w).alloc _).alloc _
  have hp1 : PartB ((w.alloc (.cells (partC p (.slice A1 p.mem.length c1)) 26)).alloc (.cells (partC q (.slice A2 q.mem.length c2)) 26)) w.heap.size p (.slice A1 p.mem.length c1) := ⟨al_2_0 _ _ _, h8⟩
  have hp2 : PartB ((w.alloc (.cells (partC p (.slice A1 p.mem.length c1)) 26)).alloc (.cells (partC q (.slice A2 q.mem.length c2)) 26)) (w.heap.size + 1) q (.slice A2 q.mem.length c2) := ⟨al_2_1 _ _ _, hq8⟩
  have hs1 := str_of A1 p.mem c1 _ (h1.non hg0)
  have hs2 := str_of A2 q.mem c2 _ (h2.non hg0)
  obtain ⟨C1, hC1⟩ : ∃ C, partC p (.slice A1 p.mem.length c1) = C := ⟨_, rfl⟩
  obtain ⟨C2, hC2⟩ : ∃ C, partC q (.slice A2 q.mem.length c2) = C := ⟨_, rfl⟩
  have z1 : C1.size = 14 := by rw [← hC1]; exact partC_size h8 _
  have z2 : C2.size = 14 := by rw [← hC2]; exact partC_size hq8 _
  rw [hC1, hC2] at hp1 hp2 hg0 hs1 hs2 ⊢
  clear hC1 hC2
  have HP1 := Lib.hid hp1
  have HP2 := Lib.hid hp2
  have HG0 := Lib.hid hg0
  have he8 := eq_regs p q hb hbq
  rw [e3] at he8
  obtain ⟨a0, a1, a2, a3, a4, a5⟩ := hp1.cells
  obtain ⟨d0, d1, d2, d3, d4, d5⟩ := hp2.cells
  clear hp1 hp2 hg0 h1 h2 hs1 hs2 e3
  go_enter Tryz.func11, Tryz.ntmps11
  go_wp2_with (first
    | (refine sel (some 26) (.load _ (.tmp 25)) ?_; refine Vm_stop ?_))
  refine HoleV.mk ?_
  refine wpList_loadW (some 26) 23 (.tmp 25) w.heap.size 3 (regC p) _ rfl rfl (by kernel_rfl) rfl HP1.out.regs Tryz.underlying23 rfl info_reg ?_
  go_wp2_with (first
    | (refine sel (some 28) (.load _ (.tmp 27)) ?_; refine Vm_stop ?_))
  refine HoleV.mk ?_
  refine wpList_loadW (some 28) 23 (.tmp 27) (w.heap.size + 1) 3 (regC q) _ rfl rfl (by kernel_rfl) rfl HP2.out.regs Tryz.underlying23 rfl info_reg ?_
  go_wp2_with fail
  go_ret
  exact ⟨rfl, HG0.out⟩
set_option maxRecDepth 100000 in
set_option maxHeartbeats 4000000 in
theorem rSame_6 (p q : Pt) (A1 A2 : Option Addr) (c1 c2 : Nat) (w : World) (hb : p.Bd) (hbq : q.Bd) (h1 : Rd w A1 p.mem) (h2 : Rd w A2 q.mem) (e0 : ((p.id : Int) == q.id) = true) (e1 : ((p.size : Int) == q.size) = true) (e2 : (p.keep == q.keep) = true) (e3 : decide (p.r = q.r) = true) (e4 : ((p.pc : Int) == (q.pc : Int)) = true) (e5 : ((p.st : Int) == (q.st : Int)) = true) (e6 : decide (p.mem = q.mem) = false) :
    Calls Tryz.prog 11 #[.agg (partC p (.slice A1 p.mem.length c1)), .agg (partC q (.slice A2 q.mem.length c2))] w fun e w' => e = .returned (.bool false) ∧ Chg Non w w' := by
  have h8 := hb.r8
  have hq8 := hbq.r8
  have hg0 : Chg Non w ((w.alloc (.cells (partC p (.slice A1 p.mem.length c1)) 26)).alloc (.cells (partC q (.slice A2 q.mem.length c2)) 26)) := ((Chg.refl Non w).alloc _).alloc _
  have hp1 : PartB ((w.alloc (.cells (partC p (.slice A1 p.mem.length c1)) 26)).alloc (.cells (partC q (.slice A2 q.mem.length c2)) 26)) w.heap.size p (.slice A1 p.mem.length c1) := ⟨al_2_0 _ _ _, h8⟩
  have hp2 : PartB ((w.alloc (.cells (partC p (.slice A1 p.mem.length c1)) 26)).alloc (.cells (partC q (.slice A2 q.mem.length c2)) 26)) (w.heap.size + 1) q (.slice A2 q.mem.length c2) := ⟨al_2_1 _ _ _, hq8⟩
  have hs1 := str_of A1 p.mem c1 _ (h1.non hg0)
  have hs2 := str_of A2 q.mem c2 _ (h2.non hg0)
  obtain ⟨C1, hC1⟩ : ∃ C, partC p (.slice A1 p.mem.length c1) = C := ⟨_, rfl⟩
  obtain ⟨C2, hC2⟩ : ∃ C, partC q (.slice A2 q.mem.length c2) = C := ⟨_, rfl⟩
  have z1 : C1.size = 14 := by rw [← hC1]; exact partC_size h8 _
  have z2 : C2.size = 14 := by rw [← hC2]; exact partC_size hq8 _
  rw [hC1, hC2] at hp1 hp2 hg0 hs1 hs2 ⊢
  clear hC1 hC2
  have HP1 := Lib.hid hp1
  have HP2 := Lib.hid hp2
  have HG0 := Lib.hid hg0
  have he8 := eq_regs p q hb hbq
  rw [e3] at he8
  have hse := lst_eq p.mem q.mem
  rw [e6] at hse
  have hse2 : (p.mem = q.mem) = False := by simp at hse; simp [hse]
  obtain ⟨a0, a1, a2, a3, a4, a5⟩ := hp1.cells
  obtain ⟨d0, d1, d2, d3, d4, d5⟩ := hp2.cells
  clear hp1 hp2 hg0 h1 h2 e3 e6
  go_enter Tryz.func11, Tryz.ntmps11
  go_wp2_with (first
    | (refine sel (some 26) (.load _ (.tmp 25)) ?_; refine Vm_stop ?_))
  refine HoleV.mk ?_
  refine wpList_loadW (some 26) 23 (.tmp 25) w.heap.size 3 (regC p) _ rfl rfl (by kernel_rfl) rfl HP1.out.regs Tryz.underlying23 rfl info_reg ?_
  go_wp2_with (first
    | (refine sel (some 28) (.load _ (.tmp 27)) ?_; refine Vm_stop ?_))
  refine HoleV.mk ?_
  refine wpList_loadW (some 28) 23 (.tmp 27) (w.heap.size + 1) 3 (regC q) _ rfl rfl (by kernel_rfl) rfl HP2.out.regs Tryz.underlying23 rfl info_reg ?_
  go_wp2_with fail
  go_ret
  exact ⟨rfl, HG0.out⟩
set_option maxRecDepth 100000 in
set_option maxHeartbeats 4000000 in
theorem rSame_7 (p q : Pt) (A1 A2 : Option Addr) (c1 c2 : Nat) (w : World) (hb : p.Bd) (hbq : q.Bd) (h1 : Rd w A1 p.mem) (h2 : Rd w A2 q.mem) (e0 : ((p.id : Int) == q.id) = true) (e1 : ((p.size : Int) == q.size) = true) (e2 : (p.keep == q.keep) = true) (e3 : decide (p.r = q.r) = true) (e4 : ((p.pc : Int) == (q.pc : Int)) = true) (e5 : ((p.st : Int) == (q.st : Int)) = true) (e6 : decide (p.mem = q.mem) = true) :
    Calls Tryz.prog 11 #[.agg (partC p (.slice A1 p.mem.length c1)), .agg (partC q (.slice A2 q.mem.length c2))] w fun e w' => e = .returned (.bool true) ∧ Chg Non w w' := by
  have h8 := hb.r8
  have hq8 := hbq.r8
  have hg0 : Chg Non w ((w.alloc (.cells (partC p (.slice A1 p.mem.length c1)) 26)).alloc (.cells (partC q (.slice A2 q.mem.length c2)) 26)) := ((Chg.refl Non w).alloc _).alloc _
  have hp1 : PartB ((w.alloc (.cells (partC p (.slice A1 p.mem.length c1)) 26)).alloc (.cells (partC q (.slice A2 q.mem.length c2)) 26)) w.heap.size p (.slice A1 p.mem.length c1) := ⟨al_2_0 _ _ _, h8⟩
  have hp2 : PartB ((w.alloc (.cells (partC p (.slice A1 p.mem.length c1)) 26)).alloc (.cells (partC q (.slice A2 q.mem.length c2)) 26)) (w.heap.size + 1) q (.slice A2 q.mem.length c2) := ⟨al_2_1 _ _ _, hq8⟩
  have hs1 := str_of A1 p.mem c1 _ (h1.non hg0)
  have hs2 := str_of A2 q.mem c2 _ (h2.non hg0)
  obtain ⟨C1, hC1⟩ : ∃ C, partC p (.slice A1 p.mem.length c1) = C := ⟨_, rfl⟩
  obtain ⟨C2, hC2⟩ : ∃ C, partC q (.slice A2 q.mem.length c2) = C := ⟨_, rfl⟩
  have z1 : C1.size = 14 := by rw [← hC1]; exact partC_size h8 _
  have z2 : C2.size = 14 := by rw [← hC2]; exact partC_size hq8 _
  rw [hC1, hC2] at hp1 hp2 hg0 hs1 hs2 ⊢
  clear hC1 hC2
  have HP1 := Lib.hid hp1
  have HP2 := Lib.hid hp2
  have HG0 := Lib.hid hg0
  have he8 := eq_regs p q hb hbq
  rw [e3] at he8
  have hse := lst_eq p.mem q.mem
  rw [e6] at hse
  have hse2 : (p.mem = q.mem) = True := by simp at hse; simp [hse]
  obtain ⟨a0, a1, a2, a3, a4, a5⟩ := hp1.cells
  obtain ⟨d0, d1, d2, d3, d4, d5⟩ := hp2.cells
  clear hp1 hp2 hg0 h1 h2 e3 e6
  go_enter Tryz.func11, Tryz.ntmps11
  go_wp2_with (first
    | (refine sel (some 26) (.load _ (.tmp 25)) ?_; refine Vm_stop ?_))
  refine HoleV.mk ?_
  refine wpList_loadW (some 26) 23 (.tmp 25) w.heap.size 3 (regC p) _ rfl rfl (by kernel_rfl) rfl HP1.out.regs Tryz.underlying23 rfl info_reg ?_
  go_wp2_with (first
    | (refine sel (some 28) (.load _ (.tmp 27)) ?_; refine Vm_stop ?_))
  refine HoleV.mk ?_
  refine wpList_loadW (some 28) 23 (.tmp 27) (w.heap.size + 1) 3 (regC q) _ rfl rfl (by kernel_rfl) rfl HP2.out.regs Tryz.underlying23 rfl info_reg ?_
  go_wp2_with fail
  go_ret
  exact ⟨rfl, HG0.out⟩
theorem rSame_ok (p q : Pt) (A1 A2 : Option Addr) (c1 c2 : Nat) (w : World) (hb : p.Bd) (hbq : q.Bd) (h1 : Rd w A1 p.mem) (h2 : Rd w A2 q.mem) :
    Calls Tryz.prog 11 #[.agg (partC p (.slice A1 p.mem.length c1)), .agg (partC q (.slice A2 q.mem.length c2))] w fun e w' => e = .returned (.bool (sameB p q)) ∧ Chg Non w w' := by
  cases e0 : ((p.id : Int) == q.id) with
  | false =>
    rw [show sameB p q = false by simp only [sameB, e0, Bool.false_and]]
    exact rSame_0 p q A1 A2 c1 c2 w hb hbq h1 h2 e0
  | true =>
  cases e1 : ((p.size : Int) == q.size) with
  | false =>
    rw [show sameB p q = false by simp only [sameB, e0, e1, Bool.true_and, Bool.false_and]]
    exact rSame_1 p q A1 A2 c1 c2 w hb hbq h1 h2 e0 e1
  | true =>
  cases e2 : (p.keep == q.keep) with
  | false =>
    rw [show sameB p q = false by simp only [sameB, e0, e1, e2, Bool.true_and, Bool.false_and]]
    exact rSame_2 p q A1 A2 c1 c2 w hb hbq h1 h2 e0 e1 e2
  | true =>
  cases e3 : decide (p.r = q.r) with
  | false =>
    rw [show sameB p q = false by simp only [sameB, e0, e1, e2, e3, Bool.true_and, Bool.false_and]]
    exact rSame_3 p q A1 A2 c1 c2 w hb hbq h1 h2 e0 e1 e2 e3
  | true =>
  cases e4 : ((p.pc : Int) == (q.pc : Int)) with
  | false =>
    rw [show sameB p q = false by simp only [sameB, e0, e1, e2, e3, e4, Bool.true_and, Bool.false_and]]
    exact rSame_4 p q A1 A2 c1 c2 w hb hbq h1 h2 e0 e1 e2 e3 e4
  | true =>
  cases e5 : ((p.st : Int) == (q.st : Int)) with
  | false =>
    rw [show sameB p q = false by simp only [sameB, e0, e1, e2, e3, e4, e5, Bool.true_and, Bool.false_and]]
    exact rSame_5 p q A1 A2 c1 c2 w hb hbq h1 h2 e0 e1 e2 e3 e4 e5
  | true =>
  cases e6 : decide (p.mem = q.mem) with
  | false =>
    rw [show sameB p q = false by simp only [sameB, e0, e1, e2, e3, e4, e5, e6, Bool.true_and]]
    exact rSame_6 p q A1 A2 c1 c2 w hb hbq h1 h2 e0 e1 e2 e3 e4 e5 e6
  | true =>
  rw [show sameB p q = true by simp only [sameB, e0, e1, e2, e3, e4, e5, e6, Bool.true_and]]
  exact rSame_7 p q A1 A2 c1 c2 w hb hbq h1 h2 e0 e1 e2 e3 e4 e5 e6

theorem rd_prefix {w : World} {A : Option Addr} {l m : List UInt8} (h : Rd w A (l ++ m)) : Rd w A l := by
  have := h.take l.length
  rwa [List.take_left'] at this
  rfl
theorem xor255 (x : UInt8) : bits .xor .u8 (x.toNat : Int) 255 = ((x ^^^ 255).toNat : Int) := xor_u8 x 255
set_option maxRecDepth 100000 in
set_option maxHeartbeats 1000000 in
theorem lCopied_ok (p : Pt) (A : Option Addr) (l : List UInt8) (c : Nat) (w : World) (h8 : p.r.length = 8) (hr : Rd w A l) (hl : l.length ≤ 1000) :
    Calls Tryz.prog 8 #[.agg (partC p (.slice A l.length c))] w fun e w' => ∃ b2 o2 c2, e = .returned (.agg (partC p (.slice (some ⟨b2, o2, none⟩) l.length c2))) ∧ l.length + 1 ≤ c2 ∧ c2 ≤ maxLen ∧ Own w.heap.size w' (some ⟨b2, o2, none⟩) (l ++ [99]) ∧ Chg Non w w' := by
  have HR := Lib.hid hr
  have hp : PartB (w.alloc (.cells (partC p (.slice A l.length c)) 26)) w.heap.size p (.slice A l.length c) := ⟨heap_alloc_new _ _, h8⟩
  obtain ⟨C, hC⟩ : ∃ C, partC p (.slice A l.length c) = C := ⟨_, rfl⟩
  have hsz : C.size = 14 := by rw [← hC]; exact partC_size h8 _
  have e13 : C[13]'(by omega) = .slice A l.length c := by
    have h := partC_end h8 (.slice A l.length c) 2 (by omega)
    rw [hC] at h
    rw [Array.getElem?_eq_getElem (by omega)] at h
    simpa using h
  rw [hC] at hp ⊢
  have hg0 : Chg Non (w.alloc (.cells C 26)) (((w.alloc (.cells C 26)).alloc (.cells zeroPart 26)).alloc (.cells #[] 5)) := ((Chg.refl Non _).alloc _).alloc _
  have HP := Lib.hid (hp.non hg0)
  have HB1 := Lib.hid (al_3_1 w (.cells C 26) (.cells zeroPart 26) (.cells #[] 5))
  have c13 := (hp.non hg0).cells.2.2.2.2.2
  have HG0 : Hid (Chg Non w (((w.alloc (.cells C 26)).alloc (.cells zeroPart 26)).alloc (.cells #[] 5))) := Lib.hid ((((Chg.refl Non w).alloc _).alloc _).alloc _)
  have hoe := own_emptyR ((w.alloc (.cells C 26)).alloc (.cells zeroPart 26))
  have hs2 : ((w.alloc (.cells C 26)).alloc (.cells zeroPart 26)).heap.size = w.heap.size + 1 + 1 := by simp
  rw [hs2] at hoe
  have HOe := Lib.hid hoe
  clear hC hr hp hg0 hoe hs2
  go_enter Tryz.func8, Tryz.ntmps8
  go_wp2_with (first
    | (refine sel (some 7) (.call _) ?_; refine Vm_stop ?_))
  refine HoleV.mk ?_
  refine wpList_appB rfl (.tmp 4) (.tmp 6) rfl (w.heap.size + 1 + 1) (.slice (some ⟨w.heap.size + 1 + 1, 0, none⟩) 0 0) [] rfl HOe.out A c l rfl (HR.out.non HG0.out) (by simp) (by omega) (by simp) (by simp; omega) ?_
  intro v2 w2 ho hg hat
  have HG := Lib.hid (HG0.out.then_new hg (fun x hx => by have := HOe.out.ge hx; omega))
  have HP := Lib.hid (HP.out.keep hg (fun hx => by have := HOe.out.ge hx; omega))
  have HB1 := Lib.hid (blockS HB1.out hg (fun hx => by have := HOe.out.ge hx; omega))
  rw [List.nil_append] at ho
  have HO := Lib.hid ho
  have hsw : w.heap.size + 1 + 1 ≤ w2.heap.size := by have := HG0.out.size; have h2 := hg.size; simp at h2; omega
  clear ho hg hat c13 e13
  go_wp2_with (first
    | (refine sel (some 9) (.call _) ?_; refine Vm_stop ?_))
  refine HoleV.mk ?_
  refine wpList_appB rfl (.tmp 7) (.tmp 8) rfl (w.heap.size + 1 + 1) v2 l rfl (HO.out.non ((Chg.refl Non _).alloc _)) (some ⟨w2.heap.size, 0, none⟩) 1 [99] rfl (rd_one w2 99) (by omega) (by simp) (by simp; omega) (by simp; omega) ?_
  intro v3 w3 ho hg hat
  have hg' : Chg (fun k => v2.ownBlock = some k) w2 w3 := ((Chg.refl (fun k => v2.ownBlock = some k) w2).alloc _).trans_same hg
  have HG := Lib.hid (HG.out.then_new hg' (fun x hx => by have := HO.out.ge hx; omega))
  have HP := Lib.hid (HP.out.keep hg' (fun hx => by have := HO.out.ge hx; omega))
  have HB1 := Lib.hid (blockS HB1.out hg' (fun hx => by have := HO.out.ge hx; omega))
  obtain ⟨A2, c2, rfl, q1, q2, q3⟩ := OwnR.own ho
  obtain ⟨b2, o2, rfl, _, _⟩ := q3.rd.at_ (by simp)
  have hll : (l ++ [99]).length = l.length + 1 := by simp
  rw [hll] at q1 ⊢
  have HO := Lib.hid (q3.mono (show w.heap.size + 2 ≤ _ by omega))
  have hlt := HP.out.lt
  have hf := HP.out.frozen 13
  have hc13 := HP.out.cells.2.2.2.2.2
  have hcap : (l.length : Int) ≤ (c2 : Int) := by omega
  clear q3 ho hg hg' hat hll
  go_wp2_with (first
    | (refine sel (some 16) (.load _ _) ?_; refine Vm_stop ?_))
  refine HoleV.mk ?_
  have hp1 := HP.out.setMem (.slice (some ⟨b2, o2, none⟩) l.length c2)
  have hs1 := setAt w3 w.heap.size 13 (.slice (some ⟨b2, o2, none⟩) l.length c2)
  have HG1 := Lib.hid (HG.out.then_new hs1 (fun x e => by omega))
  have HO1 := Lib.hid (HO.out.keep hs1 (fun b' o' e1 e2 e3 e4 => by omega))
  have HB11 := Lib.hid (blockS HB1.out hs1 (by omega))
  have HP1 := Lib.hid hp1
  refine wpList_load_row rfl 26 (.tmp 1) rfl w.heap.size rfl 26 (partC p (.slice (some ⟨b2, o2, none⟩) l.length c2)) (0, 0) _ HP1.out.out Tryz.underlying26 rfl (by rw [partC_size h8]; exact info_part) ?_
  have hone : (partC p (.slice (some ⟨b2, o2, none⟩) l.length c2)).all (·.oneCell') = true := partC_one _ _ rfl
  refine wpList_store_rowA rfl 26 (.tmp 2) (.tmp 16) rfl (w.heap.size + 1) (partC p (.slice (some ⟨b2, o2, none⟩) l.length c2)) rfl rfl 26 zeroPart HB11.out (by rw [partC_size h8]; exact info_part) (by rw [partC_size h8]; rfl) hone ?_
  intro W hgW hbW
  have HBW := Lib.hid hbW
  have HG2 := Lib.hid (HG1.out.then_new hgW (fun x e => by omega))
  have HO2 := Lib.hid (HO1.out.keep hgW (fun b' o' e1 e2 e3 e4 => by omega))
  clear hbW hgW hp1 hs1
  go_wp2_with fail
  exact bodyPost_ret (results_cell_row Tryz.results8 _ _ (w.heap.size + 1) 26 _ (0, 0) _ rfl HBW.out Tryz.underlying26 rfl (by rw [partC_size h8]; exact info_part)) rfl ⟨b2, o2, c2, rfl, q1, q2, HO2.out.mono (by omega), HG2.out⟩
set_option maxRecDepth 100000 in
set_option maxHeartbeats 1000000 in
theorem lStays_ok (p : Pt) (b2 o2 : Nat) (A : Option Addr) (ci c : Nat) (w : World) (hb : p.Bd) (hr : Rd w (some ⟨b2, o2, none⟩) (p.mem ++ [99])) (hra : Rd w A p.mem) (hci : p.mem.length + 1 ≤ ci) (hl : p.mem.length ≤ 1000) :
    Calls Tryz.prog 13 #[.agg (partC p (.slice (some ⟨b2, o2, none⟩) p.mem.length ci)), .agg (partC p (.slice A p.mem.length c))] w fun e w' => e = .returned (.bool true) ∧ Chg Non w w' := by
  have h8 := hb.r8
  have hg0 : Chg Non w ((w.alloc (.cells (partC p (.slice (some ⟨b2, o2, none⟩) p.mem.length ci)) 26)).alloc (.cells (partC p (.slice A p.mem.length c)) 26)) := ((Chg.refl Non w).alloc _).alloc _
  have hp1 : PartB ((w.alloc (.cells (partC p (.slice (some ⟨b2, o2, none⟩) p.mem.length ci)) 26)).alloc (.cells (partC p (.slice A p.mem.length c)) 26)) w.heap.size p (.slice (some ⟨b2, o2, none⟩) p.mem.length ci) := ⟨al_2_0 _ _ _, h8⟩
  have hp2 : PartB ((w.alloc (.cells (partC p (.slice (some ⟨b2, o2, none⟩) p.mem.length ci)) 26)).alloc (.cells (partC p (.slice A p.mem.length c)) 26)) (w.heap.size + 1) p (.slice A p.mem.length c) := ⟨al_2_1 _ _ _, h8⟩
  have HR1 := Lib.hid (hr.non hg0)
  have HR2 := Lib.hid (hra.non hg0)
  obtain ⟨C1, hC1⟩ : ∃ C, partC p (.slice (some ⟨b2, o2, none⟩) p.mem.length ci) = C := ⟨_, rfl⟩
  obtain ⟨C2, hC2⟩ : ∃ C, partC p (.slice A p.mem.length c) = C := ⟨_, rfl⟩
  have z1 : C1.size = 14 := by rw [← hC1]; exact partC_size h8 _
  have z2 : C2.size = 14 := by rw [← hC2]; exact partC_size h8 _
  have hsm := fun W a b => rSame_ok p p (some ⟨b2, o2, none⟩) A ci c W hb hb a b
  rw [sameB_refl, hC1, hC2] at hsm
  rw [hC1, hC2] at hp1 hp2 hg0 HR1 HR2 ⊢
  have HSm := Lib.hid hsm
  have HP1 := Lib.hid hp1
  have HP2 := Lib.hid hp2
  have HG0 := Lib.hid hg0
  have c13 := hp1.cells.2.2.2.2.2
  have HC1 := Lib.hid hC1
  have HC2 := Lib.hid hC2
  have h1 : (p.mem.length : Int) + 1 ≤ (ci : Int) := by omega
  clear hsm hp1 hp2 hg0 hr hra hC1 hC2
  go_enter Tryz.func13, Tryz.ntmps13
  go_wp2_with (first
    | (refine sel (some 13) (.load _ (.tmp 2)) ?_; refine Vm_stop ?_))
  refine HoleV.mk ?_
  refine wpList_load_row rfl 26 (.tmp 2) rfl w.heap.size rfl 26 C1 (0, 0) _ (al_2_0 _ _ _) Tryz.underlying26 rfl (by rw [z1]; exact info_part) ?_
  go_wp2_with (first
    | (refine sel (some 14) (.load _ (.tmp 3)) ?_; refine Vm_stop ?_))
  refine HoleV.mk ?_
  refine wpList_load_row rfl 26 (.tmp 3) rfl (w.heap.size + 1) rfl 26 C2 (0, 0) _ (al_2_1 _ _ _) Tryz.underlying26 rfl (by rw [z2]; exact info_part) ?_
  go_wp2_with fail
  refine (HSm.out _ (rd_prefix HR1.out) HR2.out).mono ?_
  rintro e w3 ⟨rfl, g3⟩
  have HG := Lib.hid (HG0.out.then_non g3)
  have c13 := (HP1.out.non g3).cells.2.2.2.2.2
  have e99 := u8_cell (HR1.out.non g3) p.mem.length (by simp)
  have h99 : (p.mem ++ [(99 : UInt8)]).getD p.mem.length 0 = 99 := by simp [List.getD_eq_getElem?_getD]
  rw [h99] at e99
  have e99 : w3.cell? ⟨b2, o2 + p.mem.length, none⟩ = some (.int .u8 99) := e99
  clear g3
  go_wp2_with fail
  go_ret
  exact ⟨rfl, HG.out⟩

/-- a run's state: the partition in its block -/
structure RuR (w W : World) (q : Pt) (A : Option Addr) (c : Nat) : Prop where
  pb : PartB W w.heap.size q (.slice A q.mem.length c)
  rb : W.heap[w.heap.size + 1]? = some (.cells zeroPart 26 (0, 0))
  own : Own (w.heap.size + 2) W A q.mem
  chg : Chg Non w W
  h1 : q.mem.length ≤ c
  h2 : c ≤ maxLen
set_option maxRecDepth 100000 in
set_option maxHeartbeats 8000000 in
theorem rRun_ok (p : Pt) (A : Option Addr) (c : Nat) (n : Int) (w : World) (hb : p.Bd) (hr : Rd w A p.mem) (hl : p.mem.length ≤ 1000000) (hn1 : n ≤ 100000) (N : Nat) (hN : n = N ∨ n < 0 ∧ N = 0) :
    Calls Tryz.prog 19 #[.agg (partC p (.slice A p.mem.length c)), .int .i64 n] w (RetRun w (runV N p).1 (runV N p).2.1 (runV N p).2.2) := by
  have h8 := hb.r8
  have HBd := Lib.hid hb
  have HN := Lib.hid hN
  obtain ⟨C, hC⟩ : ∃ C, partC p (.slice A p.mem.length c) = C := ⟨_, rfl⟩
  have hsz : C.size = 14 := by rw [← hC]; exact partC_size h8 _
  have hcp := fun W hrW => rCopied_ok p A p.mem c W h8 hrW hl
  rw [hC] at hcp ⊢
  have HCp := Lib.hid hcp
  have HR := Lib.hid hr
  clear hcp hC hr hb hN
  go_enter Tryz.func19, Tryz.ntmps19
  go_wp2_with (first
    | (refine sel (some 12) (.load _ (.tmp 2)) ?_; refine Vm_stop ?_))
  refine HoleV.mk ?_
  refine wpList_load_row rfl 26 (.tmp 2) rfl w.heap.size rfl 26 C (0, 0) _ (al_2_0 w _ _) Tryz.underlying26 rfl (by rw [hsz]; exact info_part) ?_
  go_wp2_with fail
  refine (HCp.out _ (HR.out.non (((Chg.refl Non w).alloc _).alloc _))).mono ?_
  rintro e w1 ⟨A2, c2, rfl, q1, q2, q3, q4⟩
  have hbx := blockN q4 (al_2_0 w (.cells C 26) (.cells zeroPart 26))
  have HBy := Lib.hid (blockN q4 (al_2_1 w (.cells C 26) (.cells zeroPart 26)))
  have HO := Lib.hid (q3.mono (show w.heap.size + 2 ≤ _ by simp))
  have HG := Lib.hid ((((Chg.refl Non w).alloc _).alloc _).then_non q4)
  clear q3 q4
  go_wp2_with (first
    | (refine sel none (.store _ (.tmp 2) (.tmp 13)) ?_; refine Vm_stop ?_))
  refine HoleV.mk ?_
  refine wpList_store_rowA rfl 26 (.tmp 2) (.tmp 13) rfl w.heap.size (partC p (.slice A2 p.mem.length c2)) rfl rfl 26 C hbx (by rw [partC_size h8]; exact info_part) (by rw [partC_size h8, hsz]) (partC_one _ _ rfl) ?_
  intro w2 hg2 hb2
  have hst0 : RuR w w2 p A2 c2 := ⟨⟨hb2, h8⟩, blockS HBy.out hg2 (by omega), HO.out.keep hg2 (fun b o e1 e2 e3 e4 => by omega), HG.out.then_new hg2 (fun x e => by omega), q1, q2⟩
  have HS0 := Lib.hid hst0
  clear hg2 hb2 hst0 hbx
  go_wp2_with fail
  go_loopw [7, 8] (fun k s wr => ∃ (st : Nat) (q : Pt) (call : Int) (A' : Option Addr) (c' : Nat), s = .int .i64 (st : Nat) ∧ k = .int .i64 call ∧ RuR w wr q A' c' ∧ q.Bd ∧ q.mem.length = p.mem.length ∧ RunRel N p st q call ∧ call ≤ 65535) (fun _ s _ => N - (intOf s).toNat)
  case atStart => exact ⟨0, p, -1, A2, c2, rfl, rfl, HS0.out, HBd.out, rfl, RunRel.zero _ _, by omega⟩
  case round =>
    rename World => wi
    obtain ⟨st, q, call, A', c', rfl, rfl, hst, hqb, hql, hrr, hc65⟩ := hrel
    have HS := Lib.hid hst
    have HQb := Lib.hid hqb
    have HRR := Lib.hid hrr
    have HQl := Lib.hid hql
    have c12 := hst.pb.cells.2.2.2.2.1
    have q8 := hqb.r8
    have hstN := hrr.1
    have hN9 : N ≤ 100000 := by rcases HN.out with h | h <;> omega
    clear hst hqb hrr hql
    by_cases h1 : st < N
    · have hb1 : decide ((st : Int) < n) = true := by rw [decide_eq_true_eq]; rcases HN.out with h | h <;> omega
      have hb0 : decide ((st : Int) < 100000) = true := by rw [decide_eq_true_eq]; omega
      by_cases h2 : q.st = 0
      · have c12' : wi.cell? ⟨w.heap.size, 12, none⟩ = some (.int .u8 0) := by rw [h2] at c12; exact c12
        by_cases h3 : call < 0
        · have hb3 : decide (call < 0) = true := by simpa using h3
          have HQ0 := Lib.hid h2
          have H3 := Lib.hid h3
          have H1 := Lib.hid h1
          clear c12 h2
          go_wp2_with (first
            | (refine sel (some 31) (.load _ (.tmp 2)) ?_; refine Vm_stop ?_))
          refine HoleV.mk ?_
          refine wpList_load_row rfl 26 (.tmp 2) rfl w.heap.size rfl 26 _ (0, 0) _ HS.out.pb.out Tryz.underlying26 rfl (by rw [partC_size q8]; exact info_part) ?_
          go_wp2_with fail
          refine (rStep_ok q A' c' wi HQb.out HS.out.own.rd (by have := HQl.out; omega)).mono ?_
          have hnext := HRR.out.step HQb.out h1 h3 HQ0.out
          have hsb := step_bd HQb.out
          have hsm := step_mem q
          obtain ⟨⟨q2, k2, e2⟩, hsv⟩ : ∃ r, stepV q = r := ⟨_, rfl⟩
          rw [hsv] at hnext hsb hsm ⊢
          simp only at hnext hsb hsm ⊢
          rintro e w5 ⟨A5, c5, rfl, m1, m2, m3, m4⟩
          have HNext := Lib.hid hnext
          have HSb := Lib.hid hsb
          have HSm := Lib.hid hsm
          have hq28 := hsb.1.r8
          have HO5 := Lib.hid (m3.mono (show w.heap.size + 2 ≤ _ by have := (Array.getElem?_eq_some_iff.1 HS.out.rb).1; omega))
          have HB5 := Lib.hid (HS.out.pb.non m4)
          have HR5 := Lib.hid (blockN m4 HS.out.rb)
          have HG5 := Lib.hid (HS.out.chg.then_non m4)
          clear m3 m4 hnext hsb hsm hsv
          go_wp2_with (first
            | (refine sel none (.store _ (.tmp 9) (.tmp 33)) ?_; refine Vm_stop ?_))
          refine HoleV.mk ?_
          refine wpList_store_rowA rfl 26 (.tmp 9) (.tmp 33) rfl w5.heap.size (partC q2 (.slice A5 q2.mem.length c5)) rfl rfl 26 zeroPart (heap_alloc_new w5 _) (by rw [partC_size hq28]; exact info_part) (by rw [partC_size hq28]; rfl) (partC_one _ _ rfl) ?_
          intro w6 hgW hbW
          have hgn : Chg Non w5 w6 := ((Chg.refl Non w5).alloc (.cells zeroPart 26)).then_new hgW (fun x e => by omega)
          have HB6 := Lib.hid (HB5.out.non hgn)
          have HR6 := Lib.hid (blockN hgn HR5.out)
          have HO6 := Lib.hid (HO5.out.non hgn)
          have HG6 := Lib.hid (HG5.out.then_non hgn)
          have HN6 : Hid (PartB w6 w5.heap.size q2 (.slice A5 q2.mem.length c5)) := Lib.hid ⟨hbW, hq28⟩
          clear hgW hbW hgn
          go_wp2_with (first
            | (refine sel (some 36) (.load _ (.tmp 9)) ?_; refine Vm_stop ?_))
          refine HoleV.mk ?_
          refine wpList_load_row rfl 26 (.tmp 9) rfl w5.heap.size rfl 26 _ (0, 0) _ HN6.out.out Tryz.underlying26 rfl (by rw [partC_size hq28]; exact info_part) ?_
          go_wp2_with (first
            | (refine sel none (.store _ (.tmp 2) (.tmp 36)) ?_; refine Vm_stop ?_))
          refine HoleV.mk ?_
          refine wpList_store_rowA rfl 26 (.tmp 2) (.tmp 36) rfl w.heap.size (partC q2 (.slice A5 q2.mem.length c5)) rfl rfl 26 _ HB6.out.out (by rw [partC_size hq28]; exact info_part) (by rw [partC_size hq28, partC_size q8]) (partC_one _ _ rfl) ?_
          intro w7 hg7 hb7
          have hst7 : RuR w w7 q2 A5 c5 := ⟨⟨hb7, hq28⟩, blockS HR6.out hg7 (by omega), HO6.out.keep hg7 (fun b o e1 e2 e3 e4 => by omega), HG6.out.then_new hg7 (fun x e => by omega), m1, m2⟩
          have HS7 := Lib.hid hst7
          clear hg7 hb7 hst7
          go_wp2_with fail
          go_roundw
          case rel => exact ⟨st + 1, q2, k2, A5, c5, by go_num, rfl, HS7.out, HSb.out.1, by rw [HSm.out]; exact HQl.out, HNext.out, HSb.out.2.2⟩
          case measure => simp [intOf]; omega
        · have hb3 : decide (call < 0) = false := by simpa using h3
          have HEnd : Hid (st = N ∨ q.st ≠ 0 ∨ 0 ≤ call) := Lib.hid (.inr (.inr (by omega)))
          clear c12 h2
          go_wp2_with (first
            | (refine sel (some 40) (.load _ (.tmp 2)) ?_; refine Vm_stop ?_))
          refine HoleV.mk ?_
          refine wpList_load_row rfl 26 (.tmp 2) rfl w.heap.size rfl 26 _ (0, 0) _ HS.out.pb.out Tryz.underlying26 rfl (by rw [partC_size q8]; exact info_part) ?_
          go_wp2_with (first
            | (refine sel none (.store _ (.tmp 4) (.tmp 40)) ?_; refine Vm_stop ?_))
          refine HoleV.mk ?_
          refine wpList_store_rowA rfl 26 (.tmp 4) (.tmp 40) rfl (w.heap.size + 1) _ rfl rfl 26 zeroPart HS.out.rb (by rw [partC_size q8]; exact info_part) (by rw [partC_size q8]; rfl) (partC_one _ _ rfl) ?_
          intro WR hgR hbR
          have HBR := Lib.hid hbR
          have HGR := Lib.hid hgR
          clear hbR hgR
          go_wp2_with fail
          refine bodyPost_ret (results_ctt Tryz.results19 _ _ (w.heap.size + 1) 26 _ (0, 0) _ (.int .i64 call) (.int .i64 (st : Nat)) rfl rfl rfl HBR.out Tryz.underlying26 rfl (by rw [partC_size q8]; exact info_part)) rfl ?_
          rw [HRR.out.done HEnd.out]
          exact ⟨_, _, rfl, HS.out.h1, HS.out.h2, (HS.out.own.keep HGR.out (fun b o e1 e2 e3 e4 => by omega)).mono (by omega), HS.out.chg.then_new HGR.out (fun x e => by omega)⟩
      · have hb2 : ((q.st : Int) == 0) = false := by rw [beq_eq_false_iff_ne]; omega
        have HEnd : Hid (st = N ∨ q.st ≠ 0 ∨ 0 ≤ call) := Lib.hid (.inr (.inl h2))
        go_wp2_with (first
          | (refine sel (some 40) (.load _ (.tmp 2)) ?_; refine Vm_stop ?_))
        refine HoleV.mk ?_
        refine wpList_load_row rfl 26 (.tmp 2) rfl w.heap.size rfl 26 _ (0, 0) _ HS.out.pb.out Tryz.underlying26 rfl (by rw [partC_size q8]; exact info_part) ?_
        go_wp2_with (first
          | (refine sel none (.store _ (.tmp 4) (.tmp 40)) ?_; refine Vm_stop ?_))
        refine HoleV.mk ?_
        refine wpList_store_rowA rfl 26 (.tmp 4) (.tmp 40) rfl (w.heap.size + 1) _ rfl rfl 26 zeroPart HS.out.rb (by rw [partC_size q8]; exact info_part) (by rw [partC_size q8]; rfl) (partC_one _ _ rfl) ?_
        intro WR hgR hbR
        have HBR := Lib.hid hbR
        have HGR := Lib.hid hgR
        clear hbR hgR
        go_wp2_with fail
        refine bodyPost_ret (results_ctt Tryz.results19 _ _ (w.heap.size + 1) 26 _ (0, 0) _ (.int .i64 call) (.int .i64 (st : Nat)) rfl rfl rfl HBR.out Tryz.underlying26 rfl (by rw [partC_size q8]; exact info_part)) rfl ?_
        rw [HRR.out.done HEnd.out]
        exact ⟨_, _, rfl, HS.out.h1, HS.out.h2, (HS.out.own.keep HGR.out (fun b o e1 e2 e3 e4 => by omega)).mono (by omega), HS.out.chg.then_new HGR.out (fun x e => by omega)⟩
    · have hb1 : decide ((st : Int) < n) = false := by rw [decide_eq_false_iff_not]; rcases HN.out with h | h <;> omega
      have HEnd : Hid (st = N ∨ q.st ≠ 0 ∨ 0 ≤ call) := Lib.hid (.inl (by omega))
      go_wp2_with (first
        | (refine sel (some 40) (.load _ (.tmp 2)) ?_; refine Vm_stop ?_))
      refine HoleV.mk ?_
      refine wpList_load_row rfl 26 (.tmp 2) rfl w.heap.size rfl 26 _ (0, 0) _ HS.out.pb.out Tryz.underlying26 rfl (by rw [partC_size q8]; exact info_part) ?_
      go_wp2_with (first
        | (refine sel none (.store _ (.tmp 4) (.tmp 40)) ?_; refine Vm_stop ?_))
      refine HoleV.mk ?_
      refine wpList_store_rowA rfl 26 (.tmp 4) (.tmp 40) rfl (w.heap.size + 1) _ rfl rfl 26 zeroPart HS.out.rb (by rw [partC_size q8]; exact info_part) (by rw [partC_size q8]; rfl) (partC_one _ _ rfl) ?_
      intro WR hgR hbR
      have HBR := Lib.hid hbR
      have HGR := Lib.hid hgR
      clear hbR hgR
      go_wp2_with fail
      refine bodyPost_ret (results_ctt Tryz.results19 _ _ (w.heap.size + 1) 26 _ (0, 0) _ (.int .i64 call) (.int .i64 (st : Nat)) rfl rfl rfl HBR.out Tryz.underlying26 rfl (by rw [partC_size q8]; exact info_part)) rfl ?_
      rw [HRR.out.done HEnd.out]
      exact ⟨_, _, rfl, HS.out.h1, HS.out.h2, (HS.out.own.keep HGR.out (fun b o e1 e2 e3 e4 => by omega)).mono (by omega), HS.out.chg.then_new HGR.out (fun x e => by omega)⟩

theorem runs_bd (n : Nat) : ∀ p : Pt, p.Bd → (runV n p).1.Bd ∧ (runV n p).1.mem.length = p.mem.length := by
  induction n with
  | zero => intro p hp; exact ⟨hp, rfl⟩
  | succ n ih =>
    intro p hp
    unfold runV
    have hs := (step_bd hp).1
    have hm := step_mem p
    split
    · split
      · have h := ih _ hs
        exact ⟨h.1, h.2.trans hm⟩
      · exact ⟨hs, hm⟩
    · exact ⟨hp, rfl⟩
set_option maxRecDepth 100000 in
set_option maxHeartbeats 8000000 in
theorem runs_long_p (p q : Pt) (A Aq : Option Addr) (c cq : Nat) (n : Int) (w : World) (h8 : p.r.length = 8) (hq8 : q.r.length = 8) (hl : 600 < p.mem.length) :
    Calls Tryz.prog 6 #[.agg (partC p (.slice A p.mem.length c)), .agg (partC q (.slice Aq q.mem.length cq)), .int .i64 n] w fun e w' => e = .returned (.bool true) ∧ Chg Non w w' := by
  have hb1 : decide ((p.mem.length : Int) > 600) = true := by simp; omega
  have hp : PartB ((w.alloc (.cells (partC p (.slice A p.mem.length c)) 26)).alloc (.cells (partC q (.slice Aq q.mem.length cq)) 26)) w.heap.size p (.slice A p.mem.length c) := ⟨al_2_0 _ _ _, h8⟩
  have hq : PartB ((w.alloc (.cells (partC p (.slice A p.mem.length c)) 26)).alloc (.cells (partC q (.slice Aq q.mem.length cq)) 26)) (w.heap.size + 1) q (.slice Aq q.mem.length cq) := ⟨al_2_1 _ _ _, hq8⟩
  have c13 := hp.cells.2.2.2.2.2
  have d13 := hq.cells.2.2.2.2.2
  obtain ⟨C, hC⟩ : ∃ C, partC p (.slice A p.mem.length c) = C := ⟨_, rfl⟩
  obtain ⟨D, hD⟩ : ∃ C, partC q (.slice Aq q.mem.length cq) = C := ⟨_, rfl⟩
  rw [hC, hD] at c13 d13 ⊢
  have HG : Hid (Chg Non w ((w.alloc (.cells C 26)).alloc (.cells D 26))) := Lib.hid (((Chg.refl Non w).alloc _).alloc _)
  clear hC hp hD hq
  go_enter Tryz.func6, Tryz.ntmps6
  go_wp2_with fail
  go_ret
  exact ⟨rfl, HG.out⟩
set_option maxRecDepth 100000 in
set_option maxHeartbeats 8000000 in
theorem runs_long_q (p q : Pt) (A Aq : Option Addr) (c cq : Nat) (n : Int) (w : World) (h8 : p.r.length = 8) (hq8 : q.r.length = 8) (hl : p.mem.length ≤ 600 ∧ 600 < q.mem.length) :
    Calls Tryz.prog 6 #[.agg (partC p (.slice A p.mem.length c)), .agg (partC q (.slice Aq q.mem.length cq)), .int .i64 n] w fun e w' => e = .returned (.bool true) ∧ Chg Non w w' := by
  have hb1 : decide ((p.mem.length : Int) > 600) = false := by simp; omega
  have hb2 : decide ((q.mem.length : Int) > 600) = true := by simp; omega
  have hp : PartB ((w.alloc (.cells (partC p (.slice A p.mem.length c)) 26)).alloc (.cells (partC q (.slice Aq q.mem.length cq)) 26)) w.heap.size p (.slice A p.mem.length c) := ⟨al_2_0 _ _ _, h8⟩
  have hq : PartB ((w.alloc (.cells (partC p (.slice A p.mem.length c)) 26)).alloc (.cells (partC q (.slice Aq q.mem.length cq)) 26)) (w.heap.size + 1) q (.slice Aq q.mem.length cq) := ⟨al_2_1 _ _ _, hq8⟩
  have c13 := hp.cells.2.2.2.2.2
  have d13 := hq.cells.2.2.2.2.2
  obtain ⟨C, hC⟩ : ∃ C, partC p (.slice A p.mem.length c) = C := ⟨_, rfl⟩
  obtain ⟨D, hD⟩ : ∃ C, partC q (.slice Aq q.mem.length cq) = C := ⟨_, rfl⟩
  rw [hC, hD] at c13 d13 ⊢
  have HG : Hid (Chg Non w ((w.alloc (.cells C 26)).alloc (.cells D 26))) := Lib.hid (((Chg.refl Non w).alloc _).alloc _)
  clear hC hp hD hq
  go_enter Tryz.func6, Tryz.ntmps6
  go_wp2_with fail
  go_ret
  exact ⟨rfl, HG.out⟩
set_option maxRecDepth 100000 in
set_option maxHeartbeats 8000000 in
theorem runs_long_n (p q : Pt) (A Aq : Option Addr) (c cq : Nat) (n : Int) (w : World) (h8 : p.r.length = 8) (hq8 : q.r.length = 8) (hl : p.mem.length ≤ 600 ∧ q.mem.length ≤ 600 ∧ 400 < n) :
    Calls Tryz.prog 6 #[.agg (partC p (.slice A p.mem.length c)), .agg (partC q (.slice Aq q.mem.length cq)), .int .i64 n] w fun e w' => e = .returned (.bool true) ∧ Chg Non w w' := by
  have hb1 : decide ((p.mem.length : Int) > 600) = false := by simp; omega
  have hb2 : decide ((q.mem.length : Int) > 600) = false := by simp; omega
  have hb3 : decide (n > 400) = true := by simp; omega
  have hp : PartB ((w.alloc (.cells (partC p (.slice A p.mem.length c)) 26)).alloc (.cells (partC q (.slice Aq q.mem.length cq)) 26)) w.heap.size p (.slice A p.mem.length c) := ⟨al_2_0 _ _ _, h8⟩
  have hq : PartB ((w.alloc (.cells (partC p (.slice A p.mem.length c)) 26)).alloc (.cells (partC q (.slice Aq q.mem.length cq)) 26)) (w.heap.size + 1) q (.slice Aq q.mem.length cq) := ⟨al_2_1 _ _ _, hq8⟩
  have c13 := hp.cells.2.2.2.2.2
  have d13 := hq.cells.2.2.2.2.2
  obtain ⟨C, hC⟩ : ∃ C, partC p (.slice A p.mem.length c) = C := ⟨_, rfl⟩
  obtain ⟨D, hD⟩ : ∃ C, partC q (.slice Aq q.mem.length cq) = C := ⟨_, rfl⟩
  rw [hC, hD] at c13 d13 ⊢
  have HG : Hid (Chg Non w ((w.alloc (.cells C 26)).alloc (.cells D 26))) := Lib.hid (((Chg.refl Non w).alloc _).alloc _)
  clear hC hp hD hq
  go_enter Tryz.func6, Tryz.ntmps6
  go_wp2_with fail
  go_ret
  exact ⟨rfl, HG.out⟩
set_option maxRecDepth 100000 in
set_option maxHeartbeats 16000000 in
theorem runs_walk (p q : Pt) (A Aq : Option Addr) (c cq : Nat) (n : Int) (w : World) (hE : Env w) (hb : p.Bd) (hbq : q.Bd) (hr : Rd w A p.mem) (hrq : Rd w Aq q.mem) (hl : p.mem.length ≤ 600) (hlq : q.mem.length ≤ 600) (hn0 : -9223372036854775808 ≤ n) (hn1 : n ≤ 400) :
    Calls Tryz.prog 6 #[.agg (partC p (.slice A p.mem.length c)), .agg (partC q (.slice Aq q.mem.length cq)), .int .i64 n] w fun e w' => e = .returned (.bool true) ∧ Chg Non w w' := by
  have HE := Lib.hid hE
  have HBd := Lib.hid hb
  have HBq := Lib.hid hbq
  have h8 := hb.r8
  have hq8 := hbq.r8
  have hb1 : decide ((p.mem.length : Int) > 600) = false := by simp; omega
  have hb2 : decide ((q.mem.length : Int) > 600) = false := by simp; omega
  have hb3 : decide (n > 400) = false := by simp; omega
  have hg0 : Chg Non w ((w.alloc (.cells (partC p (.slice A p.mem.length c)) 26)).alloc (.cells (partC q (.slice Aq q.mem.length cq)) 26)) := ((Chg.refl Non w).alloc _).alloc _
  have hp : PartB ((w.alloc (.cells (partC p (.slice A p.mem.length c)) 26)).alloc (.cells (partC q (.slice Aq q.mem.length cq)) 26)) w.heap.size p (.slice A p.mem.length c) := ⟨al_2_0 _ _ _, h8⟩
  have hq : PartB ((w.alloc (.cells (partC p (.slice A p.mem.length c)) 26)).alloc (.cells (partC q (.slice Aq q.mem.length cq)) 26)) (w.heap.size + 1) q (.slice Aq q.mem.length cq) := ⟨al_2_1 _ _ _, hq8⟩
  have HP := Lib.hid hp
  have HQ := Lib.hid hq
  have HR := Lib.hid (hr.non hg0)
  have HRq := Lib.hid (hrq.non hg0)
  obtain ⟨N, hN⟩ : ∃ N : Nat, n = N ∨ n < 0 ∧ N = 0 := ⟨n.toNat, by omega⟩
  obtain ⟨⟨r, k, sr⟩, hsv⟩ : ∃ x, runV N p = x := ⟨_, rfl⟩
  have hrb := runs_bd N p hb
  rw [hsv] at hrb
  simp only at hrb
  have HSV := Lib.hid hsv
  have HRb := Lib.hid hrb.1
  have hr8 := hrb.1.r8
  have HNn := Lib.hid hN
  have c13 := hp.cells.2.2.2.2.2
  have d13 := hq.cells.2.2.2.2.2
  have hcp := fun W a => lCopied_ok p A p.mem c W h8 a (by omega)
  obtain ⟨C, hC⟩ : ∃ C, partC p (.slice A p.mem.length c) = C := ⟨_, rfl⟩
  obtain ⟨D, hD⟩ : ∃ C, partC q (.slice Aq q.mem.length cq) = C := ⟨_, rfl⟩
  have z1 : C.size = 14 := by rw [← hC]; exact partC_size h8 _
  rw [hC, hD] at c13 d13 HP HQ HR HRq hg0 ⊢
  rw [hC] at hcp
  have HCp := Lib.hid hcp
  have HG := Lib.hid hg0
  clear hC hD hp hq hE hb hbq hr hrq hsv hrb hcp hg0 hN
  go_enter Tryz.func6, Tryz.ntmps6
  go_wp2_with (first
    | (refine sel (some 28) (.load _ (.tmp 3)) ?_; refine Vm_stop ?_))
  refine HoleV.mk ?_
  refine wpList_load_row rfl 26 (.tmp 3) rfl w.heap.size rfl 26 C (0, 0) _ (al_2_0 _ _ _) Tryz.underlying26 rfl (by rw [z1]; exact info_part) ?_
  go_wp2_with fail
  refine (HCp.out _ HR.out).mono ?_
  rintro e w1 ⟨b2, o2, ci, rfl, i1, i2, i3, g1⟩
  have HM := Lib.hid i3.rd
  have HP := Lib.hid (HP.out.non g1)
  have HQ := Lib.hid (HQ.out.non g1)
  have HR := Lib.hid (HR.out.non g1)
  have HRq := Lib.hid (HRq.out.non g1)
  have HG := Lib.hid (HG.out.then_non g1)
  clear i3 g1 c13 d13
  go_wp2_with (first
    | (refine sel none (.store _ (.tmp 7) (.tmp 29)) ?_; refine Vm_stop ?_))
  refine HoleV.mk ?_
  refine wpList_store_rowA rfl 26 (.tmp 7) (.tmp 29) rfl w1.heap.size (partC p (.slice (some ⟨b2, o2, none⟩) p.mem.length ci)) rfl rfl 26 zeroPart (heap_alloc_new w1 _) (by rw [partC_size h8]; exact info_part) (by rw [partC_size h8]; rfl) (partC_one _ _ rfl) ?_
  intro w2 hgW hbW
  have hgn : Chg Non w1 w2 := ((Chg.refl Non w1).alloc (.cells zeroPart 26)).then_new hgW (fun x e => by omega)
  have HP_i : Hid (PartB w2 w1.heap.size p (.slice (some ⟨b2, o2, none⟩) p.mem.length ci)) := Lib.hid ⟨hbW, h8⟩
  have HP := Lib.hid (HP.out.non hgn)
  have HQ := Lib.hid (HQ.out.non hgn)
  have HR := Lib.hid (HR.out.non hgn)
  have HRq := Lib.hid (HRq.out.non hgn)
  have HG := Lib.hid (HG.out.then_non hgn)
  have HM := Lib.hid (HM.out.non hgn)
  obtain ⟨bi, hbi⟩ : ∃ b, w1.heap.size = b := ⟨_, rfl⟩
  rw [hbi] at HP_i ⊢
  clear hgW hbW hgn hbi
  go_wp2_with (first
    | (refine sel (some 31) (.load _ (.tmp 7)) ?_; refine Vm_stop ?_))
  refine HoleV.mk ?_
  refine wpList_load_row rfl 26 (.tmp 7) rfl bi rfl 26 _ (0, 0) _ HP_i.out.out Tryz.underlying26 rfl (by rw [partC_size HP_i.out.len]; exact info_part) ?_
  go_wp2_with fail
  have hst := Run_ok p (some ⟨b2, o2, none⟩) ci n w2 HBd.out (rd_prefix HM.out) (by omega) hn0 (by omega) N (by rcases HNn.out with h | h; exact .inl (by omega); exact .inr h)
  rw [HSV.out] at hst
  simp only at hst
  refine hst.mono ?_
  rintro e w3 ⟨Ag, cg, rfl, n1, n2, n3, g3⟩
  have HRg := Lib.hid n3.rd
  have HP := Lib.hid (HP.out.non g3)
  have HQ := Lib.hid (HQ.out.non g3)
  have HR := Lib.hid (HR.out.non g3)
  have HRq := Lib.hid (HRq.out.non g3)
  have HG := Lib.hid (HG.out.then_non g3)
  have HM := Lib.hid (HM.out.non g3)
  have HP_i := Lib.hid (HP_i.out.non g3)
  clear n3 g3 hst
  go_wp2_with (first
    | (refine sel none (.store _ (.tmp 8) (.tmp 34)) ?_; refine Vm_stop ?_))
  refine HoleV.mk ?_
  refine wpList_store_rowA rfl 26 (.tmp 8) (.tmp 34) rfl w3.heap.size (partC r (.slice Ag r.mem.length cg)) rfl rfl 26 zeroPart (heap_alloc_new w3 _) (by rw [partC_size hr8]; exact info_part) (by rw [partC_size hr8]; rfl) (partC_one _ _ rfl) ?_
  intro w4 hgW hbW
  have hgn : Chg Non w3 w4 := ((Chg.refl Non w3).alloc (.cells zeroPart 26)).then_new hgW (fun x e => by omega)
  have HP_g : Hid (PartB w4 w3.heap.size r (.slice Ag r.mem.length cg)) := Lib.hid ⟨hbW, hr8⟩
  have HP := Lib.hid (HP.out.non hgn)
  have HQ := Lib.hid (HQ.out.non hgn)
  have HR := Lib.hid (HR.out.non hgn)
  have HRq := Lib.hid (HRq.out.non hgn)
  have HG := Lib.hid (HG.out.then_non hgn)
  have HM := Lib.hid (HM.out.non hgn)
  have HP_i := Lib.hid (HP_i.out.non hgn)
  have HRg := Lib.hid (HRg.out.non hgn)
  obtain ⟨bg, hbg⟩ : ∃ b, w3.heap.size = b := ⟨_, rfl⟩
  rw [hbg] at HP_g ⊢
  clear hgW hbW hgn hbg
  go_wp2_with (first
    | (refine sel (some 38) (.load _ (.tmp 3)) ?_; refine Vm_stop ?_))
  refine HoleV.mk ?_
  refine wpList_load_row rfl 26 (.tmp 3) rfl w.heap.size rfl 26 _ (0, 0) _ HP.out.out Tryz.underlying26 rfl (by rw [partC_size HP.out.len]; exact info_part) ?_
  go_wp2_with fail
  have hst := rRun_ok p A c n w4 HBd.out HR.out (by omega) (by omega) N HNn.out
  rw [HSV.out] at hst
  simp only at hst
  refine hst.mono ?_
  rintro e w5 ⟨Aw, cw, rfl, n3, n4, n5, g5⟩
  have HRw := Lib.hid n5.rd
  have HP := Lib.hid (HP.out.non g5)
  have HQ := Lib.hid (HQ.out.non g5)
  have HR := Lib.hid (HR.out.non g5)
  have HRq := Lib.hid (HRq.out.non g5)
  have HG := Lib.hid (HG.out.then_non g5)
  have HM := Lib.hid (HM.out.non g5)
  have HP_i := Lib.hid (HP_i.out.non g5)
  have HRg := Lib.hid (HRg.out.non g5)
  have HP_g := Lib.hid (HP_g.out.non g5)
  clear n5 g5 hst
  go_wp2_with (first
    | (refine sel none (.store _ (.tmp 11) (.tmp 41)) ?_; refine Vm_stop ?_))
  refine HoleV.mk ?_
  refine wpList_store_rowA rfl 26 (.tmp 11) (.tmp 41) rfl w5.heap.size (partC r (.slice Aw r.mem.length cw)) rfl rfl 26 zeroPart (heap_alloc_new w5 _) (by rw [partC_size hr8]; exact info_part) (by rw [partC_size hr8]; rfl) (partC_one _ _ rfl) ?_
  intro w6 hgW hbW
  have hgn : Chg Non w5 w6 := ((Chg.refl Non w5).alloc (.cells zeroPart 26)).then_new hgW (fun x e => by omega)
  have HP_w : Hid (PartB w6 w5.heap.size r (.slice Aw r.mem.length cw)) := Lib.hid ⟨hbW, hr8⟩
  have HP := Lib.hid (HP.out.non hgn)
  have HQ := Lib.hid (HQ.out.non hgn)
  have HR := Lib.hid (HR.out.non hgn)
  have HRq := Lib.hid (HRq.out.non hgn)
  have HG := Lib.hid (HG.out.then_non hgn)
  have HM := Lib.hid (HM.out.non hgn)
  have HP_i := Lib.hid (HP_i.out.non hgn)
  have HRg := Lib.hid (HRg.out.non hgn)
  have HP_g := Lib.hid (HP_g.out.non hgn)
  have HRw := Lib.hid (HRw.out.non hgn)
  obtain ⟨bw, hbw⟩ : ∃ b, w5.heap.size = b := ⟨_, rfl⟩
  rw [hbw] at HP_w ⊢
  clear hgW hbW hgn hbw
  obtain ⟨sb, hsb⟩ : ∃ s, sameB p q = s := ⟨_, rfl⟩
  have HSb := Lib.hid hsb
  clear hsb
  go_wp2_with fail
  refine wp_region_held_drew (S := fun W => Chg Non w6 W) (by kernel_rfl) ((Chg.refl Non _).drew) (fun hHeld => ?_)
  clear hHeld
  refine h_load 0 (some 44) 26 (.tmp 8) bg 0 _ _ rfl (by kernel_rfl) (by kernel_rfl) (by kernel_rfl) rfl rfl (fun _ _ _ h => h) (by kernel_rfl) rfl (fun W h => row_range (HP_g.out.non h).out) Tryz.underlying26 rfl (by rw [partC_size HP_g.out.len]; exact info_part) ((Chg.refl Non w6).drew) ?_
  simp only [Act.put, List.setIfInBounds_toArray, List.set_cons_zero, List.set_cons_succ]
  refine h_load 1 (some 45) 26 (.tmp 11) bw 0 _ _ rfl (by kernel_rfl) (by kernel_rfl) (by kernel_rfl) rfl rfl (fun _ _ _ h => h) (by kernel_rfl) rfl (fun W h => row_range (HP_w.out.non h).out) Tryz.underlying26 rfl (by rw [partC_size HP_w.out.len]; exact info_part) ((Chg.refl Non w6).drew) ?_
  simp only [Act.put, List.setIfInBounds_toArray, List.set_cons_zero, List.set_cons_succ]
  refine h_one 2 (by kernel_rfl) rfl (by kernel_rfl) ?_
  intro K hK
  go_simp
  have hsm := rSame_ok r r Ag Aw cg cw _ HRb.out HRb.out (HRg.out.non ((Chg.refl Non w6).drew)) (HRw.out.non ((Chg.refl Non w6).drew))
  rw [sameB_refl] at hsm
  refine (hsm).mono ?_
  rintro e u1 ⟨rfl, g9⟩
  have HU1 : Hid (Chg Non w6 u1) := Lib.hid (((Chg.refl Non w6).drew).then_non g9)
  refine hK.out _ _ HU1.out (fun _ => ?_)
  clear hK K g9
  refine h_pure 3 (some 47) (.bool true) rfl (by kernel_rfl) (by kernel_rfl) (by kernel_rfl) (by kernel_rfl) (fun _ _ _ h => h) (by kernel_rfl) (fun W hW => by go_simp) HU1.out ?_
  simp only [Act.put, List.setIfInBounds_toArray, List.set_cons_zero, List.set_cons_succ]
  refine h_pure 4 (some 48) (.int .i64 k) rfl (by kernel_rfl) (by kernel_rfl) (by kernel_rfl) (by kernel_rfl) (fun _ _ _ h => h) (by kernel_rfl) (fun W hW => by go_simp) HU1.out ?_
  simp only [Act.put, List.setIfInBounds_toArray, List.set_cons_zero, List.set_cons_succ]
  refine h_pure 5 (some 49) (.int .i64 k) rfl (by kernel_rfl) (by kernel_rfl) (by kernel_rfl) (by kernel_rfl) (fun _ _ _ h => h) (by kernel_rfl) (fun W hW => by go_simp) HU1.out ?_
  simp only [Act.put, List.setIfInBounds_toArray, List.set_cons_zero, List.set_cons_succ]
  refine h_pure 6 (some 50) (.bool true) rfl (by kernel_rfl) (by kernel_rfl) (by kernel_rfl) (by kernel_rfl) (fun _ _ _ h => h) (by kernel_rfl) (fun W hW => by go_simp) HU1.out ?_
  simp only [Act.put, List.setIfInBounds_toArray, List.set_cons_zero, List.set_cons_succ]
  refine h_pure 7 (some 51) (.bool true) rfl (by kernel_rfl) (by kernel_rfl) (by kernel_rfl) (by kernel_rfl) (fun _ _ _ h => h) (by kernel_rfl) (fun W hW => by go_simp) HU1.out ?_
  simp only [Act.put, List.setIfInBounds_toArray, List.set_cons_zero, List.set_cons_succ]
  refine h_pure 8 (some 52) (.bool true) rfl (by kernel_rfl) (by kernel_rfl) (by kernel_rfl) (by kernel_rfl) (fun _ _ _ h => h) (by kernel_rfl) (fun W hW => by go_simp) HU1.out ?_
  simp only [Act.put, List.setIfInBounds_toArray, List.set_cons_zero, List.set_cons_succ]
  refine h_pure 9 (some 53) (.int .i64 (sr : Nat)) rfl (by kernel_rfl) (by kernel_rfl) (by kernel_rfl) (by kernel_rfl) (fun _ _ _ h => h) (by kernel_rfl) (fun W hW => by go_simp) HU1.out ?_
  simp only [Act.put, List.setIfInBounds_toArray, List.set_cons_zero, List.set_cons_succ]
  refine h_pure 10 (some 54) (.int .i64 (sr : Nat)) rfl (by kernel_rfl) (by kernel_rfl) (by kernel_rfl) (by kernel_rfl) (fun _ _ _ h => h) (by kernel_rfl) (fun W hW => by go_simp) HU1.out ?_
  simp only [Act.put, List.setIfInBounds_toArray, List.set_cons_zero, List.set_cons_succ]
  refine h_pure 11 (some 55) (.bool true) rfl (by kernel_rfl) (by kernel_rfl) (by kernel_rfl) (by kernel_rfl) (fun _ _ _ h => h) (by kernel_rfl) (fun W hW => by go_simp) HU1.out ?_
  simp only [Act.put, List.setIfInBounds_toArray, List.set_cons_zero, List.set_cons_succ]
  refine h_pure 12 (some 56) (.bool true) rfl (by kernel_rfl) (by kernel_rfl) (by kernel_rfl) (by kernel_rfl) (fun _ _ _ h => h) (by kernel_rfl) (fun W hW => by go_simp) HU1.out ?_
  simp only [Act.put, List.setIfInBounds_toArray, List.set_cons_zero, List.set_cons_succ]
  refine h_pure 13 (some 57) (.bool true) rfl (by kernel_rfl) (by kernel_rfl) (by kernel_rfl) (by kernel_rfl) (fun _ _ _ h => h) (by kernel_rfl) (fun W hW => by go_simp) HU1.out ?_
  simp only [Act.put, List.setIfInBounds_toArray, List.set_cons_zero, List.set_cons_succ]
  refine h_load 14 (some 58) 26 (.tmp 7) bi 0 _ _ rfl (by kernel_rfl) (by kernel_rfl) (by kernel_rfl) rfl rfl (fun _ _ _ h => h) (by kernel_rfl) rfl (fun W h => row_range (HP_i.out.non h).out) Tryz.underlying26 rfl (by rw [partC_size HP_i.out.len]; exact info_part) HU1.out ?_
  simp only [Act.put, List.setIfInBounds_toArray, List.set_cons_zero, List.set_cons_succ]
  refine h_load 15 (some 59) 26 (.tmp 3) w.heap.size 0 _ _ rfl (by kernel_rfl) (by kernel_rfl) (by kernel_rfl) rfl rfl (fun _ _ _ h => h) (by kernel_rfl) rfl (fun W h => row_range (HP.out.non h).out) Tryz.underlying26 rfl (by rw [partC_size HP.out.len]; exact info_part) HU1.out ?_
  simp only [Act.put, List.setIfInBounds_toArray, List.set_cons_zero, List.set_cons_succ]
  refine h_one 16 (by kernel_rfl) rfl (by kernel_rfl) ?_
  intro K hK
  go_simp
  refine (lStays_ok p b2 o2 A ci c _ HBd.out (HM.out.non HU1.out) (HR.out.non HU1.out) i1 (by omega)).mono ?_
  rintro e u2 ⟨rfl, g9⟩
  have HU2 : Hid (Chg Non w6 u2) := Lib.hid (HU1.out.then_non g9)
  refine hK.out _ _ HU2.out (fun _ => ?_)
  clear hK K g9
  refine h_pure 17 (some 61) (.bool true) rfl (by kernel_rfl) (by kernel_rfl) (by kernel_rfl) (by kernel_rfl) (fun _ _ _ h => h) (by kernel_rfl) (fun W hW => by go_simp) HU2.out ?_
  simp only [Act.put, List.setIfInBounds_toArray, List.set_cons_zero, List.set_cons_succ]
  refine h_pure 18 (some 62) (.bool true) rfl (by kernel_rfl) (by kernel_rfl) (by kernel_rfl) (by kernel_rfl) (fun _ _ _ h => h) (by kernel_rfl) (fun W hW => by go_simp) HU2.out ?_
  simp only [Act.put, List.setIfInBounds_toArray, List.set_cons_zero, List.set_cons_succ]
  refine h_load 19 (some 63) 26 (.tmp 3) w.heap.size 0 _ _ rfl (by kernel_rfl) (by kernel_rfl) (by kernel_rfl) rfl rfl (fun _ _ _ h => h) (by kernel_rfl) rfl (fun W h => row_range (HP.out.non h).out) Tryz.underlying26 rfl (by rw [partC_size HP.out.len]; exact info_part) HU2.out ?_
  simp only [Act.put, List.setIfInBounds_toArray, List.set_cons_zero, List.set_cons_succ]
  refine h_load 20 (some 64) 26 (.tmp 4) (w.heap.size + 1) 0 _ _ rfl (by kernel_rfl) (by kernel_rfl) (by kernel_rfl) rfl rfl (fun _ _ _ h => h) (by kernel_rfl) rfl (fun W h => row_range (HQ.out.non h).out) Tryz.underlying26 rfl (by rw [partC_size HQ.out.len]; exact info_part) HU2.out ?_
  simp only [Act.put, List.setIfInBounds_toArray, List.set_cons_zero, List.set_cons_succ]
  refine h_load 22 (some 66) 26 (.tmp 3) w.heap.size 0 _ _ rfl (by kernel_rfl) (by kernel_rfl) (by kernel_rfl) rfl rfl (fun _ _ _ h => h) (by kernel_rfl) rfl (fun W h => row_range (HP.out.non h).out) Tryz.underlying26 rfl (by rw [partC_size HP.out.len]; exact info_part) HU2.out ?_
  simp only [Act.put, List.setIfInBounds_toArray, List.set_cons_zero, List.set_cons_succ]
  refine h_load 23 (some 67) 26 (.tmp 4) (w.heap.size + 1) 0 _ _ rfl (by kernel_rfl) (by kernel_rfl) (by kernel_rfl) rfl rfl (fun _ _ _ h => h) (by kernel_rfl) rfl (fun W h => row_range (HQ.out.non h).out) Tryz.underlying26 rfl (by rw [partC_size HQ.out.len]; exact info_part) HU2.out ?_
  simp only [Act.put, List.setIfInBounds_toArray, List.set_cons_zero, List.set_cons_succ]
  refine h_one 21 (by kernel_rfl) rfl (by kernel_rfl) ?_
  intro K hK
  go_simp
  have hsm := vSame_ok p q A Aq c cq _ HBd.out HBq.out (HR.out.non HU2.out) (HRq.out.non HU2.out)
  rw [HSb.out] at hsm
  refine (hsm).mono ?_
  rintro e u3 ⟨rfl, g9⟩
  have HU3 : Hid (Chg Non w6 u3) := Lib.hid (HU2.out.then_non g9)
  refine hK.out _ _ HU3.out (fun _ => ?_)
  clear hK K g9
  refine h_one 24 (by kernel_rfl) rfl (by kernel_rfl) ?_
  intro K hK
  go_simp
  have hsm := rSame_ok p q A Aq c cq _ HBd.out HBq.out (HR.out.non HU3.out) (HRq.out.non HU3.out)
  rw [HSb.out] at hsm
  refine (hsm).mono ?_
  rintro e u4 ⟨rfl, g9⟩
  have HU4 : Hid (Chg Non w6 u4) := Lib.hid (HU3.out.then_non g9)
  refine hK.out _ _ HU4.out (fun _ => ?_)
  clear hK K g9
  refine h_pure 25 (some 69) (.bool true) rfl (by kernel_rfl) (by kernel_rfl) (by kernel_rfl) (by kernel_rfl) (fun _ _ _ h => h) (by kernel_rfl) (fun W hW => by go_simp) HU4.out ?_
  simp only [Act.put, List.setIfInBounds_toArray, List.set_cons_zero, List.set_cons_succ]
  refine h_pure 26 (some 70) (.bool true) rfl (by kernel_rfl) (by kernel_rfl) (by kernel_rfl) (by kernel_rfl) (fun _ _ _ h => h) (by kernel_rfl) (fun W hW => by go_simp) HU4.out ?_
  simp only [Act.put, List.setIfInBounds_toArray, List.set_cons_zero, List.set_cons_succ]
  refine h_pure 27 (some 71) (.bool true) rfl (by kernel_rfl) (by kernel_rfl) (by kernel_rfl) (by kernel_rfl) (fun _ _ _ h => h) (by kernel_rfl) (fun W hW => by go_simp) HU4.out ?_
  simp only [Act.put, List.setIfInBounds_toArray, List.set_cons_zero, List.set_cons_succ]
  refine h_load 28 (some 72) 26 (.tmp 7) bi 0 _ _ rfl (by kernel_rfl) (by kernel_rfl) (by kernel_rfl) rfl rfl (fun _ _ _ h => h) (by kernel_rfl) rfl (fun W h => row_range (HP_i.out.non h).out) Tryz.underlying26 rfl (by rw [partC_size HP_i.out.len]; exact info_part) HU4.out ?_
  simp only [Act.put, List.setIfInBounds_toArray, List.set_cons_zero, List.set_cons_succ]
  refine h_load 29 (some 73) 26 (.tmp 3) w.heap.size 0 _ _ rfl (by kernel_rfl) (by kernel_rfl) (by kernel_rfl) rfl rfl (fun _ _ _ h => h) (by kernel_rfl) rfl (fun W h => row_range (HP.out.non h).out) Tryz.underlying26 rfl (by rw [partC_size HP.out.len]; exact info_part) HU4.out ?_
  simp only [Act.put, List.setIfInBounds_toArray, List.set_cons_zero, List.set_cons_succ]
  refine h_one 30 (by kernel_rfl) rfl (by kernel_rfl) ?_
  intro K hK
  go_simp
  have hsm := vSame_ok p p (some ⟨b2, o2, none⟩) A ci c _ HBd.out HBd.out (rd_prefix (HM.out.non HU4.out)) (HR.out.non HU4.out)
  rw [sameB_refl] at hsm
  refine (hsm).mono ?_
  rintro e u5 ⟨rfl, g9⟩
  have HU5 : Hid (Chg Non w6 u5) := Lib.hid (HU4.out.then_non g9)
  refine hK.out _ _ HU5.out (fun _ => ?_)
  clear hK K g9
  refine h_pure 31 (some 75) (.bool true) rfl (by kernel_rfl) (by kernel_rfl) (by kernel_rfl) (by kernel_rfl) (fun _ _ _ h => h) (by kernel_rfl) (fun W hW => by go_simp) HU5.out ?_
  simp only [Act.put, List.setIfInBounds_toArray, List.set_cons_zero, List.set_cons_succ]
  refine h_pure 32 (some 76) (.bool true) rfl (by kernel_rfl) (by kernel_rfl) (by kernel_rfl) (by kernel_rfl) (fun _ _ _ h => h) (by kernel_rfl) (fun W hW => by go_simp) HU5.out ?_
  simp only [Act.put, List.setIfInBounds_toArray, List.set_cons_zero, List.set_cons_succ]
  refine h_one 33 (by kernel_rfl) rfl (by kernel_rfl) ?_
  intro K hK
  go_simp
  refine (vawake_ok _ (HE.out.non (HG.out.then_non HU5.out))).mono ?_
  rintro e u6 ⟨rfl, g9⟩
  have HU6 : Hid (Chg Non w6 u6) := Lib.hid (HU5.out.then_non g9)
  refine hK.out _ _ HU6.out (fun _ => ?_)
  clear hK K g9
  refine h_pure 34 (some 78) (.bool true) rfl (by kernel_rfl) (by kernel_rfl) (by kernel_rfl) (by kernel_rfl) (fun _ _ _ h => h) (by kernel_rfl) (fun W hW => by go_simp) HU6.out ?_
  simp only [Act.put, List.setIfInBounds_toArray, List.set_cons_zero, List.set_cons_succ]
  refine h_pure 35 (some 6) (.bool true) rfl (by kernel_rfl) (by kernel_rfl) (by kernel_rfl) (by kernel_rfl) (fun _ _ _ h => h) (by kernel_rfl) (fun W hW => by go_simp) HU6.out ?_
  simp only [Act.put, List.setIfInBounds_toArray, List.set_cons_zero, List.set_cons_succ]
  refine wpAnyH_done (by kernel_rfl) ?_ _
  go_wp2_with fail
  go_ret
  exact ⟨rfl, HG.out.then_non HU6.out⟩
theorem VmRuns_ok (p q : Pt) (A Aq : Option Addr) (c cq : Nat) (n : Int) (w : World) (hE : Env w) (hb : p.Bd) (hbq : q.Bd) (hr : Rd w A p.mem) (hrq : Rd w Aq q.mem) (hn0 : -9223372036854775808 ≤ n) :
    Calls Tryz.prog 6 #[.agg (partC p (.slice A p.mem.length c)), .agg (partC q (.slice Aq q.mem.length cq)), .int .i64 n] w fun e w' => e = .returned (.bool true) ∧ Chg Non w w' := by
  by_cases h1 : 600 < p.mem.length
  · exact runs_long_p p q A Aq c cq n w hb.r8 hbq.r8 h1
  by_cases h2 : 600 < q.mem.length
  · exact runs_long_q p q A Aq c cq n w hb.r8 hbq.r8 ⟨by omega, h2⟩
  by_cases h3 : 400 < n
  · exact runs_long_n p q A Aq c cq n w hb.r8 hbq.r8 ⟨by omega, by omega, h3⟩
  · exact runs_walk p q A Aq c cq n w hE hb hbq hr hrq (by omega) (by omega) hn0 (by omega)
end Go.Proofs.YtpcmnphohneddaaGreatDoor
