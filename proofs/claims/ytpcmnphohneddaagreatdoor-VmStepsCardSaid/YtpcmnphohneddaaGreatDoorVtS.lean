/- Walk of citadellaw20.VmSteps, and what it needs of the document's answer. (Written by wip/merge_vo.py.) -/
import Derived.Test.YtpcmnphohneddaaGreatDoorVoA
import Derived.Test.YtpcmnphohneddaaGreatDoorVoB
import Derived.Test.YtpcmnphohneddaaGreatDoorVq6
import Derived.Test.YtpcmnphohneddaaGreatDoorVsC
import Derived.Test.YtpcmnphohneddaaGreatDoorVsD
import Derived.Test.YtpcmnphohneddaaGreatDoorVsE
namespace Go.Proofs.YtpcmnphohneddaaGreatDoor
open Go.RowKit
set_option linter.unusedVariables false

theorem rStep_ok (p : Pt) (A : Option Addr) (c : Nat) (w : World) (hb : p.Bd) (hr : Rd w A p.mem) (hl : p.mem.length ≤ 1000000) :
    Calls Tryz.prog 10 #[.agg (partC p (.slice A p.mem.length c))] w (RetStep w (stepV p).1 (stepV p).2.1 (stepV p).2.2) := by
  by_cases hs : p.st = 0
  · cases ht : there p.mem p.pc 4 with
    | false =>
      rw [stepV_nof hs (by unfold fetch; rw [ht]; rfl)]
      exact rStep_nofetch p A c w hb hr hl hs ht
    | true =>
      have hlen := cut_len (there_yes ht).2
      match hcut : cut p.mem p.pc 4, hlen with
      | [f0, f1, f2, f3], _ =>
        have hfe : fetch p = some (decI f0.toNat f1.toNat f2.toNat f3.toNat) := by unfold fetch; rw [ht, hcut]; rfl
        cases hm : mayB (decI f0.toNat f1.toNat f2.toNat f3.toNat) with
        | false =>
          rw [stepV_bad hs hfe hm]
          exact rStep_badop p A c w hb hr hl hs ht f0 f1 f2 f3 hcut hm
        | true =>
          obtain ⟨⟨op, a, b2, cc, ni⟩, hd⟩ : ∃ x, decI f0.toNat f1.toNat f2.toNat f3.toNat = x := ⟨_, rfl⟩
          rw [hd] at hm hfe
          have hi := (mayB_iff _).1 hm
          have hop1 : 1 ≤ op := hi.1.1
          have hop2 : op ≤ 21 := hi.1.2
          obtain ⟨n, rfl⟩ : ∃ n : Nat, ni = n := ⟨ni.toNat, by have := hi.2.2.2.2.1; simp only at this; omega⟩
          have hk : op = 1 ∨ op = 2 ∨ op = 3 ∨ op = 4 ∨ op = 5 ∨ op = 6 ∨ op = 7 ∨ op = 8 ∨ op = 9 ∨ op = 10 ∨ op = 11 ∨ op = 12 ∨ op = 13 ∨ op = 14 ∨ op = 15 ∨ op = 16 ∨ op = 17 ∨ op = 18 ∨ op = 19 ∨ op = 20 ∨ op = 21 := by omega
          clear hi
          rcases hk with rfl | rfl | rfl | rfl | rfl | rfl | rfl | rfl | rfl | rfl | rfl | rfl | rfl | rfl | rfl | rfl | rfl | rfl | rfl | rfl | rfl
          · rw [stepV_does hs hfe hm (by simp [jumpsB]) (does_1 p a b2 cc n), if_neg (by show ¬ 1 = 20; omega)]
            exact rStep_1 p A c w hb hr hl hs ht f0 f1 f2 f3 hcut a b2 cc n hd hm
          · rw [stepV_does hs hfe hm (by simp [jumpsB]) (does_2 p a b2 cc n), if_neg (by show ¬ 2 = 20; omega)]
            exact rStep_2 p A c w hb hr hl hs ht f0 f1 f2 f3 hcut a b2 cc n hd hm
          · rw [stepV_does hs hfe hm (by simp [jumpsB]) (does_3 p a b2 cc n), if_neg (by show ¬ 3 = 20; omega)]
            exact rStep_3 p A c w hb hr hl hs ht f0 f1 f2 f3 hcut a b2 cc n hd hm
          · rw [stepV_does hs hfe hm (by simp [jumpsB]) (does_4 p a b2 cc n), if_neg (by show ¬ 4 = 20; omega)]
            exact rStep_4 p A c w hb hr hl hs ht f0 f1 f2 f3 hcut a b2 cc n hd hm
          · rw [stepV_does hs hfe hm (by simp [jumpsB]) (does_5 p a b2 cc n), if_neg (by show ¬ 5 = 20; omega)]
            exact rStep_5 p A c w hb hr hl hs ht f0 f1 f2 f3 hcut a b2 cc n hd hm
          · rw [stepV_does hs hfe hm (by simp [jumpsB]) (does_6 p a b2 cc n), if_neg (by show ¬ 6 = 20; omega)]
            exact rStep_6 p A c w hb hr hl hs ht f0 f1 f2 f3 hcut a b2 cc n hd hm
          · rw [stepV_does hs hfe hm (by simp [jumpsB]) (does_7 p a b2 cc n), if_neg (by show ¬ 7 = 20; omega)]
            exact rStep_7 p A c w hb hr hl hs ht f0 f1 f2 f3 hcut a b2 cc n hd hm
          · rw [stepV_does hs hfe hm (by simp [jumpsB]) (does_8 p a b2 cc n), if_neg (by show ¬ 8 = 20; omega)]
            exact rStep_8 p A c w hb hr hl hs ht f0 f1 f2 f3 hcut a b2 cc n hd hm
          · rw [stepV_does hs hfe hm (by simp [jumpsB]) (does_9 p a b2 cc n), if_neg (by show ¬ 9 = 20; omega)]
            exact rStep_9 p A c w hb hr hl hs ht f0 f1 f2 f3 hcut a b2 cc n hd hm
          · rw [stepV_does hs hfe hm (by simp [jumpsB]) (does_10 p a b2 cc n), if_neg (by show ¬ 10 = 20; omega)]
            exact rStep_10 p A c w hb hr hl hs ht f0 f1 f2 f3 hcut a b2 cc n hd hm
          · rw [stepV_does hs hfe hm (by simp [jumpsB]) (does_11 p a b2 cc n), if_neg (by show ¬ 11 = 20; omega)]
            exact rStep_11 p A c w hb hr hl hs ht f0 f1 f2 f3 hcut a b2 cc n hd hm
          · rw [stepV_does hs hfe hm (by simp [jumpsB]) (does_12 p a b2 cc n), if_neg (by show ¬ 12 = 20; omega)]
            exact rStep_12 p A c w hb hr hl hs ht f0 f1 f2 f3 hcut a b2 cc n hd hm
          · cases hth : there p.mem (p.g b2 + n) 1 with
            | true =>
              rw [stepV_does hs hfe hm (by simp [jumpsB]) (does_13 p a b2 cc n hth), if_neg (by show ¬ 13 = 20; omega)]
              exact rStep_13 p A c w hb hr hl hs ht f0 f1 f2 f3 hcut a b2 cc n hd hm hth
            | false =>
              rw [stepV_fail hs hfe hm (by simp [jumpsB]) (does_13n p a b2 cc n hth)]
              exact rStep_13n p A c w hb hr hl hs ht f0 f1 f2 f3 hcut a b2 cc n hd hm hth
          · cases hth : there p.mem (p.g b2 + n) 1 with
            | true =>
              rw [stepV_does hs hfe hm (by simp [jumpsB]) (does_14 p a b2 cc n hth), if_neg (by show ¬ 14 = 20; omega)]
              exact rStep_14 p A c w hb hr hl hs ht f0 f1 f2 f3 hcut a b2 cc n hd hm hth
            | false =>
              rw [stepV_fail hs hfe hm (by simp [jumpsB]) (does_14n p a b2 cc n hth)]
              exact rStep_14n p A c w hb hr hl hs ht f0 f1 f2 f3 hcut a b2 cc n hd hm hth
          · cases hth : there p.mem (p.g b2 + n) 4 with
            | true =>
              rw [stepV_does hs hfe hm (by simp [jumpsB]) (does_15 p a b2 cc n hth), if_neg (by show ¬ 15 = 20; omega)]
              exact rStep_15 p A c w hb hr hl hs ht f0 f1 f2 f3 hcut a b2 cc n hd hm hth
            | false =>
              rw [stepV_fail hs hfe hm (by simp [jumpsB]) (does_15n p a b2 cc n hth)]
              exact rStep_15n p A c w hb hr hl hs ht f0 f1 f2 f3 hcut a b2 cc n hd hm hth
          · cases hth : there p.mem (p.g b2 + n) 4 with
            | true =>
              rw [stepV_does hs hfe hm (by simp [jumpsB]) (does_16 p a b2 cc n hth), if_neg (by show ¬ 16 = 20; omega)]
              exact rStep_16 p A c w hb hr hl hs ht f0 f1 f2 f3 hcut a b2 cc n hd hm hth
            | false =>
              rw [stepV_fail hs hfe hm (by simp [jumpsB]) (does_16n p a b2 cc n hth)]
              exact rStep_16n p A c w hb hr hl hs ht f0 f1 f2 f3 hcut a b2 cc n hd hm hth
          · rw [stepV_jump hs hfe hm (by simp [jumpsB])]
            exact rStep_j17 p A c w hb hr hl hs ht f0 f1 f2 f3 hcut a b2 cc n hd hm
          · by_cases hz : p.g a = 0
            · rw [stepV_jump hs hfe hm (by simp [jumpsB, hz])]
              exact rStep_j18 p A c w hb hr hl hs ht f0 f1 f2 f3 hcut a b2 cc n hd hm hz
            · rw [stepV_does hs hfe hm (by simp [jumpsB, hz]) (does_18 p a b2 cc n), if_neg (by show ¬ 18 = 20; omega)]
              exact rStep_18 p A c w hb hr hl hs ht f0 f1 f2 f3 hcut a b2 cc n hd hm hz
          · by_cases hz : p.g a = 0
            · rw [stepV_does hs hfe hm (by simp [jumpsB, hz]) (does_19 p a b2 cc n), if_neg (by show ¬ 19 = 20; omega)]
              exact rStep_19 p A c w hb hr hl hs ht f0 f1 f2 f3 hcut a b2 cc n hd hm hz
            · rw [stepV_jump hs hfe hm (by simp [jumpsB, hz])]
              exact rStep_j19 p A c w hb hr hl hs ht f0 f1 f2 f3 hcut a b2 cc n hd hm hz
          · rw [stepV_does hs hfe hm (by simp [jumpsB]) (does_20 p a b2 cc n), if_pos rfl]
            exact rStep_20 p A c w hb hr hl hs ht f0 f1 f2 f3 hcut a b2 cc n hd hm
          · rw [stepV_does hs hfe hm (by simp [jumpsB]) (does_21 p a b2 cc n), if_neg (by show ¬ 21 = 20; omega)]
            exact rStep_21 p A c w hb hr hl hs ht f0 f1 f2 f3 hcut a b2 cc n hd hm
  · rw [stepV_stop hs]
    exact rStep_stop p A c w hb hr hl hs

/-- are two partitions the same? -/
def sameB (p q : Pt) : Bool := (p.id == q.id) && ((p.size == q.size) && ((p.keep == q.keep) && (decide (p.r = q.r) && (((p.pc : Int) == (q.pc : Int)) && (((p.st : Int) == (q.st : Int)) && decide (p.mem = q.mem))))))
theorem sameB_refl (p : Pt) : sameB p p = true := by simp [sameB]
theorem list8 {l : List Nat} (h : l.length = 8) : l = [l.getD 0 0, l.getD 1 0, l.getD 2 0, l.getD 3 0, l.getD 4 0, l.getD 5 0, l.getD 6 0, l.getD 7 0] := by
  match l, h with
  | [a, b, c, d, e, f, g, i], _ => rfl
theorem regLits_inj {p q : Pt} (hp : p.r.length = 8) (hq : q.r.length = 8) : regLits p = regLits q ↔ p.r = q.r := by
  constructor
  · intro h
    rw [list8 hp, list8 hq]
    simp only [regLits, List.cons.injEq, Lit.int.injEq, true_and, and_true, Pt.g] at h
    obtain ⟨h0, h1, h2, h3, h4, h5, h6, h7⟩ := h
    rw [show p.r.getD 0 0 = q.r.getD 0 0 by omega, show p.r.getD 1 0 = q.r.getD 1 0 by omega, show p.r.getD 2 0 = q.r.getD 2 0 by omega, show p.r.getD 3 0 = q.r.getD 3 0 by omega, show p.r.getD 4 0 = q.r.getD 4 0 by omega, show p.r.getD 5 0 = q.r.getD 5 0 by omega, show p.r.getD 6 0 = q.r.getD 6 0 by omega, show p.r.getD 7 0 = q.r.getD 7 0 by omega]
  · intro h
    simp only [regLits, Pt.g, h]
theorem eq_regs (p q : Pt) (hp : p.Bd) (hq : q.Bd) (w : World) : (binOp .eql 23 (.agg (regC p)) (.agg (regC q))).run Tryz.prog w = .ok (.bool (decide (p.r = q.r))) w :=
  (eq_agg (P := Tryz.prog) (t := 23) (regLits_inj hp.r8 hq.r8) 3 (by omega) (by kernel_rfl) (reg_formed p) (reg_formed q) (keyLits_reg p hp) (keyLits_reg q hq) w).1
theorem lst_eq (l m : List UInt8) : (l == m) = decide (l = m) := by
  rw [Bool.eq_iff_iff]
  simp
set_option maxRecDepth 100000 in
set_option maxHeartbeats 4000000 in
theorem vSame_0 (p q : Pt) (A1 A2 : Option Addr) (c1 c2 : Nat) (w : World) (hb : p.Bd) (hbq : q.Bd) (h1 : Rd w A1 p.mem) (h2 : Rd w A2 q.mem) (e0 : ((p.id : Int) == q.id) = false) :
    Calls Tryz.prog 15 #[.agg (partC p (.slice A1 p.mem.length c1)), .agg (partC q (.slice A2 q.mem.length c2))] w fun e w' => e = .returned (.bool false) ∧ Chg Non w w' := by
  have h8 := hb.r8
  have hq8 := hbq.r8
  have hg0 : Chg Non w ((w.alloc (.cells (partC p (.slice A1 p.mem.length c1)) 26)).alloc (.cells (partC q (.slice A2 q.mem.length c2)) 26)) := ((Chg.refl Non w).alloc _).alloc _
  have hp1 : PartB ((w.alloc (.cells (partC p (.slice A1 p.mem.length c1)) 26)).alloc (.cells (partC q (.slice A2 q.mem.length c2)) 26)) w.heap.size p (.slice A1 p.mem.length c1) := ⟨al_2_0 _ _ _, h8⟩
  have hp2 : PartB ((w.alloc (.cells (partC p (.slice A1 p.mem.length c1)) 26)).alloc (.cells (partC q (.slice A2 q.mem.length c2)) 26)) (w.heap.size + 1) q (.slice A2 q.mem.length c2) := ⟨al_2_1 _ _ _, hq8⟩
  have hs1 := str_of A1 p.mem c1 _ (h1.non hg0)
  have hs2 := str_of A2 q.mem c2 _ (h2.non hg0)
  obtain ⟨C1, hC1⟩ : ∃ C, partC p (.slice A1 p.mem.length c1) = C := ⟨_, rfl⟩
  obtain ⟨C2, hC2⟩ : ∃ C, partC q (.slice A2 q.mem.length c2) = C := ⟨_, rfl⟩
  have z1 : C1.size = 14 := by rw [← hC1]; exact partC_size h8 _
  have z2 : C2.size = 14 := by rw [← hC2]; exact partC_size hq8 _
  rw [hC1, hC2] at hp1 hp2 hg0 hs1 hs2 ⊢
  clear hC1 hC2
  have HP1 := Lib.hid hp1
  have HP2 := Lib.hid hp2
  have HG0 := Lib.hid hg0
  obtain ⟨a0, a1, a2, a3, a4, a5⟩ := hp1.cells
  obtain ⟨d0, d1, d2, d3, d4, d5⟩ := hp2.cells
  clear hp1 hp2 hg0 h1 h2 hs1 hs2
  go_enter Tryz.func15, Tryz.ntmps15
  go_wp2_with fail
  go_ret
  exact ⟨rfl, HG0.out⟩
set_option maxRecDepth 100000 in
set_option maxHeartbeats 4000000 in
theorem vSame_1 (p q : Pt) (A1 A2 : Option Addr) (c1 c2 : Nat) (w : World) (hb : p.Bd) (hbq : q.Bd) (h1 : Rd w A1 p.mem) (h2 : Rd w A2 q.mem) (e0 : ((p.id : Int) == q.id) = true) (e1 : ((p.size : Int) == q.size) = false) :
    Calls Tryz.prog 15 #[.agg (partC p (.slice A1 p.mem.length c1)), .agg (partC q (.slice A2 q.mem.length c2))] w fun e w' => e = .returned (.bool false) ∧ Chg Non w w' := by
  have h8 := hb.r8
  have hq8 := hbq.r8
  have hg0 : Chg Non w ((w.alloc (.cells (partC p (.slice A1 p.mem.length c1)) 26)).alloc (.cells (partC q (.slice A2 q.mem.length c2)) 26)) := ((Chg.refl Non w).alloc _).alloc _
  have hp1 : PartB ((w.alloc (.cells (partC p (.slice A1 p.mem.length c1)) 26)).alloc (.cells (partC q (.slice A2 q.mem.length c2)) 26)) w.heap.size p (.slice A1 p.mem.length c1) := ⟨al_2_0 _ _ _, h8⟩
  have hp2 : PartB ((w.alloc (.cells (partC p (.slice A1 p.mem.length c1)) 26)).alloc (.cells (partC q (.slice A2 q.mem.length c2)) 26)) (w.heap.size + 1) q (.slice A2 q.mem.length c2) := ⟨al_2_1 _ _ _, hq8⟩
  have hs1 := str_of A1 p.mem c1 _ (h1.non hg0)
  have hs2 := str_of A2 q.mem c2 _ (h2.non hg0)
  obtain ⟨C1, hC1⟩ : ∃ C, partC p (.slice A1 p.mem.length c1) = C := ⟨_, rfl⟩
  obtain ⟨C2, hC2⟩ : ∃ C, partC q (.slice A2 q.mem.length c2) = C := ⟨_, rfl⟩
  have z1 : C1.size = 14 := by rw [← hC1]; exact partC_size h8 _
  have z2 : C2.size = 14 := by rw [← hC2]; exact partC_size hq8 _
  rw [hC1, hC2] at hp1 hp2 hg0 hs1 hs2 ⊢
  clear hC1 hC2
  have HP1 := Lib.hid hp1
  have HP2 := Lib.hid hp2
  have HG0 := Lib.hid hg0
  obtain ⟨a0, a1, a2, a3, a4, a5⟩ := hp1.cells
  obtain ⟨d0, d1, d2, d3, d4, d5⟩ := hp2.cells
  clear hp1 hp2 hg0 h1 h2 hs1 hs2
  go_enter Tryz.func15, Tryz.ntmps15
  go_wp2_with fail
  go_ret
  exact ⟨rfl, HG0.out⟩
set_option maxRecDepth 100000 in
set_option maxHeartbeats 4000000 in
theorem vSame_2 (p q : Pt) (A1 A2 : Option Addr) (c1 c2 : Nat) (w : World) (hb : p.Bd) (hbq : q.Bd) (h1 : Rd w A1 p.mem) (h2 : Rd w A2 q.mem) (e0 : ((p.id : Int) == q.id) = true) (e1 : ((p.size : Int) == q.size) = true) (e2 : (p.keep == q.keep) = false) :
    Calls Tryz.prog 15 #[.agg (partC p (.slice A1 p.mem.length c1)), .agg (partC q (.slice A2 q.mem.length c2))] w fun e w' => e = .returned (.bool false) ∧ Chg Non w w' := by
  have h8 := hb.r8
  have hq8 := hbq.r8
  have hg0 : Chg Non w ((w.alloc (.cells (partC p (.slice A1 p.mem.length c1)) 26)).alloc (.cells (partC q (.slice A2 q.mem.length c2)) 26)) := ((Chg.refl Non w).alloc _).alloc _
  have hp1 : PartB ((w.alloc (.cells (partC p (.slice A1 p.mem.length c1)) 26)).alloc (.cells (partC q (.slice A2 q.mem.length c2)) 26)) w.heap.size p (.slice A1 p.mem.length c1) := ⟨al_2_0 _ _ _, h8⟩
  have hp2 : PartB ((w.alloc (.cells (partC p (.slice A1 p.mem.length c1)) 26)).alloc (.cells (partC q (.slice A2 q.mem.length c2)) 26)) (w.heap.size + 1) q (.slice A2 q.mem.length c2) := ⟨al_2_1 _ _ _, hq8⟩
  have hs1 := str_of A1 p.mem c1 _ (h1.non hg0)
  have hs2 := str_of A2 q.mem c2 _ (h2.non hg0)
  obtain ⟨C1, hC1⟩ : ∃ C, partC p (.slice A1 p.mem.length c1) = C := ⟨_, rfl⟩
  obtain ⟨C2, hC2⟩ : ∃ C, partC q (.slice A2 q.mem.length c2) = C := ⟨_, rfl⟩
  have z1 : C1.size = 14 := by rw [← hC1]; exact partC_size h8 _
  have z2 : C2.size = 14 := by rw [← hC2]; exact partC_size hq8 _
  rw [hC1, hC2] at hp1 hp2 hg0 hs1 hs2 ⊢
  clear hC1 hC2
  have HP1 := Lib.hid hp1
  have HP2 := Lib.hid hp2
  have HG0 := Lib.hid hg0
  obtain ⟨a0, a1, a2, a3, a4, a5⟩ := hp1.cells
  obtain ⟨d0, d1, d2, d3, d4, d5⟩ := hp2.cells
  clear hp1 hp2 hg0 h1 h2 hs1 hs2
  go_enter Tryz.func15, Tryz.ntmps15
  go_wp2_with fail
  go_ret
  exact ⟨rfl, HG0.out⟩
set_option maxRecDepth 100000 in
set_option maxHeartbeats 4000000 in
theorem vSame_3 (p q : Pt) (A1 A2 : Option Addr) (c1 c2 : Nat) (w : World) (hb : p.Bd) (hbq : q.Bd) (h1 : Rd w A1 p.mem) (h2 : Rd w A2 q.mem) (e0 : ((p.id : Int) == q.id) = true) (e1 : ((p.size : Int) == q.size) = true) (e2 : (p.keep == q.keep) = true) (e3 : decide (p.r = q.r) = false) :
    Calls Tryz.prog 15 #[.agg (partC p (.slice A1 p.mem.length c1)), .agg (partC q (.slice A2 q.mem.length c2))] w fun e w' => e = .returned (.bool false) ∧ Chg Non w w' := by
  have h8 := hb.r8
  have hq8 := hbq.r8
  have hg0 : Chg Non w ((w.alloc (.cells (partC p (.slice A1 p.mem.length c1)) 26)).alloc (.cells (partC q (.slice A2 q.mem.length c2)) 26)) := ((Chg.refl Non w).alloc _).alloc _
  have hp1 : PartB ((w.alloc (.cells (partC p (.slice A1 p.mem.length c1)) 26)).alloc (.cells (partC q (.slice A2 q.mem.length c2)) 26)) w.heap.size p (.slice A1 p.mem.length c1) := ⟨al_2_0 _ _ _, h8⟩
  have hp2 : PartB ((w.alloc (.cells (partC p (.slice A1 p.mem.length c1)) 26)).alloc (.cells (partC q (.slice A2 q.mem.length c2)) 26)) (w.heap.size + 1) q (.slice A2 q.mem.length c2) := ⟨al_2_1 _ _ _, hq8⟩
  have hs1 := str_of A1 p.mem c1 _ (h1.non hg0)
  have hs2 := str_of A2 q.mem c2 _ (h2.non hg0)
  obtain ⟨C1, hC1⟩ : ∃ C, partC p (.slice A1 p.mem.length c1) = C := ⟨_, rfl⟩
  obtain ⟨C2, hC2⟩ : ∃ C, partC q (.slice A2 q.mem.length c2) = C := ⟨_, rfl⟩
  have z1 : C1.size = 14 := by rw [← hC1]; exact partC_size h8 _
  have z2 : C2.size = 14 := by rw [← hC2]; exact partC_size hq8 _
  rw [hC1, hC2] at hp1 hp2 hg0 hs1 hs2 ⊢
  clear hC1 hC2
  have HP1 := Lib.hid hp1
  have HP2 := Lib.hid hp2
  have HG0 := Lib.hid hg0
  have he8 := eq_regs p q hb hbq
  rw [e3] at he8
  obtain ⟨a0, a1, a2, a3, a4, a5⟩ := hp1.cells
  obtain ⟨d0, d1, d2, d3, d4, d5⟩ := hp2.cells
  clear hp1 hp2 hg0 h1 h2 hs1 hs2 e3
  go_enter Tryz.func15, Tryz.ntmps15
  go_wp2_with (first
    | (refine sel (some 26) (.load _ (.tmp 25)) ?_; refine Vm_stop ?_))
  refine HoleV.mk ?_
  refine wpList_loadW (some 26) 23 (.tmp 25) w.heap.size 3 (regC p) _ rfl rfl (by kernel_rfl) rfl HP1.out.regs Tryz.underlying23 rfl info_reg ?_
  go_wp2_with (first
    | (refine sel (some 28) (.load _ (.tmp 27)) ?_; refine Vm_stop ?_))
  refine HoleV.mk ?_
  refine wpList_loadW (some 28) 23 (.tmp 27) (w.heap.size + 1) 3 (regC q) _ rfl rfl (by kernel_rfl) rfl HP2.out.regs Tryz.underlying23 rfl info_reg ?_
  go_wp2_with fail
  go_ret
  exact ⟨rfl, HG0.out⟩
set_option maxRecDepth 100000 in
set_option maxHeartbeats 4000000 in
theorem vSame_4 (p q : Pt) (A1 A2 : Option Addr) (c1 c2 : Nat) (w : World) (hb : p.Bd) (hbq : q.Bd) (h1 : Rd w A1 p.mem) (h2 : Rd w A2 q.mem) (e0 : ((p.id : Int) == q.id) = true) (e1 : ((p.size : Int) == q.size) = true) (e2 : (p.keep == q.keep) = true) (e3 : decide (p.r = q.r) = true) (e4 : ((p.pc : Int) == (q.pc : Int)) = false) :
    Calls Tryz.prog 15 #[.agg (partC p (.slice A1 p.mem.length c1)), .agg (partC q (.slice A2 q.mem.length c2))] w fun e w' => e = .returned (.bool false) ∧ Chg Non w w' := by
  have h8 := hb.r8
  have hq8 := hbq.r8
  have hg0 : Chg Non w ((w.alloc (.cells (partC p (.slice A1 p.mem.length c1)) 26)).alloc (.cells (partC q (.slice A2 q.mem.length c2)) 26)) := ((Chg.refl Non w).alloc _).alloc _
  have hp1 : PartB ((w.alloc (.cells (partC p (.slice A1 p.mem.length c1)) 26)).alloc (.cells (partC q (.slice A2 q.mem.length c2)) 26)) w.heap.size p (.slice A1 p.mem.length c1) := ⟨al_2_0 _ _ _, h8⟩
  have hp2 : PartB ((w.alloc (.cells (partC p (.slice A1 p.mem.length c1)) 26)).alloc (.cells (partC q (.slice A2 q.mem.length c2)) 26)) (w.heap.size + 1) q (.slice A2 q.mem.length c2) := ⟨al_2_1 _ _ _, hq8⟩
  have hs1 := str_of A1 p.mem c1 _ (h1.non hg0)
  have hs2 := str_of A2 q.mem c2 _ (h2.non hg0)
  obtain ⟨C1, hC1⟩ : ∃ C, partC p (.slice A1 p.mem.length c1) = C := ⟨_, rfl⟩
  obtain ⟨C2, hC2⟩ : ∃ C, partC q (.slice A2 q.mem.length c2) = C := ⟨_, rfl⟩
  have z1 : C1.size = 14 := by rw [← hC1]; exact partC_size h8 _
  have z2 : C2.size = 14 := by rw [← hC2]; exact partC_size hq8 _
  rw [hC1, hC2] at hp1 hp2 hg0 hs1 hs2 ⊢
  clear hC1 hC2
  have HP1 := Lib.hid hp1
  have HP2 := Lib.hid hp2
  have HG0 := Lib.hid hg0
  have he8 := eq_regs p q hb hbq
  rw [e3] at he8
  obtain ⟨a0, a1, a2, a3, a4, a5⟩ := hp1.cells
  obtain ⟨d0, d1, d2, d3, d4, d5⟩ := hp2.cells
  clear hp1 hp2 hg0 h1 h2 hs1 hs2 e3
  go_enter Tryz.func15, Tryz.ntmps15
  go_wp2_with (first
    | (refine sel (some 26) (.load _ (.tmp 25)) ?_; refine Vm_stop ?_))
  refine HoleV.mk ?_
  refine wpList_loadW (some 26) 23 (.tmp 25) w.heap.size 3 (regC p) _ rfl rfl (by kernel_rfl) rfl HP1.out.regs Tryz.underlying23 rfl info_reg ?_
  go_wp2_with (first
    | (refine sel (some 28) (.load _ (.tmp 27)) ?_; refine Vm_stop ?_))
  refine HoleV.mk ?_
  refine wpList_loadW (some 28) 23 (.tmp 27) (w.heap.size + 1) 3 (regC q) _ rfl rfl (by kernel_rfl) rfl HP2.out.regs Tryz.underlying23 rfl info_reg ?_
  go_wp2_with fail
  go_ret
  exact ⟨rfl, HG0.out⟩
set_option maxRecDepth 100000 in
set_option maxHeartbeats 4000000 in
theorem vSame_5 (p q : Pt) (A1 A2 : Option Addr) (c1 c2 : Nat) (w : World) (hb : p.Bd) (hbq : q.Bd) (h1 : Rd w A1 p.mem) (h2 : Rd w A2 q.mem) (e0 : ((p.id : Int) == q.id) = true) (e1 : ((p.size : Int) == q.size) = true) (e2 : (p.keep == q.keep) = true) (e3 : decide (p.r = q.r) = true) (e4 : ((p.pc : Int) == (q.pc : Int)) = true) (e5 : ((p.st : Int) == (q.st : Int)) = false) :
    Calls Tryz.prog 15 #[.agg (partC p (.slice A1 p.mem.length c1)), .agg (partC q (.slice A2 q.mem.length c2))] w fun e w' => e = .returned (.bool false) ∧ Chg Non w w' := by
  have h8 := hb.r8
  have hq8 := hbq.r8
  have hg0 : Chg Non w ((w.alloc (.cells (partC p (.slice A1 p.mem.length c1)) 26)).alloc (.cells (partC q (.slice A2 q.mem.length c2)) 26)) := ((Chg.refl Non w).alloc _).alloc _
  have hp1 : PartB ((w.alloc (.cells (partC p (.slice A1 p.mem.length c1)) 26)).alloc (.cells (partC q (.slice A2 q.mem.length c2)) 26)) w.heap.size p (.slice A1 p.mem.length c1) := ⟨al_2_0 _ _ _, h8⟩
  have hp2 : PartB ((w.alloc (.cells (partC p (.slice A1 p.mem.length c1)) 26)).alloc (.cells (partC q (.slice A2 q.mem.length c2)) 26)) (w.heap.size + 1) q (.slice A2 q.mem.length c2) := ⟨al_2_1 _ _ _, hq8⟩
  have hs1 := str_of A1 p.mem c1 _ (h1.non hg0)
  have hs2 := str_of A2 q.mem c2 _ (h2.non hg0)
  obtain ⟨C1, hC1⟩ : ∃ C, partC p (.slice A1 p.mem.length c1) = C := ⟨_, rfl⟩
  obtain ⟨C2, hC2⟩ : ∃ C, partC q (.slice A2 q.mem.length c2) = C := ⟨_, rfl⟩
  have z1 : C1.size = 14 := by rw [← hC1]; exact partC_size h8 _
  have z2 : C2.size = 14 := by rw [← hC2]; exact partC_size hq8 _
  rw [hC1, hC2] at hp1 hp2 hg0 hs1 hs2 ⊢
  clear hC1 hC2
  have HP1 := Lib.hid hp1
  have HP2 := Lib.hid hp2
  have HG0 := Lib.hid hg0
  have he8 := eq_regs p q hb hbq
  rw [e3] at he8
  obtain ⟨a0, a1, a2, a3, a4, a5⟩ := hp1.cells
  obtain ⟨d0, d1, d2, d3, d4, d5⟩ := hp2.cells
  clear hp1 hp2 hg0 h1 h2 hs1 hs2 e3
  go_enter Tryz.func15, Tryz.ntmps15
  go_wp2_with (first
    | (refine sel (some 26) (.load _ (.tmp 25)) ?_; refine Vm_stop ?_))
  refine HoleV.mk ?_
  refine wpList_loadW (some 26) 23 (.tmp 25) w.heap.size 3 (regC p) _ rfl rfl (by kernel_rfl) rfl HP1.out.regs Tryz.underlying23 rfl info_reg ?_
  go_wp2_with (first
    | (refine sel (some 28) (.load _ (.tmp 27)) ?_; refine Vm_stop ?_))
  refine HoleV.mk ?_
  refine wpList_loadW (some 28) 23 (.tmp 27) (w.heap.size + 1) 3 (regC q) _ rfl rfl (by kernel_rfl) rfl HP2.out.regs Tryz.underlying23 rfl info_reg ?_
  go_wp2_with fail
  go_ret
  exact ⟨rfl, HG0.out⟩
set_option maxRecDepth 100000 in
set_option maxHeartbeats 4000000 in
theorem vSame_6 (p q : Pt) (A1 A2 : Option Addr) (c1 c2 : Nat) (w : World) (hb : p.Bd) (hbq : q.Bd) (h1 : Rd w A1 p.mem) (h2 : Rd w A2 q.mem) (e0 : ((p.id : Int) == q.id) = true) (e1 : ((p.size : Int) == q.size) = true) (e2 : (p.keep == q.keep) = true) (e3 : decide (p.r = q.r) = true) (e4 : ((p.pc : Int) == (q.pc : Int)) = true) (e5 : ((p.st : Int) == (q.st : Int)) = true) (e6 : decide (p.mem = q.mem) = false) :
    Calls Tryz.prog 15 #[.agg (partC p (.slice A1 p.mem.length c1)), .agg (partC q (.slice A2 q.mem.length c2))] w fun e w' => e = .returned (.bool false) ∧ Chg Non w w' := by
  have h8 := hb.r8
  have hq8 := hbq.r8
  have hg0 : Chg Non w ((w.alloc (.cells (partC p (.slice A1 p.mem.length c1)) 26)).alloc (.cells (partC q (.slice A2 q.mem.length c2)) 26)) := ((Chg.refl Non w).alloc _).alloc _
  have hp1 : PartB ((w.alloc (.cells (partC p (.slice A1 p.mem.length c1)) 26)).alloc (.cells (partC q (.slice A2 q.mem.length c2)) 26)) w.heap.size p (.slice A1 p.mem.length c1) := ⟨al_2_0 _ _ _, h8⟩
  have hp2 : PartB ((w.alloc (.cells (partC p (.slice A1 p.mem.length c1)) 26)).alloc (.cells (partC q (.slice A2 q.mem.length c2)) 26)) (w.heap.size + 1) q (.slice A2 q.mem.length c2) := ⟨al_2_1 _ _ _, hq8⟩
  have hs1 := str_of A1 p.mem c1 _ (h1.non hg0)
  have hs2 := str_of A2 q.mem c2 _ (h2.non hg0)
  obtain ⟨C1, hC1⟩ : ∃ C, partC p (.slice A1 p.mem.length c1) = C := ⟨_, rfl⟩
  obtain ⟨C2, hC2⟩ : ∃ C, partC q (.slice A2 q.mem.length c2) = C := ⟨_, rfl⟩
  have z1 : C1.size = 14 := by rw [← hC1]; exact partC_size h8 _
  have z2 : C2.size = 14 := by rw [← hC2]; exact partC_size hq8 _
  rw [hC1, hC2] at hp1 hp2 hg0 hs1 hs2 ⊢
  clear hC1 hC2
  have HP1 := Lib.hid hp1
  have HP2 := Lib.hid hp2
  have HG0 := Lib.hid hg0
  have he8 := eq_regs p q hb hbq
  rw [e3] at he8
  have heq := Tryz.bytes_Equal_strs _ _ _ _ _ hs1 hs2
  rw [ByteArray.toList_mk, ByteArray.toList_mk, lst_eq, e6] at heq
  have HEq := Lib.hid heq
  obtain ⟨a0, a1, a2, a3, a4, a5⟩ := hp1.cells
  obtain ⟨d0, d1, d2, d3, d4, d5⟩ := hp2.cells
  clear hp1 hp2 hg0 h1 h2 hs1 hs2 heq e3 e6
  go_enter Tryz.func15, Tryz.ntmps15
  go_wp2_with (first
    | (refine sel (some 26) (.load _ (.tmp 25)) ?_; refine Vm_stop ?_))
  refine HoleV.mk ?_
  refine wpList_loadW (some 26) 23 (.tmp 25) w.heap.size 3 (regC p) _ rfl rfl (by kernel_rfl) rfl HP1.out.regs Tryz.underlying23 rfl info_reg ?_
  go_wp2_with (first
    | (refine sel (some 28) (.load _ (.tmp 27)) ?_; refine Vm_stop ?_))
  refine HoleV.mk ?_
  refine wpList_loadW (some 28) 23 (.tmp 27) (w.heap.size + 1) 3 (regC q) _ rfl rfl (by kernel_rfl) rfl HP2.out.regs Tryz.underlying23 rfl info_reg ?_
  go_wp2_with fail
  refine HEq.out.mono ?_
  rintro e w' ⟨rfl, rfl⟩
  go_wp2_with fail
  go_ret
  exact ⟨rfl, HG0.out⟩
set_option maxRecDepth 100000 in
set_option maxHeartbeats 4000000 in
theorem vSame_7 (p q : Pt) (A1 A2 : Option Addr) (c1 c2 : Nat) (w : World) (hb : p.Bd) (hbq : q.Bd) (h1 : Rd w A1 p.mem) (h2 : Rd w A2 q.mem) (e0 : ((p.id : Int) == q.id) = true) (e1 : ((p.size : Int) == q.size) = true) (e2 : (p.keep == q.keep) = true) (e3 : decide (p.r = q.r) = true) (e4 : ((p.pc : Int) == (q.pc : Int)) = true) (e5 : ((p.st : Int) == (q.st : Int)) = true) (e6 : decide (p.mem = q.mem) = true) :
    Calls Tryz.prog 15 #[.agg (partC p (.slice A1 p.mem.length c1)), .agg (partC q (.slice A2 q.mem.length c2))] w fun e w' => e = .returned (.bool true) ∧ Chg Non w w' := by
  have h8 := hb.r8
  have hq8 := hbq.r8
  have hg0 : Chg Non w ((w.alloc (.cells (partC p (.slice A1 p.mem.length c1)) 26)).alloc (.cells (partC q (.slice A2 q.mem.length c2)) 26)) := ((Chg.refl Non w).alloc _).alloc _
  have hp1 : PartB ((w.alloc (.cells (partC p (.slice A1 p.mem.length c1)) 26)).alloc (.cells (partC q (.slice A2 q.mem.length c2)) 26)) w.heap.size p (.slice A1 p.mem.length c1) := ⟨al_2_0 _ _ _, h8⟩
  have hp2 : PartB ((w.alloc (.cells (partC p (.slice A1 p.mem.length c1)) 26)).alloc (.cells (partC q (.slice A2 q.mem.length c2)) 26)) (w.heap.size + 1) q (.slice A2 q.mem.length c2) := ⟨al_2_1 _ _ _, hq8⟩
  have hs1 := str_of A1 p.mem c1 _ (h1.non hg0)
  have hs2 := str_of A2 q.mem c2 _ (h2.non hg0)
  obtain ⟨C1, hC1⟩ : ∃ C, partC p (.slice A1 p.mem.length c1) = C := ⟨_, rfl⟩
  obtain ⟨C2, hC2⟩ : ∃ C, partC q (.slice A2 q.mem.length c2) = C := ⟨_, rfl⟩
  have z1 : C1.size = 14 := by rw [← hC1]; exact partC_size h8 _
  have z2 : C2.size = 14 := by rw [← hC2]; exact partC_size hq8 _
  rw [hC1, hC2] at hp1 hp2 hg0 hs1 hs2 ⊢
  clear hC1 hC2
  have HP1 := Lib.hid hp1
  have HP2 := Lib.hid hp2
  have HG0 := Lib.hid hg0
  have he8 := eq_regs p q hb hbq
  rw [e3] at he8
  have heq := Tryz.bytes_Equal_strs _ _ _ _ _ hs1 hs2
  rw [ByteArray.toList_mk, ByteArray.toList_mk, lst_eq, e6] at heq
  have HEq := Lib.hid heq
  obtain ⟨a0, a1, a2, a3, a4, a5⟩ := hp1.cells
  obtain ⟨d0, d1, d2, d3, d4, d5⟩ := hp2.cells
  clear hp1 hp2 hg0 h1 h2 hs1 hs2 heq e3 e6
  go_enter Tryz.func15, Tryz.ntmps15
  go_wp2_with (first
    | (refine sel (some 26) (.load _ (.tmp 25)) ?_; refine Vm_stop ?_))
  refine HoleV.mk ?_
  refine wpList_loadW (some 26) 23 (.tmp 25) w.heap.size 3 (regC p) _ rfl rfl (by kernel_rfl) rfl HP1.out.regs Tryz.underlying23 rfl info_reg ?_
  go_wp2_with (first
    | (refine sel (some 28) (.load _ (.tmp 27)) ?_; refine Vm_stop ?_))
  refine HoleV.mk ?_
  refine wpList_loadW (some 28) 23 (.tmp 27) (w.heap.size + 1) 3 (regC q) _ rfl rfl (by kernel_rfl) rfl HP2.out.regs Tryz.underlying23 rfl info_reg ?_
  go_wp2_with fail
  refine HEq.out.mono ?_
  rintro e w' ⟨rfl, rfl⟩
  go_wp2_with fail
  go_ret
  exact ⟨rfl, HG0.out⟩
theorem vSame_ok (p q : Pt) (A1 A2 : Option Addr) (c1 c2 : Nat) (w : World) (hb : p.Bd) (hbq : q.Bd) (h1 : Rd w A1 p.mem) (h2 : Rd w A2 q.mem) :
    Calls Tryz.prog 15 #[.agg (partC p (.slice A1 p.mem.length c1)), .agg (partC q (.slice A2 q.mem.length c2))] w fun e w' => e = .returned (.bool (sameB p q)) ∧ Chg Non w w' := by
  cases e0 : ((p.id : Int) == q.id) with
  | false =>
    rw [show sameB p q = false by simp only [sameB, e0, Bool.false_and]]
    exact vSame_0 p q A1 A2 c1 c2 w hb hbq h1 h2 e0
  | true =>
  cases e1 : ((p.size : Int) == q.size) with
  | false =>
    rw [show sameB p q = false by simp only [sameB, e0, e1, Bool.true_and, Bool.false_and]]
    exact vSame_1 p q A1 A2 c1 c2 w hb hbq h1 h2 e0 e1
  | true =>
  cases e2 : (p.keep == q.keep) with
  | false =>
    rw [show sameB p q = false by simp only [sameB, e0, e1, e2, Bool.true_and, Bool.false_and]]
    exact vSame_2 p q A1 A2 c1 c2 w hb hbq h1 h2 e0 e1 e2
  | true =>
  cases e3 : decide (p.r = q.r) with
  | false =>
    rw [show sameB p q = false by simp only [sameB, e0, e1, e2, e3, Bool.true_and, Bool.false_and]]
    exact vSame_3 p q A1 A2 c1 c2 w hb hbq h1 h2 e0 e1 e2 e3
  | true =>
  cases e4 : ((p.pc : Int) == (q.pc : Int)) with
  | false =>
    rw [show sameB p q = false by simp only [sameB, e0, e1, e2, e3, e4, Bool.true_and, Bool.false_and]]
    exact vSame_4 p q A1 A2 c1 c2 w hb hbq h1 h2 e0 e1 e2 e3 e4
  | true =>
  cases e5 : ((p.st : Int) == (q.st : Int)) with
  | false =>
    rw [show sameB p q = false by simp only [sameB, e0, e1, e2, e3, e4, e5, Bool.true_and, Bool.false_and]]
    exact vSame_5 p q A1 A2 c1 c2 w hb hbq h1 h2 e0 e1 e2 e3 e4 e5
  | true =>
  cases e6 : decide (p.mem = q.mem) with
  | false =>
    rw [show sameB p q = false by simp only [sameB, e0, e1, e2, e3, e4, e5, e6, Bool.true_and]]
    exact vSame_6 p q A1 A2 c1 c2 w hb hbq h1 h2 e0 e1 e2 e3 e4 e5 e6
  | true =>
  rw [show sameB p q = true by simp only [sameB, e0, e1, e2, e3, e4, e5, e6, Bool.true_and]]
  exact vSame_7 p q A1 A2 c1 c2 w hb hbq h1 h2 e0 e1 e2 e3 e4 e5 e6
set_option maxRecDepth 100000 in
set_option maxHeartbeats 4000000 in
theorem rSame_0 (p q : Pt) (A1 A2 : Option Addr) (c1 c2 : Nat) (w : World) (hb : p.Bd) (hbq : q.Bd) (h1 : Rd w A1 p.mem) (h2 : Rd w A2 q.mem) (e0 : ((p.id : Int) == q.id) = false) :
    Calls Tryz.prog 11 #[.agg (partC p (.slice A1 p.mem.length c1)), .agg (partC q (.slice A2 q.mem.length c2))] w fun e w' => e = .returned (.bool false) ∧ Chg Non w w' := by
  have h8 := hb.r8
  have hq8 := hbq.r8
  have hg0 : Chg Non w ((w.alloc (.cells (partC p (.slice A1 p.mem.length c1)) 26)).alloc (.cells (partC q (.slice A2 q.mem.length c2)) 26)) := ((Chg.refl Non w).alloc _).alloc _
  have hp1 : PartB ((w.alloc (.cells (partC p (.slice A1 p.mem.length c1)) 26)).alloc (.cells (partC q (.slice A2 q.mem.length c2)) 26)) w.heap.size p (.slice A1 p.mem.length c1) := ⟨al_2_0 _ _ _, h8⟩
  have hp2 : PartB ((w.alloc (.cells (partC p (.slice A1 p.mem.length c1)) 26)).alloc (.cells (partC q (.slice A2 q.mem.length c2)) 26)) (w.heap.size + 1) q (.slice A2 q.mem.length c2) := ⟨al_2_1 _ _ _, hq8⟩
  have hs1 := str_of A1 p.mem c1 _ (h1.non hg0)
  have hs2 := str_of A2 q.mem c2 _ (h2.non hg0)
  obtain ⟨C1, hC1⟩ : ∃ C, partC p (.slice A1 p.mem.length c1) = C := ⟨_, rfl⟩
  obtain ⟨C2, hC2⟩ : ∃ C, partC q (.slice A2 q.mem.length c2) = C := ⟨_, rfl⟩
  have z1 : C1.size = 14 := by rw [← hC1]; exact partC_size h8 _
  have z2 : C2.size = 14 := by rw [← hC2]; exact partC_size hq8 _
  rw [hC1, hC2] at hp1 hp2 hg0 hs1 hs2 ⊢
  clear hC1 hC2
  have HP1 := Lib.hid hp1
  have HP2 := Lib.hid hp2
  have HG0 := Lib.hid hg0
  obtain ⟨a0, a1, a2, a3, a4, a5⟩ := hp1.cells
  obtain ⟨d0, d1, d2, d3, d4, d5⟩ := hp2.cells
  clear hp1 hp2 hg0 h1 h2 hs1 hs2
  go_enter Tryz.func11, Tryz.ntmps11
  go_wp2_with fail
  go_ret
  exact ⟨rfl, HG0.out⟩
set_option maxRecDepth 100000 in
set_option maxHeartbeats 4000000 in
theorem rSame_1 (p q : Pt) (A1 A2 : Option Addr) (c1 c2 : Nat) (w : World) (hb : p.Bd) (hbq : q.Bd) (h1 : Rd w A1 p.mem) (h2 : Rd w A2 q.mem) (e0 : ((p.id : Int) == q.id) = true) (e1 : ((p.size : Int) == q.size) = false) :
    Calls Tryz.prog 11 #[.agg (partC p (.slice A1 p.mem.length c1)), .agg (partC q (.slice A2 q.mem.length c2))] w fun e w' => e = .returned (.bool false) ∧ Chg Non w w' := by
  have h8 := hb.r8
  have hq8 := hbq.r8
  have hg0 : Chg Non w ((w.alloc (.cells (partC p (.slice A1 p.mem.length c1)) 26)).alloc (.cells (partC q (.slice A2 q.mem.length c2)) 26)) := ((Chg.refl Non w).alloc _).alloc _
  have hp1 : PartB ((w.alloc (.cells (partC p (.slice A1 p.mem.length c1)) 26)).alloc (.cells (partC q (.slice A2 q.mem.length c2)) 26)) w.heap.size p (.slice A1 p.mem.length c1) := ⟨al_2_0 _ _ _, h8⟩
  have hp2 : PartB ((w.alloc (.cells (partC p (.slice A1 p.mem.length c1)) 26)).alloc (.cells (partC q (.slice A2 q.mem.length c2)) 26)) (w.heap.size + 1) q (.slice A2 q.mem.length c2) := ⟨al_2_1 _ _ _, hq8⟩
  have hs1 := str_of A1 p.mem c1 _ (h1.non hg0)
  have hs2 := str_of A2 q.mem c2 _ (h2.non hg0)
  obtain ⟨C1, hC1⟩ : ∃ C, partC p (.slice A1 p.mem.length c1) = C := ⟨_, rfl⟩
  obtain ⟨C2, hC2⟩ : ∃ C, partC q (.slice A2 q.mem.length c2) = C := ⟨_, rfl⟩
  have z1 : C1.size = 14 := by rw [← hC1]; exact partC_size h8 _
  have z2 : C2.size = 14 := by rw [← hC2]; exact partC_size hq8 _
  rw [hC1, hC2] at hp1 hp2 hg0 hs1 hs2 ⊢
  clear hC1 hC2
  have HP1 := Lib.hid hp1
  have HP2 := Lib.hid hp2
  have HG0 := Lib.hid hg0
  obtain ⟨a0, a1, a2, a3, a4, a5⟩ := hp1.cells
  obtain ⟨d0, d1, d2, d3, d4, d5⟩ := hp2.cells
  clear hp1 hp2 hg0 h1 h2 hs1 hs2
  go_enter Tryz.func11, Tryz.ntmps11
  go_wp2_with fail
  go_ret
  exact ⟨rfl, HG0.out⟩
set_option maxRecDepth 100000 in
set_option maxHeartbeats 4000000 in
theorem rSame_2 (p q : Pt) (A1 A2 : Option Addr) (c1 c2 : Nat) (w : World) (hb : p.Bd) (hbq : q.Bd) (h1 : Rd w A1 p.mem) (h2 : Rd w A2 q.mem) (e0 : ((p.id : Int) == q.id) = true) (e1 : ((p.size : Int) == q.size) = true) (e2 : (p.keep == q.keep) = false) :
    Calls Tryz.prog 11 #[.agg (partC p (.slice A1 p.mem.length c1)), .agg (partC q (.slice A2 q.mem.length c2))] w fun e w' => e = .returned (.bool false) ∧ Chg Non w w' := by
  have h8 := hb.r8
  have hq8 := hbq.r8
  have hg0 : Chg Non w ((w.alloc (.cells (partC p (.slice A1 p.mem.length c1)) 26)).alloc (.cells (partC q (.slice A2 q.mem.length c2)) 26)) := ((Chg.refl Non w).alloc _).alloc _
  have hp1 : PartB ((w.alloc (.cells (partC p (.slice A1 p.mem.length c1)) 26)).alloc (.cells (partC q (.slice A2 q.mem.length c2)) 26)) w.heap.size p (.slice A1 p.mem.length c1) := ⟨al_2_0 _ _ _, h8⟩
  have hp2 : PartB ((w.alloc (.cells (partC p (.slice A1 p.mem.length c1)) 26)).alloc (.cells (partC q (.slice A2 q.mem.length c2)) 26)) (w.heap.size + 1) q (.slice A2 q.mem.length c2) := ⟨al_2_1 _ _ _, hq8⟩
  have hs1 := str_of A1 p.mem c1 _ (h1.non hg0)
  have hs2 := str_of A2 q.mem c2 _ (h2.non hg0)
  obtain ⟨C1, hC1⟩ : ∃ C, partC p (.slice A1 p.mem.length c1) = C := ⟨_, rfl⟩
  obtain ⟨C2, hC2⟩ : ∃ C, partC q (.slice A2 q.mem.length c2) = C := ⟨_, rfl⟩
  have z1 : C1.size = 14 := by rw [← hC1]; exact partC_size h8 _
  have z2 : C2.size = 14 := by rw [← hC2]; exact partC_size hq8 _
  rw [hC1, hC2] at hp1 hp2 hg0 hs1 hs2 ⊢
  clear hC1 hC2
  have HP1 := Lib.hid hp1
  have HP2 := Lib.hid hp2
  have HG0 := Lib.hid hg0
  obtain ⟨a0, a1, a2, a3, a4, a5⟩ := hp1.cells
  obtain ⟨d0, d1, d2, d3, d4, d5⟩ := hp2.cells
  clear hp1 hp2 hg0 h1 h2 hs1 hs2
  go_enter Tryz.func11, Tryz.ntmps11
  go_wp2_with fail
  go_ret
  exact ⟨rfl, HG0.out⟩
set_option maxRecDepth 100000 in
set_option maxHeartbeats 4000000 in
theorem rSame_3 (p q : Pt) (A1 A2 : Option Addr) (c1 c2 : Nat) (w : World) (hb : p.Bd) (hbq : q.Bd) (h1 : Rd w A1 p.mem) (h2 : Rd w A2 q.mem) (e0 : ((p.id : Int) == q.id) = true) (e1 : ((p.size : Int) == q.size) = true) (e2 : (p.keep == q.keep) = true) (e3 : decide (p.r = q.r) = false) :
    Calls Tryz.prog 11 #[.agg (partC p (.slice A1 p.mem.length c1)), .agg (partC q (.slice A2 q.mem.length c2))] w fun e w' => e = .returned (.bool false) ∧ Chg Non w w' := by
  have h8 := hb.r8
  have hq8 := hbq.r8
  have hg0 : Chg Non w ((w.alloc (.cells (partC p (.slice A1 p.mem.length c1)) 26)).alloc (.cells (partC q (.slice A2 q.mem.length c2)) 26)) := ((Chg.refl Non w).alloc _).alloc _
  have hp1 : PartB ((w.alloc (.cells (partC p (.slice A1 p.mem.length c1)) 26)).alloc (.cells (partC q (.slice A2 q.mem.length c2)) 26)) w.heap.size p (.slice A1 p.mem.length c1) := ⟨al_2_0 _ _ _, h8⟩
  have hp2 : PartB ((w.alloc (.cells (partC p (.slice A1 p.mem.length c1)) 26)).alloc (.cells (partC q (.slice A2 q.mem.length c2)) 26)) (w.heap.size + 1) q (.slice A2 q.mem.length c2) := ⟨al_2_1 _ _ _, hq8⟩
  have hs1 := str_of A1 p.mem c1 _ (h1.non hg0)
  have hs2 := str_of A2 q.mem c2 _ (h2.non hg0)
  obtain ⟨C1, hC1⟩ : ∃ C, partC p (.slice A1 p.mem.length c1) = C := ⟨_, rfl⟩
  obtain ⟨C2, hC2⟩ : ∃ C, partC q (.slice A2 q.mem.length c2) = C := ⟨_, rfl⟩
  have z1 : C1.size = 14 := by rw [← hC1]; exact partC_size h8 _
  have z2 : C2.size = 14 := by rw [← hC2]; exact partC_size hq8 _
  rw [hC1, hC2] at hp1 hp2 hg0 hs1 hs2 ⊢
  clear hC1 hC2
  have HP1 := Lib.hid hp1
  have HP2 := Lib.hid hp2
  have HG0 := Lib.hid hg0
  have he8 := eq_regs p q hb hbq
  rw [e3] at he8
  obtain ⟨a0, a1, a2, a3, a4, a5⟩ := hp1.cells
  obtain ⟨d0, d1, d2, d3, d4, d5⟩ := hp2.cells
  clear hp1 hp2 hg0 h1 h2 hs1 hs2 e3
  go_enter Tryz.func11, Tryz.ntmps11
  go_wp2_with (first
    | (refine sel (some 26) (.load _ (.tmp 25)) ?_; refine Vm_stop ?_))
  refine HoleV.mk ?_
  refine wpList_loadW (some 26) 23 (.tmp 25) w.heap.size 3 (regC p) _ rfl rfl (by kernel_rfl) rfl HP1.out.regs Tryz.underlying23 rfl info_reg ?_
  go_wp2_with (first
    | (refine sel (some 28) (.load _ (.tmp 27)) ?_; refine Vm_stop ?_))
  refine HoleV.mk ?_
  refine wpList_loadW (some 28) 23 (.tmp 27) (w.heap.size + 1) 3 (regC q) _ rfl rfl (by kernel_rfl) rfl HP2.out.regs Tryz.underlying23 rfl info_reg ?_
  go_wp2_with fail
  go_ret
  exact ⟨rfl, HG0.out⟩
set_option maxRecDepth 100000 in
set_option maxHeartbeats 4000000 in
theorem rSame_4 (p q : Pt) (A1 A2 : Option Addr) (c1 c2 : Nat) (w : World) (hb : p.Bd) (hbq : q.Bd) (h1 : Rd w A1 p.mem) (h2 : Rd w A2 q.mem) (e0 : ((p.id : Int) == q.id) = true) (e1 : ((p.size : Int) == q.size) = true) (e2 : (p.keep == q.keep) = true) (e3 : decide (p.r = q.r) = true) (e4 : ((p.pc : Int) == (q.pc : Int)) = false) :
    Calls Tryz.prog 11 #[.agg (partC p (.slice A1 p.mem.length c1)), .agg (partC q (.slice A2 q.mem.length c2))] w fun e w' => e = .returned (.bool false) ∧ Chg Non w w' := by
  have h8 := hb.r8
  have hq8 := hbq.r8
  have hg0 : Chg Non w ((w.alloc (.cells (partC p (.slice A1 p.mem.length c1)) 26)).alloc (.cells (partC q (.slice A2 q.mem.length c2)) 26)) := ((Chg.refl Non w).alloc _).alloc _
  have hp1 : PartB ((w.alloc (.cells (partC p (.slice A1 p.mem.length c1)) 26)).alloc (.cells (partC q (.slice A2 q.mem.length c2)) 26)) w.heap.size p (.slice A1 p.mem.length c1) := ⟨al_2_0 _ _ _, h8⟩
  have hp2 : PartB ((w.alloc (.cells (partC p (.slice A1 p.mem.length c1)) 26)).alloc (.cells (partC q (.slice A2 q.mem.length c2)) 26)) (w.heap.size + 1) q (.slice A2 q.mem.length c2) := ⟨al_2_1 _ _ _, hq8⟩
  have hs1 := str_of A1 p.mem c1 _ (h1.non hg0)
  have hs2 := str_of A2 q.mem c2 _ (h2.non hg0)
  obtain ⟨C1, hC1⟩ : ∃ C, partC p (.slice A1 p.mem.length c1) = C := ⟨_, rfl⟩
  obtain ⟨C2, hC2⟩ : ∃ C, partC q (.slice A2 q.mem.length c2) = C := ⟨_, rfl⟩
  have z1 : C1.size = 14 := by rw [← hC1]; exact partC_size h8 _
  have z2 : C2.size = 14 := by rw [← hC2]; exact partC_size hq8 _
  rw [hC1, hC2] at hp1 hp2 hg0 hs1 hs2 ⊢
  clear hC1 hC2
  have HP1 := Lib.hid hp1
  have HP2 := Lib.hid hp2
  have HG0 := Lib.hid hg0
  have he8 := eq_regs p q hb hbq
  rw [e3] at he8
  obtain ⟨a0, a1, a2, a3, a4, a5⟩ := hp1.cells
  obtain ⟨d0, d1, d2, d3, d4, d5⟩ := hp2.cells
  clear hp1 hp2 hg0 h1 h2 hs1 hs2 e3
  go_enter Tryz.func11, Tryz.ntmps11
  go_wp2_with (first
    | (refine sel (some 26) (.load _ (.tmp 25)) ?_; refine Vm_stop ?_))
  refine HoleV.mk ?_
  refine wpList_loadW (some 26) 23 (.tmp 25) w.heap.size 3 (regC p) _ rfl rfl (by kernel_rfl) rfl HP1.out.regs Tryz.underlying23 rfl info_reg ?_
  go_wp2_with (first
    | (refine sel (some 28) (.load _ (.tmp 27)) ?_; refine Vm_stop ?_))
  refine HoleV.mk ?_
  refine wpList_loadW (some 28) 23 (.tmp 27) (w.heap.size + 1) 3 (regC q) _ rfl rfl (by kernel_rfl) rfl HP2.out.regs Tryz.underlying23 rfl info_reg ?_
  go_wp2_with fail
  go_ret
  exact ⟨rfl, HG0.out⟩
set_option maxRecDepth 100000 in
set_option maxHeartbeats 4000000 in
theorem rSame_5 (p q : Pt) (A1 A2 : Option Addr) (c1 c2 : Nat) (w : World) (hb : p.Bd) (hbq : q.Bd) (h1 : Rd w A1 p.mem) (h2 : Rd w A2 q.mem) (e0 : ((p.id : Int) == q.id) = true) (e1 : ((p.size : Int) == q.size) = true) (e2 : (p.keep == q.keep) = true) (e3 : decide (p.r = q.r) = true) (e4 : ((p.pc : Int) == (q.pc : Int)) = true) (e5 : ((p.st : Int) == (q.st : Int)) = false) :
    Calls Tryz.prog 11 #[.agg (partC p (.slice A1 p.mem.length c1)), .agg (partC q (.slice A2 q.mem.length c2))] w fun e w' => e = .returned (.bool false) ∧ Chg Non w w' := by
  have h8 := hb.r8
  have hq8 := hbq.r8
  have hg0 : Chg Non w ((w.alloc (.cells (partC p (.slice A1 p.mem.length c1)) 26)).alloc (.cells (partC q (.slice A2 q.mem.length c2)) 26)) := ((Chg.refl Non w).alloc _).alloc _
  have hp1 : PartB ((w.alloc (.cells (partC p (.slice A1 p.mem.length c1)) 26)).alloc (.cells (partC q (.slice A2 q.mem.length c2)) 26)) w.heap.size p (.slice A1 p.mem.length c1) := ⟨al_2_0 _ _ _, h8⟩
  have hp2 : PartB ((w.alloc (.cells (partC p (.slice A1 p.mem.length c1)) 26)).alloc (.cells (partC q (.slice A2 q.mem.length c2)) 26)) (w.heap.size + 1) q (.slice A2 q.mem.length c2) := ⟨al_2_1 _ _ _, hq8⟩
  have hs1 := str_of A1 p.mem c1 _ (h1.non hg0)
  have hs2 := str_of A2 q.mem c2 _ (h2.non hg0)
  obtain ⟨C1, hC1⟩ : ∃ C, partC p (.slice A1 p.mem.length c1) = C := ⟨_, rfl⟩
  obtain ⟨C2, hC2⟩ : ∃ C, partC q (.slice A2 q.mem.length c2) = C := ⟨_, rfl⟩
  have z1 : C1.size = 14 := by rw [← hC1]; exact partC_size h8 _
  have z2 : C2.size = 14 := by rw [← hC2]; exact partC_size hq8 _
  rw [hC1, hC2] at hp1 hp2 hg0 hs1 hs2 ⊢
  clear hC1 hC2
  have HP1 := Lib.hid hp1
  have HP2 := Lib.hid hp2
  have HG0 := Lib.hid hg0
  have he8 := eq_regs p q hb hbq
  rw [e3] at he8
  obtain ⟨a0, a1, a2, a3, a4, a5⟩ := hp1.cells
  obtain ⟨d0, d1, d2, d3, d4, d5⟩ := hp2.cells
  clear hp1 hp2 hg0 h1 h2 hs1 hs2 e3
  go_enter Tryz.func11, Tryz.ntmps11
  go_wp2_with (first
    | (refine sel (some 26) (.load _ (.tmp 25)) ?_; refine Vm_stop ?_))
  refine HoleV.mk ?_
  refine wpList_loadW (some 26) 23 (.tmp 25) w.heap.size 3 (regC p) _ rfl rfl (by kernel_rfl) rfl HP1.out.regs Tryz.underlying23 rfl info_reg ?_
  go_wp2_with (first
    | (refine sel (some 28) (.load _ (.tmp 27)) ?_; refine Vm_stop ?_))
  refine HoleV.mk ?_
  refine wpList_loadW (some 28) 23 (.tmp 27) (w.heap.size + 1) 3 (regC q) _ rfl rfl (by kernel_rfl) rfl HP2.out.regs Tryz.underlying23 rfl info_reg ?_
  go_wp2_with fail
  go_ret
  exact ⟨rfl, HG0.out⟩
set_option maxRecDepth 100000 in
set_option maxHeartbeats 4000000 in
theorem rSame_6 (p q : Pt) (A1 A2 : Option Addr) (c1 c2 : Nat) (w : World) (hb : p.Bd) (hbq : q.Bd) (h1 : Rd w A1 p.mem) (h2 : Rd w A2 q.mem) (e0 : ((p.id : Int) == q.id) = true) (e1 : ((p.size : Int) == q.size) = true) (e2 : (p.keep == q.keep) = true) (e3 : decide (p.r = q.r) = true) (e4 : ((p.pc : Int) == (q.pc : Int)) = true) (e5 : ((p.st : Int) == (q.st : Int)) = true) (e6 : decide (p.mem = q.mem) = false) :
    Calls Tryz.prog 11 #[.agg (partC p (.slice A1 p.mem.length c1)), .agg (partC q (.slice A2 q.mem.length c2))] w fun e w' => e = .returned (.bool false) ∧ Chg Non w w' := by
  have h8 := hb.r8
  have hq8 := hbq.r8
  have hg0 : Chg Non w ((w.alloc (.cells (partC p (.slice A1 p.mem.length c1)) 26)).alloc (.cells (partC q (.slice A2 q.mem.length c2)) 26)) := ((Chg.refl Non w).alloc _).alloc _
  have hp1 : PartB ((w.alloc (.cells (partC p (.slice A1 p.mem.length c1)) 26)).alloc (.cells (partC q (.slice A2 q.mem.length c2)) 26)) w.heap.size p (.slice A1 p.mem.length c1) := ⟨al_2_0 _ _ _, h8⟩
  have hp2 : PartB ((w.alloc (.cells (partC p (.slice A1 p.mem.length c1)) 26)).alloc (.cells (partC q (.slice A2 q.mem.length c2)) 26)) (w.heap.size + 1) q (.slice A2 q.mem.length c2) := ⟨al_2_1 _ _ _, hq8⟩
  have hs1 := str_of A1 p.mem c1 _ (h1.non hg0)
  have hs2 := str_of A2 q.mem c2 _ (h2.non hg0)
  obtain ⟨C1, hC1⟩ : ∃ C, partC p (.slice A1 p.mem.length c1) = C := ⟨_, rfl⟩
  obtain ⟨C2, hC2⟩ : ∃ C, partC q (.slice A2 q.mem.length c2) = C := ⟨_, rfl⟩
  have z1 : C1.size = 14 := by rw [← hC1]; exact partC_size h8 _
  have z2 : C2.size = 14 := by rw [← hC2]; exact partC_size hq8 _
  rw [hC1, hC2] at hp1 hp2 hg0 hs1 hs2 ⊢
  clear hC1 hC2
  have HP1 := Lib.hid hp1
  have HP2 := Lib.hid hp2
  have HG0 := Lib.hid hg0
  have he8 := eq_regs p q hb hbq
  rw [e3] at he8
  have hse := lst_eq p.mem q.mem
  rw [e6] at hse
  have hse2 : (p.mem = q.mem) = False := by simp at hse; simp [hse]
  obtain ⟨a0, a1, a2, a3, a4, a5⟩ := hp1.cells
  obtain ⟨d0, d1, d2, d3, d4, d5⟩ := hp2.cells
  clear hp1 hp2 hg0 h1 h2 e3 e6
  go_enter Tryz.func11, Tryz.ntmps11
  go_wp2_with (first
    | (refine sel (some 26) (.load _ (.tmp 25)) ?_; refine Vm_stop ?_))
  refine HoleV.mk ?_
  refine wpList_loadW (some 26) 23 (.tmp 25) w.heap.size 3 (regC p) _ rfl rfl (by kernel_rfl) rfl HP1.out.regs Tryz.underlying23 rfl info_reg ?_
  go_wp2_with (first
    | (refine sel (some 28) (.load _ (.tmp 27)) ?_; refine Vm_stop ?_))
  refine HoleV.mk ?_
  refine wpList_loadW (some 28) 23 (.tmp 27) (w.heap.size + 1) 3 (regC q) _ rfl rfl (by kernel_rfl) rfl HP2.out.regs Tryz.underlying23 rfl info_reg ?_
  go_wp2_with fail
  go_ret
  exact ⟨rfl, HG0.out⟩
set_option maxRecDepth 100000 in
set_option maxHeartbeats 4000000 in
theorem rSame_7 (p q : Pt) (A1 A2 : Option Addr) (c1 c2 : Nat) (w : World) (hb : p.Bd) (hbq : q.Bd) (h1 : Rd w A1 p.mem) (h2 : Rd w A2 q.mem) (e0 : ((p.id : Int) == q.id) = true) (e1 : ((p.size : Int) == q.size) = true) (e2 : (p.keep == q.keep) = true) (e3 : decide (p.r = q.r) = true) (e4 : ((p.pc : Int) == (q.pc : Int)) = true) (e5 : ((p.st : Int) == (q.st : Int)) = true) (e6 : decide (p.mem = q.mem) = true) :
    Calls Tryz.prog 11 #[.agg (partC p (.slice A1 p.mem.length c1)), .agg (partC q (.slice A2 q.mem.length c2))] w fun e w' => e = .returned (.bool true) ∧ Chg Non w w' := by
  have h8 := hb.r8
  have hq8 := hbq.r8
  have hg0 : Chg Non w ((w.alloc (.cells (partC p (.slice A1 p.mem.length c1)) 26)).alloc (.cells (partC q (.slice A2 q.mem.length c2)) 26)) := ((Chg.refl Non w).alloc _).alloc _
  have hp1 : PartB ((w.alloc (.cells (partC p (.slice A1 p.mem.length c1)) 26)).alloc (.cells (partC q (.slice A2 q.mem.length c2)) 26)) w.heap.size p (.slice A1 p.mem.length c1) := ⟨al_2_0 _ _ _, h8⟩
  have hp2 : PartB ((w.alloc (.cells (partC p (.slice A1 p.mem.length c1)) 26)).alloc (.cells (partC q (.slice A2 q.mem.length c2)) 26)) (w.heap.size + 1) q (.slice A2 q.mem.length c2) := ⟨al_2_1 _ _ _, hq8⟩
  have hs1 := str_of A1 p.mem c1 _ (h1.non hg0)
  have hs2 := str_of A2 q.mem c2 _ (h2.non hg0)
  obtain ⟨C1, hC1⟩ : ∃ C, partC p (.slice A1 p.mem.length c1) = C := ⟨_, rfl⟩
  obtain ⟨C2, hC2⟩ : ∃ C, partC q (.slice A2 q.mem.length c2) = C := ⟨_, rfl⟩
  have z1 : C1.size = 14 := by rw [← hC1]; exact partC_size h8 _
  have z2 : C2.size = 14 := by rw [← hC2]; exact partC_size hq8 _
  rw [hC1, hC2] at hp1 hp2 hg0 hs1 hs2 ⊢
  clear hC1 hC2
  have HP1 := Lib.hid hp1
  have HP2 := Lib.hid hp2
  have HG0 := Lib.hid hg0
  have he8 := eq_regs p q hb hbq
  rw [e3] at he8
  have hse := lst_eq p.mem q.mem
  rw [e6] at hse
  have hse2 : (p.mem = q.mem) = True := by simp at hse; simp [hse]
  obtain ⟨a0, a1, a2, a3, a4, a5⟩ := hp1.cells
  obtain ⟨d0, d1, d2, d3, d4, d5⟩ := hp2.cells
  clear hp1 hp2 hg0 h1 h2 e3 e6
  go_enter Tryz.func11, Tryz.ntmps11
  go_wp2_with (first
    | (refine sel (some 26) (.load _ (.tmp 25)) ?_; refine Vm_stop ?_))
  refine HoleV.mk ?_
  refine wpList_loadW (some 26) 23 (.tmp 25) w.heap.size 3 (regC p) _ rfl rfl (by kernel_rfl) rfl HP1.out.regs Tryz.underlying23 rfl info_reg ?_
  go_wp2_with (first
    | (refine sel (some 28) (.load _ (.tmp 27)) ?_; refine Vm_stop ?_))
  refine HoleV.mk ?_
  refine wpList_loadW (some 28) 23 (.tmp 27) (w.heap.size + 1) 3 (regC q) _ rfl rfl (by kernel_rfl) rfl HP2.out.regs Tryz.underlying23 rfl info_reg ?_
  go_wp2_with fail
  go_ret
  exact ⟨rfl, HG0.out⟩
theorem rSame_ok (p q : Pt) (A1 A2 : Option Addr) (c1 c2 : Nat) (w : World) (hb : p.Bd) (hbq : q.Bd) (h1 : Rd w A1 p.mem) (h2 : Rd w A2 q.mem) :
    Calls Tryz.prog 11 #[.agg (partC p (.slice A1 p.mem.length c1)), .agg (partC q (.slice A2 q.mem.length c2))] w fun e w' => e = .returned (.bool (sameB p q)) ∧ Chg Non w w' := by
  cases e0 : ((p.id : Int) == q.id) with
  | false =>
    rw [show sameB p q = false by simp only [sameB, e0, Bool.false_and]]
    exact rSame_0 p q A1 A2 c1 c2 w hb hbq h1 h2 e0
  | true =>
  cases e1 : ((p.size : Int) == q.size) with
  | false =>
    rw [show sameB p q = false by simp only [sameB, e0, e1, Bool.true_and, Bool.false_and]]
    exact rSame_1 p q A1 A2 c1 c2 w hb hbq h1 h2 e0 e1
  | true =>
  cases e2 : (p.keep == q.keep) with
  | false =>
    rw [show sameB p q = false by simp only [sameB, e0, e1, e2, Bool.true_and, Bool.false_and]]
    exact rSame_2 p q A1 A2 c1 c2 w hb hbq h1 h2 e0 e1 e2
  | true =>
  cases e3 : decide (p.r = q.r) with
  | false =>
    rw [show sameB p q = false by simp only [sameB, e0, e1, e2, e3, Bool.true_and, Bool.false_and]]
    exact rSame_3 p q A1 A2 c1 c2 w hb hbq h1 h2 e0 e1 e2 e3
  | true =>
  cases e4 : ((p.pc : Int) == (q.pc : Int)) with
  | false =>
    rw [show sameB p q = false by simp only [sameB, e0, e1, e2, e3, e4, Bool.true_and, Bool.false_and]]
    exact rSame_4 p q A1 A2 c1 c2 w hb hbq h1 h2 e0 e1 e2 e3 e4
  | true =>
  cases e5 : ((p.st : Int) == (q.st : Int)) with
  | false =>
    rw [show sameB p q = false by simp only [sameB, e0, e1, e2, e3, e4, e5, Bool.true_and, Bool.false_and]]
    exact rSame_5 p q A1 A2 c1 c2 w hb hbq h1 h2 e0 e1 e2 e3 e4 e5
  | true =>
  cases e6 : decide (p.mem = q.mem) with
  | false =>
    rw [show sameB p q = false by simp only [sameB, e0, e1, e2, e3, e4, e5, e6, Bool.true_and]]
    exact rSame_6 p q A1 A2 c1 c2 w hb hbq h1 h2 e0 e1 e2 e3 e4 e5 e6
  | true =>
  rw [show sameB p q = true by simp only [sameB, e0, e1, e2, e3, e4, e5, e6, Bool.true_and]]
  exact rSame_7 p q A1 A2 c1 c2 w hb hbq h1 h2 e0 e1 e2 e3 e4 e5 e6

theorem rd_prefix {w : World} {A : Option Addr} {l m : List UInt8} (h : Rd w A (l ++ m)) : Rd w A l := by
  have := h.take l.length
  rwa [List.take_left'] at this
  rfl
theorem xor255 (x : UInt8) : bits .xor .u8 (x.toNat : Int) 255 = ((x ^^^ 255).toNat : Int) := xor_u8 x 255
set_option maxRecDepth 100000 in
set_option maxHeartbeats 1000000 in
theorem lCopied_ok (p : Pt) (A : Option Addr) (l : List UInt8) (c : Nat) (w : World) (h8 : p.r.length = 8) (hr : Rd w A l) (hl : l.length ≤ 1000) :
    Calls Tryz.prog 8 #[.agg (partC p (.slice A l.length c))] w fun e w' => ∃ b2 o2 c2, e = .returned (.agg (partC p (.slice (some ⟨b2, o2, none⟩) l.length c2))) ∧ l.length + 1 ≤ c2 ∧ c2 ≤ maxLen ∧ Own w.heap.size w' (some ⟨b2, o2, none⟩) (l ++ [99]) ∧ Chg Non w w' := by
  have HR := Lib.hid hr
  have hp : PartB (w.alloc (.cells (partC p (.slice A l.length c)) 26)) w.heap.size p (.slice A l.length c) := ⟨heap_alloc_new _ _, h8⟩
  obtain ⟨C, hC⟩ : ∃ C, partC p (.slice A l.length c) = C := ⟨_, rfl⟩
  have hsz : C.size = 14 := by rw [← hC]; exact partC_size h8 _
  have e13 : C[13]'(by omega) = .slice A l.length c := by
    have h := partC_end h8 (.slice A l.length c) 2 (by omega)
    rw [hC] at h
    rw [Array.getElem?_eq_getElem (by omega)] at h
    simpa using h
  rw [hC] at hp ⊢
  have hg0 : Chg Non (w.alloc (.cells C 26)) (((w.alloc (.cells C 26)).alloc (.cells zeroPart 26)).alloc (.cells #[] 5)) := ((Chg.refl Non _).alloc _).alloc _
  have HP := Lib.hid (hp.non hg0)
  have HB1 := Lib.hid (al_3_1 w (.cells C 26) (.cells zeroPart 26) (.cells #[] 5))
  have c13 := (hp.non hg0).cells.2.2.2.2.2
  have HG0 : Hid (Chg Non w (((w.alloc (.cells C 26)).alloc (.cells zeroPart 26)).alloc (.cells #[] 5))) := Lib.hid ((((Chg.refl Non w).alloc _).alloc _).alloc _)
  have hoe := own_emptyR ((w.alloc (.cells C 26)).alloc (.cells zeroPart 26))
  have hs2 : ((w.alloc (.cells C 26)).alloc (.cells zeroPart 26)).heap.size = w.heap.size + 1 + 1 := by simp
  rw [hs2] at hoe
  have HOe := Lib.hid hoe
  clear hC hr hp hg0 hoe hs2
  go_enter Tryz.func8, Tryz.ntmps8
  go_wp2_with (first
    | (refine sel (some 7) (.call _) ?_; refine Vm_stop ?_))
  refine HoleV.mk ?_
  refine wpList_appB rfl (.tmp 4) (.tmp 6) rfl (w.heap.size + 1 + 1) (.slice (some ⟨w.heap.size + 1 + 1, 0, none⟩) 0 0) [] rfl HOe.out A c l rfl (HR.out.non HG0.out) (by simp) (by omega) (by simp) (by simp; omega) ?_
  intro v2 w2 ho hg hat
  have HG := Lib.hid (HG0.out.then_new hg (fun x hx => by have := HOe.out.ge hx; omega))
  have HP := Lib.hid (HP.out.keep hg (fun hx => by have := HOe.out.ge hx; omega))
  have HB1 := Lib.hid (blockS HB1.out hg (fun hx => by have := HOe.out.ge hx; omega))
  rw [List.nil_append] at ho
  have HO := Lib.hid ho
  have hsw : w.heap.size + 1 + 1 ≤ w2.heap.size := by have := HG0.out.size; have h2 := hg.size; simp at h2; omega
  clear ho hg hat c13 e13
  go_wp2_with (first
    | (refine sel (some 9) (.call _) ?_; refine Vm_stop ?_))
  refine HoleV.mk ?_
  refine wpList_appB rfl (.tmp 7) (.tmp 8) rfl (w.heap.size + 1 + 1) v2 l rfl (HO.out.non ((Chg.refl Non _).alloc _)) (some ⟨w2.heap.size, 0, none⟩) 1 [99] rfl (rd_one w2 99) (by omega) (by simp) (by simp; omega) (by simp; omega) ?_
  intro v3 w3 ho hg hat
  have hg' : Chg (fun k => v2.ownBlock = some k) w2 w3 := ((Chg.refl (fun k => v2.ownBlock = some k) w2).alloc _).trans_same hg
  have HG := Lib.hid (HG.out.then_new hg' (fun x hx => by have := HO.out.ge hx; omega))
  have HP := Lib.hid (HP.out.keep hg' (fun hx => by have := HO.out.ge hx; omega))
  have HB1 := Lib.hid (blockS HB1.out hg' (fun hx => by have := HO.out.ge hx; omega))
  obtain ⟨A2, c2, rfl, q1, q2, q3⟩ := OwnR.own ho
  obtain ⟨b2, o2, rfl, _, _⟩ := q3.rd.at_ (by simp)
  have hll : (l ++ [99]).length = l.length + 1 := by simp
  rw [hll] at q1 ⊢
  have HO := Lib.hid (q3.mono (show w.heap.size + 2 ≤ _ by omega))
  have hlt := HP.out.lt
  have hf := HP.out.frozen 13
  have hc13 := HP.out.cells.2.2.2.2.2
  have hcap : (l.length : Int) ≤ (c2 : Int) := by omega
  clear q3 ho hg hg' hat hll
  go_wp2_with (first
    | (refine sel (some 16) (.load _ _) ?_; refine Vm_stop ?_))
  refine HoleV.mk ?_
  have hp1 := HP.out.setMem (.slice (some ⟨b2, o2, none⟩) l.length c2)
  have hs1 := setAt w3 w.heap.size 13 (.slice (some ⟨b2, o2, none⟩) l.length c2)
  have HG1 := Lib.hid (HG.out.then_new hs1 (fun x e => by omega))
  have HO1 := Lib.hid (HO.out.keep hs1 (fun b' o' e1 e2 e3 e4 => by omega))
  have HB11 := Lib.hid (blockS HB1.out hs1 (by omega))
  have HP1 := Lib.hid hp1
  refine wpList_load_row rfl 26 (.tmp 1) rfl w.heap.size rfl 26 (partC p (.slice (some ⟨b2, o2, none⟩) l.length c2)) (0, 0) _ HP1.out.out Tryz.underlying26 rfl (by rw [partC_size h8]; exact info_part) ?_
  have hone : (partC p (.slice (some ⟨b2, o2, none⟩) l.length c2)).all (·.oneCell') = true := partC_one _ _ rfl
  refine wpList_store_rowA rfl 26 (.tmp 2) (.tmp 16) rfl (w.heap.size + 1) (partC p (.slice (some ⟨b2, o2, none⟩) l.length c2)) rfl rfl 26 zeroPart HB11.out (by rw [partC_size h8]; exact info_part) (by rw [partC_size h8]; rfl) hone ?_
  intro W hgW hbW
  have HBW := Lib.hid hbW
  have HG2 := Lib.hid (HG1.out.then_new hgW (fun x e => by omega))
  have HO2 := Lib.hid (HO1.out.keep hgW (fun b' o' e1 e2 e3 e4 => by omega))
  clear hbW hgW hp1 hs1
  go_wp2_with fail
  exact bodyPost_ret (results_cell_row Tryz.results8 _ _ (w.heap.size + 1) 26 _ (0, 0) _ rfl HBW.out Tryz.underlying26 rfl (by rw [partC_size h8]; exact info_part)) rfl ⟨b2, o2, c2, rfl, q1, q2, HO2.out.mono (by omega), HG2.out⟩
set_option maxRecDepth 100000 in
set_option maxHeartbeats 1000000 in
theorem lStays_ok (p : Pt) (b2 o2 : Nat) (A : Option Addr) (ci c : Nat) (w : World) (hb : p.Bd) (hr : Rd w (some ⟨b2, o2, none⟩) (p.mem ++ [99])) (hra : Rd w A p.mem) (hci : p.mem.length + 1 ≤ ci) (hl : p.mem.length ≤ 1000) :
    Calls Tryz.prog 13 #[.agg (partC p (.slice (some ⟨b2, o2, none⟩) p.mem.length ci)), .agg (partC p (.slice A p.mem.length c))] w fun e w' => e = .returned (.bool true) ∧ Chg Non w w' := by
  have h8 := hb.r8
  have hg0 : Chg Non w ((w.alloc (.cells (partC p (.slice (some ⟨b2, o2, none⟩) p.mem.length ci)) 26)).alloc (.cells (partC p (.slice A p.mem.length c)) 26)) := ((Chg.refl Non w).alloc _).alloc _
  have hp1 : PartB ((w.alloc (.cells (partC p (.slice (some ⟨b2, o2, none⟩) p.mem.length ci)) 26)).alloc (.cells (partC p (.slice A p.mem.length c)) 26)) w.heap.size p (.slice (some ⟨b2, o2, none⟩) p.mem.length ci) := ⟨al_2_0 _ _ _, h8⟩
  have hp2 : PartB ((w.alloc (.cells (partC p (.slice (some ⟨b2, o2, none⟩) p.mem.length ci)) 26)).alloc (.cells (partC p (.slice A p.mem.length c)) 26)) (w.heap.size + 1) p (.slice A p.mem.length c) := ⟨al_2_1 _ _ _, h8⟩
  have HR1 := Lib.hid (hr.non hg0)
  have HR2 := Lib.hid (hra.non hg0)
  obtain ⟨C1, hC1⟩ : ∃ C, partC p (.slice (some ⟨b2, o2, none⟩) p.mem.length ci) = C := ⟨_, rfl⟩
  obtain ⟨C2, hC2⟩ : ∃ C, partC p (.slice A p.mem.length c) = C := ⟨_, rfl⟩
  have z1 : C1.size = 14 := by rw [← hC1]; exact partC_size h8 _
  have z2 : C2.size = 14 := by rw [← hC2]; exact partC_size h8 _
  have hsm := fun W a b => rSame_ok p p (some ⟨b2, o2, none⟩) A ci c W hb hb a b
  rw [sameB_refl, hC1, hC2] at hsm
  rw [hC1, hC2] at hp1 hp2 hg0 HR1 HR2 ⊢
  have HSm := Lib.hid hsm
  have HP1 := Lib.hid hp1
  have HP2 := Lib.hid hp2
  have HG0 := Lib.hid hg0
  have c13 := hp1.cells.2.2.2.2.2
  have HC1 := Lib.hid hC1
  have HC2 := Lib.hid hC2
  have h1 : (p.mem.length : Int) + 1 ≤ (ci : Int) := by omega
  clear hsm hp1 hp2 hg0 hr hra hC1 hC2
  go_enter Tryz.func13, Tryz.ntmps13
  go_wp2_with (first
    | (refine sel (some 13) (.load _ (.tmp 2)) ?_; refine Vm_stop ?_))
  refine HoleV.mk ?_
  refine wpList_load_row rfl 26 (.tmp 2) rfl w.heap.size rfl 26 C1 (0, 0) _ (al_2_0 _ _ _) Tryz.underlying26 rfl (by rw [z1]; exact info_part) ?_
  go_wp2_with (first
    | (refine sel (some 14) (.load _ (.tmp 3)) ?_; refine Vm_stop ?_))
  refine HoleV.mk ?_
  refine wpList_load_row rfl 26 (.tmp 3) rfl (w.heap.size + 1) rfl 26 C2 (0, 0) _ (al_2_1 _ _ _) Tryz.underlying26 rfl (by rw [z2]; exact info_part) ?_
  go_wp2_with fail
  refine (HSm.out _ (rd_prefix HR1.out) HR2.out).mono ?_
  rintro e w3 ⟨rfl, g3⟩
  have HG := Lib.hid (HG0.out.then_non g3)
  have c13 := (HP1.out.non g3).cells.2.2.2.2.2
  have e99 := u8_cell (HR1.out.non g3) p.mem.length (by simp)
  have h99 : (p.mem ++ [(99 : UInt8)]).getD p.mem.length 0 = 99 := by simp [List.getD_eq_getElem?_getD]
  rw [h99] at e99
  have e99 : w3.cell? ⟨b2, o2 + p.mem.length, none⟩ = some (.int .u8 99) := e99
  clear g3
  go_wp2_with fail
  go_ret
  exact ⟨rfl, HG.out⟩

set_option maxRecDepth 100000 in
set_option maxHeartbeats 8000000 in
theorem steps_long (p : Pt) (A : Option Addr) (c : Nat) (w : World) (h8 : p.r.length = 8) (hl : 600 < p.mem.length) :
    Calls Tryz.prog 3 #[.agg (partC p (.slice A p.mem.length c))] w fun e w' => e = .returned (.bool true) ∧ Chg Non w w' := by
  have hb1 : decide ((p.mem.length : Int) > 600) = true := by simp; omega
  have hp : PartB (w.alloc (.cells (partC p (.slice A p.mem.length c)) 26)) w.heap.size p (.slice A p.mem.length c) := ⟨heap_alloc_new _ _, h8⟩
  have c13 := hp.cells.2.2.2.2.2
  obtain ⟨C, hC⟩ : ∃ C, partC p (.slice A p.mem.length c) = C := ⟨_, rfl⟩
  rw [hC] at c13 ⊢
  have HG : Hid (Chg Non w (w.alloc (.cells C 26))) := Lib.hid ((Chg.refl Non w).alloc _)
  clear hC hp
  go_enter Tryz.func3, Tryz.ntmps3
  go_wp2_with fail
  go_ret
  exact ⟨rfl, HG.out⟩
set_option maxRecDepth 100000 in
set_option maxHeartbeats 16000000 in
theorem steps_walk (p : Pt) (A : Option Addr) (c : Nat) (w : World) (hE : Env w) (hb : p.Bd) (hr : Rd w A p.mem) (hl : p.mem.length ≤ 600) :
    Calls Tryz.prog 3 #[.agg (partC p (.slice A p.mem.length c))] w fun e w' => e = .returned (.bool true) ∧ Chg Non w w' := by
  have HE := Lib.hid hE
  have HBd := Lib.hid hb
  have h8 := hb.r8
  have hb1 : decide ((p.mem.length : Int) > 600) = false := by simp; omega
  have HAl := Lib.hid (rd_lt hr)
  have hp : PartB (w.alloc (.cells (partC p (.slice A p.mem.length c)) 26)) w.heap.size p (.slice A p.mem.length c) := ⟨heap_alloc_new _ _, h8⟩
  have HP := Lib.hid hp
  have HR := Lib.hid (hr.non ((Chg.refl Non w).alloc (.cells (partC p (.slice A p.mem.length c)) 26)))
  obtain ⟨⟨q, k, er⟩, hsv⟩ : ∃ r, stepV p = r := ⟨_, rfl⟩
  have hsb := (step_bd hb).1
  have hmq := step_mem p
  rw [hsv] at hsb hmq
  simp only at hsb hmq
  have HSV := Lib.hid hsv
  have HSb := Lib.hid hsb
  have HMq := Lib.hid hmq
  have hq8 := hsb.r8
  have c13 := hp.cells.2.2.2.2.2
  obtain ⟨C, hC⟩ : ∃ C, partC p (.slice A p.mem.length c) = C := ⟨_, rfl⟩
  have z1 : C.size = 14 := by rw [← hC]; exact partC_size h8 _
  have hcp := fun W a => lCopied_ok p A p.mem c W h8 a (by omega)
  rw [hC] at c13 HP HR hcp ⊢
  have HCp := Lib.hid hcp
  have HG : Hid (Chg Non w (w.alloc (.cells C 26))) := Lib.hid ((Chg.refl Non w).alloc _)
  clear hC hp hE hb hr hsv hsb hmq hcp
  go_enter Tryz.func3, Tryz.ntmps3
  go_wp2_with (first
    | (refine sel (some 18) (.load _ (.tmp 1)) ?_; refine Vm_stop ?_))
  refine HoleV.mk ?_
  refine wpList_load_row rfl 26 (.tmp 1) rfl w.heap.size rfl 26 C (0, 0) _ (heap_alloc_new _ _) Tryz.underlying26 rfl (by rw [z1]; exact info_part) ?_
  go_wp2_with fail
  refine (HCp.out _ HR.out).mono ?_
  rintro e w1 ⟨b2, o2, ci, rfl, i1, i2, i3, g1⟩
  have HM := Lib.hid i3.rd
  have hb2 : b2 < w1.heap.size := rd_lt i3.rd b2 o2 rfl (by simp)
  have hw1 := HG.out.size
  have HP := Lib.hid (HP.out.non g1)
  have HR := Lib.hid (HR.out.non g1)
  have HG := Lib.hid (HG.out.then_non g1)
  have hlw := HP.out.lt
  clear i3 g1 c13
  go_wp2_with (first
    | (refine sel none (.store _ (.tmp 3) (.tmp 19)) ?_; refine Vm_stop ?_))
  refine HoleV.mk ?_
  refine wpList_store_rowA rfl 26 (.tmp 3) (.tmp 19) rfl w1.heap.size (partC p (.slice (some ⟨b2, o2, none⟩) p.mem.length ci)) rfl rfl 26 zeroPart (heap_alloc_new w1 _) (by rw [partC_size h8]; exact info_part) (by rw [partC_size h8]; rfl) (partC_one _ _ rfl) ?_
  intro w2 hgW hbW
  have hgn : Chg Non w1 w2 := ((Chg.refl Non w1).alloc (.cells zeroPart 26)).then_new hgW (fun x e => by omega)
  have HP_i : Hid (PartB w2 w1.heap.size p (.slice (some ⟨b2, o2, none⟩) p.mem.length ci)) := Lib.hid ⟨hbW, h8⟩
  have HP := Lib.hid (HP.out.non hgn)
  have HR := Lib.hid (HR.out.non hgn)
  have HG := Lib.hid (HG.out.then_non hgn)
  have HM := Lib.hid (HM.out.non hgn)
  obtain ⟨bi, hbi⟩ : ∃ b, w1.heap.size = b := ⟨_, rfl⟩
  rw [hbi] at HP_i hb2 hlw ⊢
  clear hgW hbW hgn hbi
  have hbi2 := HP_i.out.lt
  go_wp2_with (first
    | (refine sel (some 21) (.load _ (.tmp 3)) ?_; refine Vm_stop ?_))
  refine HoleV.mk ?_
  refine wpList_load_row rfl 26 (.tmp 3) rfl bi rfl 26 _ (0, 0) _ HP_i.out.out Tryz.underlying26 rfl (by rw [partC_size HP_i.out.len]; exact info_part) ?_
  go_wp2_with fail
  have hst := Step_ok p (some ⟨b2, o2, none⟩) ci w2 HBd.out (rd_prefix HM.out) (by omega)
  rw [HSV.out] at hst
  simp only at hst
  refine hst.mono ?_
  rintro e w3 ⟨Ag, cg, rfl, n1, n2, n3, g3⟩
  rw [HMq.out] at n1 ⊢
  have HOg0 := Lib.hid n3
  have HOg := Lib.hid n3
  have HP := Lib.hid (HP.out.non g3)
  have HR := Lib.hid (HR.out.non g3)
  have HG := Lib.hid (HG.out.then_non g3)
  have HM := Lib.hid (HM.out.non g3)
  have HP_i := Lib.hid (HP_i.out.non g3)
  obtain ⟨Bg, hBg⟩ : ∃ b, w2.heap.size = b := ⟨_, rfl⟩
  rw [hBg] at hbi2 HOg HOg0
  have hsg := g3.size
  rw [hBg] at hsg
  clear n3 g3 hst hBg
  go_wp2_with (first
    | (refine sel none (.store _ (.tmp 4) (.tmp 23)) ?_; refine Vm_stop ?_))
  refine HoleV.mk ?_
  refine wpList_store_rowA rfl 26 (.tmp 4) (.tmp 23) rfl w3.heap.size (partC q (.slice Ag p.mem.length cg)) rfl rfl 26 zeroPart (heap_alloc_new w3 _) (by rw [partC_size hq8]; exact info_part) (by rw [partC_size hq8]; rfl) (partC_one _ _ rfl) ?_
  intro w4 hgW hbW
  have hgn : Chg Non w3 w4 := ((Chg.refl Non w3).alloc (.cells zeroPart 26)).then_new hgW (fun x e => by omega)
  have HP_g : Hid (PartB w4 w3.heap.size q (.slice Ag p.mem.length cg)) := Lib.hid ⟨hbW, hq8⟩
  have HP := Lib.hid (HP.out.non hgn)
  have HR := Lib.hid (HR.out.non hgn)
  have HG := Lib.hid (HG.out.then_non hgn)
  have HM := Lib.hid (HM.out.non hgn)
  have HP_i := Lib.hid (HP_i.out.non hgn)
  have HOg := Lib.hid (HOg.out.non hgn)
  obtain ⟨Bh, hBh⟩ : ∃ b, w3.heap.size = b := ⟨_, rfl⟩
  have HOg0 : Hid (Own Bg w3 Ag q.mem) := HOg0
  have hB34 := HP_g.out.lt
  rw [hBh] at HP_g hsg hB34 ⊢
  have HH3 := Lib.hid hBh
  clear hgW hbW hgn hBh
  obtain ⟨bg, hbg⟩ : ∃ b, Bh = b := ⟨_, rfl⟩
  have hbgB : Bh ≤ bg := by omega
  rw [hbg] at HP_g hB34 ⊢
  clear hbg
  go_wp2_with (first
    | (refine sel (some 27) (.load _ (.tmp 1)) ?_; refine Vm_stop ?_))
  refine HoleV.mk ?_
  refine wpList_load_row rfl 26 (.tmp 1) rfl w.heap.size rfl 26 _ (0, 0) _ HP.out.out Tryz.underlying26 rfl (by rw [partC_size HP.out.len]; exact info_part) ?_
  go_wp2_with fail
  have hst := rStep_ok p A c w4 HBd.out HR.out (by omega)
  rw [HSV.out] at hst
  simp only at hst
  refine hst.mono ?_
  rintro e w5 ⟨Aw, cw, rfl, n3, n4, n5, g5⟩
  rw [HMq.out] at n3 ⊢
  have HRw := Lib.hid n5.rd
  have HP := Lib.hid (HP.out.non g5)
  have HR := Lib.hid (HR.out.non g5)
  have HG := Lib.hid (HG.out.then_non g5)
  have HM := Lib.hid (HM.out.non g5)
  have HP_i := Lib.hid (HP_i.out.non g5)
  have HOg := Lib.hid (HOg.out.non g5)
  have HP_g := Lib.hid (HP_g.out.non g5)
  have h45 := g5.size
  clear n5 g5 hst
  go_wp2_with (first
    | (refine sel none (.store _ (.tmp 7) (.tmp 29)) ?_; refine Vm_stop ?_))
  refine HoleV.mk ?_
  refine wpList_store_rowA rfl 26 (.tmp 7) (.tmp 29) rfl w5.heap.size (partC q (.slice Aw p.mem.length cw)) rfl rfl 26 zeroPart (heap_alloc_new w5 _) (by rw [partC_size hq8]; exact info_part) (by rw [partC_size hq8]; rfl) (partC_one _ _ rfl) ?_
  intro w6 hgW hbW
  have hgn : Chg Non w5 w6 := ((Chg.refl Non w5).alloc (.cells zeroPart 26)).then_new hgW (fun x e => by omega)
  have HP_w : Hid (PartB w6 w5.heap.size q (.slice Aw p.mem.length cw)) := Lib.hid ⟨hbW, hq8⟩
  have HP := Lib.hid (HP.out.non hgn)
  have HR := Lib.hid (HR.out.non hgn)
  have HG := Lib.hid (HG.out.then_non hgn)
  have HM := Lib.hid (HM.out.non hgn)
  have HP_i := Lib.hid (HP_i.out.non hgn)
  have HOg := Lib.hid (HOg.out.non hgn)
  have HP_g := Lib.hid (HP_g.out.non hgn)
  have HRw := Lib.hid (HRw.out.non hgn)
  clear hgW hbW hgn
  obtain ⟨bw, hbw⟩ : ∃ b, w5.heap.size = b := ⟨_, rfl⟩
  rw [hbw] at HP_w h45 ⊢
  clear hbw
  go_wp2_with (first
    | (refine sel (some 32) (.load _ (.tmp 4)) ?_; refine Vm_stop ?_))
  refine HoleV.mk ?_
  refine wpList_load_row rfl 26 (.tmp 4) rfl bg rfl 26 _ (0, 0) _ HP_g.out.out Tryz.underlying26 rfl (by rw [partC_size HP_g.out.len]; exact info_part) ?_
  go_wp2_with (first
    | (refine sel (some 33) (.load _ (.tmp 7)) ?_; refine Vm_stop ?_))
  refine HoleV.mk ?_
  refine wpList_load_row rfl 26 (.tmp 7) rfl bw rfl 26 _ (0, 0) _ HP_w.out.out Tryz.underlying26 rfl (by rw [partC_size HP_w.out.len]; exact info_part) ?_
  go_wp2_with fail
  have hsm := rSame_ok q q Ag Aw cg cw w6 HSb.out HSb.out HOg.out.rd HRw.out
  rw [sameB_refl, HMq.out] at hsm
  refine hsm.mono ?_
  rintro e w7 ⟨rfl, g7⟩
  have HP := Lib.hid (HP.out.non g7)
  have HR := Lib.hid (HR.out.non g7)
  have HG := Lib.hid (HG.out.then_non g7)
  have HM := Lib.hid (HM.out.non g7)
  have HP_i := Lib.hid (HP_i.out.non g7)
  have HOg := Lib.hid (HOg.out.non g7)
  have HP_g := Lib.hid (HP_g.out.non g7)
  clear g7 hsm
  have HOg0 : Hid (Own Bg w3 Ag q.mem) := HOg0
  have HBh : w3.heap.size = Bh := HH3.out
  have HOg0 : Hid (Own Bg w3 Ag q.mem) := HOg0
  go_wp2_with fail
  go_loopw [10] (fun i wr => ∃ j : Nat, j ≤ p.mem.length ∧ i = .int .i64 j ∧ ∃ lst : List UInt8, lst.length = p.mem.length ∧ Own Bg wr Ag lst ∧ Chg (fun k => Bg ≤ k ∧ k < Bh) w7 wr) (fun i _ => p.mem.length + 1 - (intOf i).toNat)
  case atStart => exact ⟨0, by omega, rfl, q.mem, HMq.out, HOg.out, Chg.refl _ _⟩
  case round =>
    rename World => x1
    obtain ⟨j, hj, rfl, lst, hll, hO, hC⟩ := hrel
    have hPj := HP_g.out.keep hC (show ¬ (Bg ≤ bg ∧ bg < Bh) by omega)
    have d13 := hPj.cells.2.2.2.2.2
    by_cases hlt : j < p.mem.length
    · obtain ⟨bG, oG, hA, hbG, hAll⟩ := hO.rd.at_ (by omega)
      clear hAll
      have hBh : bG < Bh := by have h9 := rd_lt HOg0.out.rd bG oG hA (fun e => absurd (congrArg List.length e) (by rw [List.length_nil, HMq.out]; omega)); omega
      rw [hA] at hO d13
      have hge := hO.ge (fun e => absurd (congrArg List.length e) (by rw [List.length_nil, hll]; omega))
      have hjl : j < lst.length := by omega
      have ek := u8_cell hO.rd j hjl
      obtain ⟨_, _, ee, _, hcc, hfr⟩ := hO j _ (List.getElem?_eq_getElem hjl)
      injection ee with ee
      injection ee with ee1 ee2 _
      subst ee1 ee2
      have lb5 := lt_of_cell hcc
      have HO7 := Lib.hid (hO.setByte j hjl (lst.getD j 0 ^^^ 255))
      obtain ⟨yk, hyk⟩ : ∃ y, lst.getD j 0 = y := ⟨_, rfl⟩
      rw [hyk] at ek HO7
      have hxor := xor255 yk
      obtain ⟨zk, hzk⟩ : ∃ z, yk ^^^ 255 = z := ⟨_, rfl⟩
      rw [hzk] at hxor HO7
      have HC2 := Lib.hid (hC.setCell (p := ⟨bG, oG + j, none⟩) (.inl ⟨hge, hBh⟩) (.int .u8 (zk.toNat : Nat)))
      have HLl := Lib.hid hll
      have HA := Lib.hid hA
      have hjd : decide ((j : Int) < (p.mem.length : Int)) = true := by simpa using hlt
      have hji : (j : Int) < (p.mem.length : Int) := by omega
      clear hO hC hyk hzk hcc hPj hll hA
      go_wp2_with fail
      case roundEnd => exact ⟨⟨j + 1, by omega, by go_num, lst.set j zk, by rw [List.length_set]; exact HLl.out, by rw [HA.out]; exact HO7.out, HC2.out⟩, by simp [intOf]; omega⟩
    · obtain rfl : j = p.mem.length := by omega
      have hjd : decide ((p.mem.length : Int) < (p.mem.length : Int)) = false := by simp
      have HP := Lib.hid (HP.out.keep hC (show ¬ (Bg ≤ w.heap.size ∧ w.heap.size < Bh) by omega))
      have HP_i := Lib.hid (HP_i.out.keep hC (show ¬ (Bg ≤ bi ∧ bi < Bh) by omega))
      have HR := Lib.hid (HR.out.keep hC (fun b o e1 e2 => by have := HAl.out b o e1 e2; omega))
      have HM := Lib.hid (HM.out.keep hC (fun b o e1 e2 => by injection e1 with e1; injection e1 with e1 _ _; omega))
      have HG := Lib.hid (HG.out.then_new hC (fun x e => by omega))
      clear hO hC
      clear HOg HOg0 HP_g hPj
      go_wp2_with (first
        | (refine sel (some 60) (.load _ (.tmp 3)) ?_; refine Vm_stop ?_))
      refine HoleV.mk ?_
      clear d13
      refine wpList_load_row rfl 26 (.tmp 3) rfl bi rfl 26 _ (0, 0) _ HP_i.out.out Tryz.underlying26 rfl (by rw [partC_size HP_i.out.len]; exact info_part) ?_
      go_wp2_with fail
      refine (Copy_ok p (some ⟨b2, o2, none⟩) p.mem ci x1 h8 (rd_prefix HM.out) (by omega)).mono ?_
      rintro e y1 ⟨Ac, cc2, rfl, n5, n6, n7, g8⟩
      have HOc0 := Lib.hid n7
      have HOc := Lib.hid n7
      have hx1 := HP_i.out.lt
      have hx2 := HP.out.lt
      have hxm := rd_lt HM.out b2 o2 rfl (by simp)
      have HP := Lib.hid (HP.out.non g8)
      have HR := Lib.hid (HR.out.non g8)
      have HG := Lib.hid (HG.out.then_non g8)
      have HM := Lib.hid (HM.out.non g8)
      have HP_i := Lib.hid (HP_i.out.non g8)
      obtain ⟨Bc, hBc⟩ : ∃ b, x1.heap.size = b := ⟨_, rfl⟩
      rw [hBc] at HOc HOc0 hx1 hx2 hxm
      have hsc := g8.size
      rw [hBc] at hsc
      clear n7 g8 hBc
      go_wp2_with (first
        | (refine sel none (.store _ (.tmp 11) (.tmp 61)) ?_; refine Vm_stop ?_))
      refine HoleV.mk ?_
      refine wpList_store_rowA rfl 26 (.tmp 11) (.tmp 61) rfl y1.heap.size (partC p (.slice Ac p.mem.length cc2)) rfl rfl 26 zeroPart (heap_alloc_new y1 _) (by rw [partC_size h8]; exact info_part) (by rw [partC_size h8]; rfl) (partC_one _ _ rfl) ?_
      intro y2 hgW hbW
      have hgn : Chg Non y1 y2 := ((Chg.refl Non y1).alloc (.cells zeroPart 26)).then_new hgW (fun x e => by omega)
      have HP_c : Hid (PartB y2 y1.heap.size p (.slice Ac p.mem.length cc2)) := Lib.hid ⟨hbW, h8⟩
      have HP := Lib.hid (HP.out.non hgn)
      have HR := Lib.hid (HR.out.non hgn)
      have HG := Lib.hid (HG.out.then_non hgn)
      have HM := Lib.hid (HM.out.non hgn)
      have HP_i := Lib.hid (HP_i.out.non hgn)
      have HOc := Lib.hid (HOc.out.non hgn)
      clear hgW hbW hgn
      obtain ⟨Bd, hBd⟩ : ∃ b, y1.heap.size = b := ⟨_, rfl⟩
      rw [hBd] at HP_c hsc ⊢
      have HH4 := Lib.hid hBd
      clear hBd
      obtain ⟨bc, hbc⟩ : ∃ b, Bd = b := ⟨_, rfl⟩
      have hbcB : Bd ≤ bc := by omega
      rw [hbc] at HP_c ⊢
      clear hbc
      go_wp2_with (first
        | (refine sel (some 62) (.load _ (.tmp 11)) ?_; refine Vm_stop ?_))
      refine HoleV.mk ?_
      refine wpList_load_row rfl 26 (.tmp 11) rfl bc rfl 26 _ (0, 0) _ HP_c.out.out Tryz.underlying26 rfl (by rw [partC_size HP_c.out.len]; exact info_part) ?_
      go_wp2_with (first
        | (refine sel (some 63) (.load _ (.tmp 1)) ?_; refine Vm_stop ?_))
      refine HoleV.mk ?_
      refine wpList_load_row rfl 26 (.tmp 1) rfl w.heap.size rfl 26 _ (0, 0) _ HP.out.out Tryz.underlying26 rfl (by rw [partC_size HP.out.len]; exact info_part) ?_
      go_wp2_with fail
      have hsm := rSame_ok p p Ac A cc2 c y2 HBd.out HBd.out HOc.out.rd HR.out
      rw [sameB_refl] at hsm
      refine hsm.mono ?_
      rintro e y3 ⟨rfl, g9⟩
      have HP := Lib.hid (HP.out.non g9)
      have HR := Lib.hid (HR.out.non g9)
      have HG := Lib.hid (HG.out.then_non g9)
      have HM := Lib.hid (HM.out.non g9)
      have HP_i := Lib.hid (HP_i.out.non g9)
      have HOc := Lib.hid (HOc.out.non g9)
      have HP_c := Lib.hid (HP_c.out.non g9)
      clear g9 hsm
      have HBh2 : y1.heap.size = Bd := HH4.out
      go_wp2_with fail
      go_loopw [13] (fun i wr => ∃ j : Nat, j ≤ p.mem.length ∧ i = .int .i64 j ∧ ∃ lst : List UInt8, lst.length = p.mem.length ∧ Own Bc wr Ac lst ∧ Chg (fun k => Bc ≤ k ∧ k < Bd) y3 wr) (fun i _ => p.mem.length + 1 - (intOf i).toNat)
      case atStart => exact ⟨0, by omega, rfl, p.mem, rfl, HOc.out, Chg.refl _ _⟩
      case round =>
        rename World => x2
        obtain ⟨j, hj, rfl, lst, hll, hO, hC⟩ := hrel
        have hPj := HP_c.out.keep hC (show ¬ (Bc ≤ bc ∧ bc < Bd) by omega)
        have d13 := hPj.cells.2.2.2.2.2
        by_cases hlt : j < p.mem.length
        · obtain ⟨bG, oG, hA, hbG, hAll⟩ := hO.rd.at_ (by omega)
          clear hAll
          have hBh : bG < Bd := by have h9 := rd_lt HOc0.out.rd bG oG hA (fun e => absurd (congrArg List.length e) (by rw [List.length_nil]; omega)); omega
          rw [hA] at hO d13
          have hge := hO.ge (fun e => absurd (congrArg List.length e) (by rw [List.length_nil, hll]; omega))
          have hjl : j < lst.length := by omega
          have ek := u8_cell hO.rd j hjl
          obtain ⟨_, _, ee, _, hcc, hfr⟩ := hO j _ (List.getElem?_eq_getElem hjl)
          injection ee with ee
          injection ee with ee1 ee2 _
          subst ee1 ee2
          have lb5 := lt_of_cell hcc
          have HO7 := Lib.hid (hO.setByte j hjl (lst.getD j 0 ^^^ 255))
          obtain ⟨yk, hyk⟩ : ∃ y, lst.getD j 0 = y := ⟨_, rfl⟩
          rw [hyk] at ek HO7
          have hxor := xor255 yk
          obtain ⟨zk, hzk⟩ : ∃ z, yk ^^^ 255 = z := ⟨_, rfl⟩
          rw [hzk] at hxor HO7
          have HC2 := Lib.hid (hC.setCell (p := ⟨bG, oG + j, none⟩) (.inl ⟨hge, hBh⟩) (.int .u8 (zk.toNat : Nat)))
          have HLl := Lib.hid hll
          have HA := Lib.hid hA
          have hjd : decide ((j : Int) < (p.mem.length : Int)) = true := by simpa using hlt
          have hji : (j : Int) < (p.mem.length : Int) := by omega
          clear hO hC hyk hzk hcc hPj hll hA
          go_wp2_with fail
          case roundEnd => exact ⟨⟨j + 1, by omega, by go_num, lst.set j zk, by rw [List.length_set]; exact HLl.out, by rw [HA.out]; exact HO7.out, HC2.out⟩, by simp [intOf]; omega⟩
        · obtain rfl : j = p.mem.length := by omega
          have hjd : decide ((p.mem.length : Int) < (p.mem.length : Int)) = false := by simp
          have HP := Lib.hid (HP.out.keep hC (show ¬ (Bc ≤ w.heap.size ∧ w.heap.size < Bd) by omega))
          have HP_i := Lib.hid (HP_i.out.keep hC (show ¬ (Bc ≤ bi ∧ bi < Bd) by omega))
          have HR := Lib.hid (HR.out.keep hC (fun b o e1 e2 => by have := HAl.out b o e1 e2; omega))
          have HM := Lib.hid (HM.out.keep hC (fun b o e1 e2 => by injection e1 with e1; injection e1 with e1 _ _; omega))
          have HG := Lib.hid (HG.out.then_new hC (fun x e => by omega))
          clear hO hC
          clear HOc HOc0 HP_c hPj
          go_wp2_with (first
            | (refine sel (some 81) (.load _ (.tmp 3)) ?_; refine Vm_stop ?_))
          refine HoleV.mk ?_
          clear d13
          refine wpList_loadW (some 81) 26 (.tmp 3) bi 0 _ _ rfl rfl (by kernel_rfl) rfl (row_range HP_i.out.out) Tryz.underlying26 rfl (by rw [partC_size HP_i.out.len]; exact info_part) ?_
          go_wp2_with (first
            | (refine sel (some 82) (.load _ (.tmp 1)) ?_; refine Vm_stop ?_))
          refine HoleV.mk ?_
          refine wpList_loadW (some 82) 26 (.tmp 1) w.heap.size 0 _ _ rfl rfl (by kernel_rfl) rfl (row_range HP.out.out) Tryz.underlying26 rfl (by rw [partC_size HP.out.len]; exact info_part) ?_
          go_wp2_with fail
          refine (lStays_ok p b2 o2 A ci c x2 HBd.out HM.out HR.out i1 (by omega)).mono ?_
          rintro e y5 ⟨rfl, g10⟩
          have HG := Lib.hid (HG.out.then_non g10)
          clear g10
          go_wp2_with fail
          refine (vawake_ok _ (HE.out.non HG.out)).mono ?_
          rintro e wz ⟨rfl, gz⟩
          have HG := Lib.hid (HG.out.then_non gz)
          clear gz
          go_wp2_with fail
          go_ret
          exact ⟨rfl, HG.out⟩
theorem VmSteps_ok (p : Pt) (A : Option Addr) (c : Nat) (w : World) (hE : Env w) (hb : p.Bd) (hr : Rd w A p.mem) :
    Calls Tryz.prog 3 #[.agg (partC p (.slice A p.mem.length c))] w fun e w' => e = .returned (.bool true) ∧ Chg Non w w' := by
  by_cases hl : 600 < p.mem.length
  · exact steps_long p A c w hb.r8 hl
  · exact steps_walk p A c w hE hb hr (by omega)
end Go.Proofs.YtpcmnphohneddaaGreatDoor
