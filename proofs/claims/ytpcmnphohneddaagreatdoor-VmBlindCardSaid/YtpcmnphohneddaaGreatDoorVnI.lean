/- VmBlind, begun: what is none of its business; names of the memory's instructions. -/
import Derived.Test.YtpcmnphohneddaaGreatDoorVq6
namespace Go.Proofs.YtpcmnphohneddaaGreatDoor
open Go.RowKit
set_option linter.unusedVariables false

/-- lb, lw, sb, sw: 13, 15, 14, 16 -/
theorem nm_lb : ∀ k, k < 22 → ((opAt k).name == [108, 98]) = decide (k = 13) := by decide +kernel
theorem nm_lw : ∀ k, k < 22 → ((opAt k).name == [108, 119]) = decide (k = 15) := by decide +kernel
theorem nm_sb : ∀ k, k < 22 → ((opAt k).name == [115, 98]) = decide (k = 14) := by decide +kernel
theorem nm_sw : ∀ k, k < 22 → ((opAt k).name == [115, 119]) = decide (k = 16) := by decide +kernel
theorem nm_mem (k : Nat) (h : k < 22) : memB k = (((opAt k).name == [108, 98]) || ((opAt k).name == [108, 119]) || ((opAt k).name == [115, 98]) || ((opAt k).name == [115, 119])) := by
  rw [nm_lb k h, nm_lw k h, nm_sb k h, nm_sw k h]
  unfold memB
  rw [Bool.eq_iff_iff]
  simp
  omega
theorem part_set0 (p : Pt) (m : Value) (v : Int) : (partC p m).setIfInBounds 0 (.int .i64 v) = partC { p with id := v } m := by
  simp only [partC, partL, List.setIfInBounds_toArray, List.set_cons_zero]
theorem part_set2 (p : Pt) (m : Value) (v : Bool) : (partC p m).setIfInBounds 2 (.bool v) = partC { p with keep := v } m := by
  simp only [partC, partL, List.setIfInBounds_toArray, List.set_cons_zero, List.set_cons_succ]
theorem PartB.setId {W : World} {b : Nat} {p : Pt} {m : Value} (h : PartB W b p m) (v : Int) : PartB (W.setCell ⟨b, 0, none⟩ (.int .i64 v)) b { p with id := v } m := by
  refine ⟨?_, h.len⟩
  have := heap_setCellI (.int .i64 v) (i := 0) h.out
  rw [part_set0] at this
  exact this
theorem PartB.setKeep {W : World} {b : Nat} {p : Pt} {m : Value} (h : PartB W b p m) (v : Bool) : PartB (W.setCell ⟨b, 2, none⟩ (.bool v)) b { p with keep := v } m := by
  refine ⟨?_, h.len⟩
  have := heap_setCellI (.bool v) (i := 2) h.out
  rw [part_set2] at this
  exact this
/-- a byte of bytes of one's own changed -/
theorem own_setByte {B b o : Nat} {W : World} {l : List UInt8} (h : Own B W (some ⟨b, o, none⟩) l) (k : Nat) (hk : k < l.length) (y : UInt8) :
    ∀ i x, (l.set k y)[i]? = some x → i ≠ k → (W.setCell ⟨b, o + k, none⟩ (.int .u8 (y.toNat : Nat))).cell? ⟨b, o + i, none⟩ = some (.int .u8 (x.toNat : Nat)) := by
  intro i x hx hi
  rw [List.getElem?_set_ne (by omega)] at hx
  obtain ⟨b', o', e, _, hc, _⟩ := h i x hx
  injection e with e
  injection e with e1 e2 _
  subst e1 e2
  rw [World.cell?_setCell_other W _ _ _ (by intro e; injection e with _ e _; omega)]
  exact hc
theorem rd_setByte {b o : Nat} {W : World} {l : List UInt8} (h : Rd W (some ⟨b, o, none⟩) l) (k : Nat) (hk : k < l.length) (y : UInt8) :
    Rd (W.setCell ⟨b, o + k, none⟩ (.int .u8 (y.toNat : Nat))) (some ⟨b, o, none⟩) (l.set k y) := by
  intro i x hx
  refine ⟨b, o, rfl, ?_⟩
  by_cases hi : i = k
  · subst hi
    rw [List.getElem?_set_self hk] at hx
    simp only [Option.some.injEq] at hx
    subst hx
    have hc := u8_cell h i hk
    rw [World.cell?_setCell_same W _ _ (by rw [hc])]
  · rw [List.getElem?_set_ne (by omega)] at hx
    obtain ⟨b', o', e, hc⟩ := h i x hx
    injection e with e
    injection e with e1 e2 _
    subst e1 e2
    rw [World.cell?_setCell_other W _ _ _ (by intro e; injection e with _ e _; omega)]
    exact hc
set_option maxRecDepth 100000 in
set_option maxHeartbeats 8000000 in
/-- a partition that VmBlind does not look at -/
theorem blind_early (p : Pt) (A : Option Addr) (c : Nat) (a : Int) (x : Nat) (w : World) (hE : Env w) (h8 : p.r.length = 8) (hl : p.mem.length = 0 ∨ 512 < p.mem.length ∨ p.st ≠ 0 ∨ 512 < p.pc) :
    Calls Tryz.prog 5 #[.agg (partC p (.slice A p.mem.length c)), .int .i64 a, .int .u8 x] w fun e w' => e = .returned (.bool true) ∧ Chg Non w w' := by
  have HE := Lib.hid hE
  have hp : PartB (w.alloc (.cells (partC p (.slice A p.mem.length c)) 26)) w.heap.size p (.slice A p.mem.length c) := ⟨heap_alloc_new _ _, h8⟩
  have c11 := hp.cells.2.2.2.1
  have c12 := hp.cells.2.2.2.2.1
  have c13 := hp.cells.2.2.2.2.2
  obtain ⟨C, hC⟩ : ∃ C, partC p (.slice A p.mem.length c) = C := ⟨_, rfl⟩
  have z1 : C.size = 14 := by rw [← hC]; exact partC_size h8 _
  obtain ⟨N, hN⟩ : ∃ N, p.mem.length = N := ⟨_, rfl⟩
  rw [hC] at c11 c12 c13 ⊢
  rw [hN] at c13 hl
  clear hC hp hE hN
  have main : ∀ (q0 q1 q2 q3 : Bool), ((N : Int) == 0) = q0 → decide ((N : Int) > 512) = q1 → ((p.st : Int) != 0) = q2 → decide ((p.pc : Int) > 512) = q3 → (q0 || q1 || q2 || q3) = true → Calls Tryz.prog 5 #[.agg C, .int .i64 a, .int .u8 x] w fun e w' => e = .returned (.bool true) ∧ Chg Non w w' := by
    intro q0 q1 q2 q3 e0 e1 e2 e3 hq
    have hfin : ∀ W, Chg Non w W → Calls Tryz.prog 14 #[] W fun e w' => e = .returned (.bool true) ∧ Chg Non W w' := fun W hg => vawake_ok _ (HE.out.non hg)
    have HFin := Lib.hid hfin
    clear hfin hl
    cases q0 <;> cases q1 <;> cases q2 <;> cases q3 <;> first
      | (simp at hq; done)
      | (clear hq
         go_enter Tryz.func5, Tryz.ntmps5
         go_wp2_with fail
         refine (HFin.out _ ((Chg.refl Non w).alloc _)).mono ?_
         rintro e w1 ⟨rfl, hg⟩
         have HG := Lib.hid (((Chg.refl Non w).alloc _).then_non hg)
         clear hg
         go_wp2_with fail
         go_ret
         exact ⟨rfl, HG.out⟩)
  refine main _ _ _ _ rfl rfl rfl rfl ?_
  simp only [Bool.or_eq_true, beq_iff_eq, decide_eq_true_eq, bne_iff_ne]
  omega
end Go.Proofs.YtpcmnphohneddaaGreatDoor
