/- A parameter that is a slice of quadruples, opened. -/
import Derived.Test.YtpcmnphohneddaaDoorIsaOpen
import Derived.Test.YtpcmnphohneddaaDoorIsaLines
import Derived.Deep.Slices
namespace Go.Proofs.YtpcmnphohneddaaDoor
open Go.ChangeShapes Go.WideShapes Go.ChangeAt Go.RowKit
set_option linter.unusedVariables false

theorem list_of {α : Type} (n : Nat) (P : Nat → α → Prop) (h : ∀ i, i < n → ∃ r, P i r) : ∃ l : List α, l.length = n ∧ ∀ i r, l[i]? = some r → P i r := by
  induction n with
  | zero => exact ⟨[], rfl, fun i r h => by simp at h⟩
  | succ n ih =>
    obtain ⟨l, hl, hp⟩ := ih (fun i hi => h i (by omega))
    obtain ⟨r, hr⟩ := h n (by omega)
    refine ⟨l ++ [r], by simp [hl], fun i x hx => ?_⟩
    by_cases hi : i < l.length
    · rw [List.getElem?_append_left hi] at hx
      exact hp i x hx
    · have hi2 : i < (l ++ [r]).length := (List.getElem?_eq_some_iff.1 hx).1
      obtain rfl : i = n := by simp at hi2; omega
      rw [List.getElem?_append_right (by omega), show i - l.length = 0 by omega] at hx
      simp only [List.getElem?_cons_zero, Option.some.injEq] at hx
      subst hx
      exact hr

section
variable {H : Type} {enc : TypeId × Value → H} {W : World}
set_option maxRecDepth 100000 in
theorem open_quads {r0 : Reach} {b0 : Nat} {v : Value} {d : DataW H} {ps : List MemPlace} (hval : Value.okWide Tryd.prog W r0 b0 55 v) (h : DataW.Trod enc Tryd.prog W 0 (fun _ => true) true 55 v d ps) :
    ∃ (B : Option Addr) (l : List Q4) (c : Nat), v = .slice B l.length c ∧ RdQ W B l ∧ l.length ≤ c ∧ c ≤ maxLen ∧ ∀ f ∈ l, Four f := by
  obtain ⟨a, len, cap, rfl⟩ := okWide_slice Tryd.underlying55 hval
  obtain ⟨fuel, hf⟩ := h
  rcases Go.Deep.open_slice Tryd.underlying55 hf with ⟨h0, _⟩ | ⟨a', len', cap', m, n, Dd, Pl, h0, _, hl, hm, hmm, _, hcell⟩
  · simp only [Value.cells, List.cons.injEq, Value.slice.injEq, and_true] at h0
    obtain ⟨rfl, rfl, rfl⟩ := h0
    exact ⟨none, [], 0, rfl, fun i r h => by simp at h, Nat.le_refl _, by simp, by simp⟩
  · simp only [Value.cells, List.cons.injEq, Value.slice.injEq, and_true] at h0
    obtain ⟨rfl, rfl, rfl⟩ := h0
    simp only [if_true] at hmm
    have c4 : Tryd.prog.cellsOf 24 = 4 := by kernel_rfl
    obtain ⟨l, hll, hlp⟩ := list_of len (fun i (f : Q4) => W.cells? 0 (a'.add (i * 4)) 4 = some [.int .u8 f.1, .int .u8 f.2.1, .int .u8 f.2.2.1, .int .u8 f.2.2.2] ∧ Four f) (fun i hi => by
      obtain ⟨cs', h1, h2⟩ := hcell i (by omega)
      rw [c4] at h1
      obtain ⟨p, q, r, s, hr, ho⟩ := four_cells h2
      exact ⟨(p, q, r, s), by rw [h1, hr], ho⟩)
    refine ⟨some a', l, cap, by rw [hll], ?_, by omega, hm, ?_⟩
    · intro i f hfi
      have hpos : 0 < l.length := by have := (List.getElem?_eq_some_iff.1 hfi).1; omega
      obtain ⟨h1, ho⟩ := hlp i f hfi
      obtain ⟨h10, _⟩ := hlp 0 l[0] (List.getElem?_eq_getElem hpos)
      obtain ⟨_, _, hc⟩ := World.cells?_some h1
      obtain ⟨_, _, hc0⟩ := World.cells?_some h10
      have h00 := hc0 0 (by omega)
      obtain ⟨b, off, spot⟩ := a'
      have hspot : spot = none := by
        have := World.cell?_spot h00
        simpa [Addr.add] using this
      subst hspot
      refine ⟨b, off, rfl, fun j hj => ?_⟩
      have := hc j hj
      rw [Go.WideShapes.add_plain, Go.WideShapes.add_plain] at this
      rw [this]
      have h' : j = 0 ∨ j = 1 ∨ j = 2 ∨ j = 3 := by omega
      rcases h' with rfl | rfl | rfl | rfl <;> rfl
    · intro f hfm
      obtain ⟨i, hi⟩ := List.getElem?_of_mem hfm
      exact (hlp i f hi).2
end
end Go.Proofs.YtpcmnphohneddaaDoor
