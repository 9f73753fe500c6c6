/- A slice of commit records: read where it lies; a parameter that is one, opened. -/
import Derived.Test.YthhbdejagglgbaaGreatRecOpen
import Derived.Deep.Slices
namespace Go.Proofs.YthhbdejagglgbaaGreat
open Go.ChangeShapes Go.WideShapes Go.ChangeAt Go.RowKit
set_option linter.unusedVariables false

/-- the slice that begins at A holds the records l -/
def RdR (w : World) (A : Option Addr) (l : List Rec) : Prop :=
  ∀ (i : Nat) (r : Rec), l[i]? = some r → ∃ b o, A = some ⟨b, o, none⟩ ∧ w.rangeAt b (o + i * 36) (recA r).toList

theorem RdR.keep {S : Nat → Prop} {w w' : World} {A : Option Addr} {l : List Rec} (h : RdR w A l) (hg : Chg S w w') (hn : ∀ b o, A = some ⟨b, o, none⟩ → ¬ S b) : RdR w' A l := by
  intro i r hr
  obtain ⟨b, o, rfl, hc⟩ := h i r hr
  exact ⟨b, o, rfl, fun j v hv => hg.cell_some (hc j v hv) (hn b o rfl)⟩
theorem RdR.non {w w' : World} {A : Option Addr} {l : List Rec} (h : RdR w A l) (hg : Chg Non w w') : RdR w' A l := h.keep hg fun _ _ _ e => e
theorem RdR.at_ {w : World} {A : Option Addr} {l : List Rec} (h : RdR w A l) (h0 : 0 < l.length) : ∃ b o, A = some ⟨b, o, none⟩ ∧ b < w.heap.size ∧ ∀ i (hi : i < l.length), w.rangeAt b (o + i * 36) (recA l[i]).toList := by
  obtain ⟨b, o, rfl, hc⟩ := h 0 l[0] (List.getElem?_eq_getElem h0)
  refine ⟨b, o, rfl, ?_, fun i hi => ?_⟩
  · have h1 := hc 0 (.int .i64 l[0].seqn) (by rw [Array.getElem?_toList]; exact recA_0 _)
    exact lt_of_cell h1
  · obtain ⟨b', o', e, hc'⟩ := h i l[i] (List.getElem?_eq_getElem hi)
    injection e with e
    injection e with e1 e2 _
    subst e1 e2
    exact hc'

theorem list_of {α : Type} (n : Nat) (P : Nat → α → Prop) (h : ∀ i, i < n → ∃ r, P i r) : ∃ l : List α, l.length = n ∧ ∀ i r, l[i]? = some r → P i r := by
  induction n with
  | zero => exact ⟨[], rfl, fun i r h => by simp at h⟩
  | succ n ih =>
    obtain ⟨l, hl, hp⟩ := ih (fun i hi => h i (by omega))
    obtain ⟨r, hr⟩ := h n (by omega)
    refine ⟨l ++ [r], by simp [hl], fun i x hx => ?_⟩
    by_cases hi : i < l.length
    · rw [List.getElem?_append_left hi] at hx
      exact hp i x hx
    · have hi2 : i < (l ++ [r]).length := (List.getElem?_eq_some_iff.1 hx).1
      obtain rfl : i = n := by simp at hi2; omega
      rw [List.getElem?_append_right (by omega), show i - l.length = 0 by omega] at hx
      simp only [List.getElem?_cons_zero, Option.some.injEq] at hx
      subst hx
      exact hr

section
variable {H : Type} {enc : TypeId × Value → H} {W : World}
set_option maxRecDepth 100000 in
/-- a parameter that is a slice of records -/
theorem open_recs {r0 : Reach} {b0 : Nat} {v : Value} {d : DataW H} {ps : List MemPlace} (hval : Value.okWide Tryz.prog W r0 b0 38 v) (h : DataW.Trod enc Tryz.prog W 0 (fun _ => true) true 38 v d ps) :
    ∃ (B : Option Addr) (l : List Rec) (c : Nat), v = .slice B l.length c ∧ RdR W B l ∧ l.length ≤ c ∧ c ≤ maxLen ∧ ∀ r ∈ l, r.Ok := by
  obtain ⟨a, len, cap, rfl⟩ := okWide_slice Tryz.underlying38 hval
  obtain ⟨fuel, hf⟩ := h
  rcases Go.Deep.open_slice Tryz.underlying38 hf with ⟨h0, _⟩ | ⟨a', len', cap', m, n, Dd, Pl, h0, _, hl, hm, hmm, _, hcell⟩
  · simp only [Value.cells, List.cons.injEq, Value.slice.injEq, and_true] at h0
    obtain ⟨rfl, rfl, rfl⟩ := h0
    exact ⟨none, [], 0, rfl, fun i r h => by simp at h, Nat.le_refl _, by simp, by simp⟩
  · simp only [Value.cells, List.cons.injEq, Value.slice.injEq, and_true] at h0
    obtain ⟨rfl, rfl, rfl⟩ := h0
    simp only [if_true] at hmm
    have c36 : Tryz.prog.cellsOf 25 = 36 := by kernel_rfl
    obtain ⟨l, hll, hlp⟩ := list_of len (fun i r => W.cells? 0 (a'.add (i * 36)) 36 = some (recA r).toList ∧ r.Ok) (fun i hi => by
      obtain ⟨cs', h1, h2⟩ := hcell i (by omega)
      rw [c36] at h1
      obtain ⟨r, hr, ho⟩ := open_rec_cells h2
      exact ⟨r, by rw [h1, hr], ho⟩)
    refine ⟨some a', l, cap, by rw [hll], ?_, by omega, hm, ?_⟩
    · intro i r hr
      have hpos : 0 < l.length := by have := (List.getElem?_eq_some_iff.1 hr).1; omega
      obtain ⟨h1, ho⟩ := hlp i r hr
      obtain ⟨h10, _⟩ := hlp 0 l[0] (List.getElem?_eq_getElem hpos)
      obtain ⟨_, _, hc⟩ := World.cells?_some h1
      obtain ⟨_, _, hc0⟩ := World.cells?_some h10
      have h00 := hc0 0 (by omega)
      rw [Array.getElem?_toList, recA_0] at h00
      obtain ⟨b, off, spot⟩ := a'
      have hspot : spot = none := by
        have := World.cell?_spot h00
        simpa [Addr.add] using this
      subst hspot
      refine ⟨b, off, rfl, fun j v hv => ?_⟩
      have hj : j < 36 := by
        have := (List.getElem?_eq_some_iff.1 hv).1
        rw [Array.length_toList, recA_size r ho.1] at this
        exact this
      have := hc j hj
      rw [Go.WideShapes.add_plain, Go.WideShapes.add_plain] at this
      rw [this]
      exact hv
    · intro r hr
      obtain ⟨i, hi⟩ := List.getElem?_of_mem hr
      exact (hlp i r hi).2
end
end Go.Proofs.YthhbdejagglgbaaGreat
