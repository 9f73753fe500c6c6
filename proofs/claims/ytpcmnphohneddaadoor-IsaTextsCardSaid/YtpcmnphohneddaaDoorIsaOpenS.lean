/- A parameter that is a slice of strings, opened; one that is a truth value. -/
import Derived.Test.YtpcmnphohneddaaDoorIsaOpen
import Derived.Deep.Slices
import Derived.SliceStrings
namespace Go.Proofs.YtpcmnphohneddaaDoor
open Go.ChangeShapes Go.WideShapes Go.ChangeAt Go.RowKit
set_option linter.unusedVariables false

section
variable {H : Type} {enc : TypeId × Value → H} {W : World}
set_option maxRecDepth 100000 in
theorem open_strs {r0 : Reach} {b0 : Nat} {v : Value} {d : DataW H} {ps : List MemPlace} (hval : Value.okWide Tryd.prog W r0 b0 41 v) (h : DataW.Trod enc Tryd.prog W 0 (fun _ => true) true 41 v d ps) :
    ∃ (B : Option Addr) (l : List (List UInt8)) (c : Nat), v = .slice B l.length c ∧ RdS W B l := by
  obtain ⟨a, len, cap, rfl⟩ := okWide_slice Tryd.underlying41 hval
  obtain ⟨fuel, hf⟩ := h
  rcases open_strings Tryd.underlying41 Tryd.underlying9 (by kernel_rfl) hf with ⟨h0, _⟩ | ⟨a', len', cap', ss, h0, _, hl, hm, hss, _, hcell, _⟩
  · simp only [Value.cells, List.cons.injEq, Value.slice.injEq, and_true] at h0
    obtain ⟨rfl, rfl, rfl⟩ := h0
    exact ⟨none, [], 0, rfl, fun i r h => by simp at h⟩
  · simp only [Value.cells, List.cons.injEq, Value.slice.injEq, and_true] at h0
    obtain ⟨rfl, rfl, rfl⟩ := h0
    simp only [if_true] at hss
    refine ⟨some a', (ss.take len).map (fun s => s.data.toList), cap, by rw [List.length_map, List.length_take, Nat.min_eq_left (by omega)], ?_⟩
    intro i x hx
    have hi : i < len := by
      have := (List.getElem?_eq_some_iff.1 hx).1
      simp at this
      omega
    have hc := hcell i (by omega)
    have hs : ss.getD i ByteArray.empty = ⟨x.toArray⟩ := by
      rw [List.getElem?_map, List.getElem?_take_of_lt hi] at hx
      obtain ⟨s, hs, rfl⟩ := Option.map_eq_some_iff.1 hx
      rw [List.getD_eq_getElem?_getD, hs]
      simp
    rw [hs] at hc
    obtain ⟨b, off, spot⟩ := a'
    have hspot : spot = none := by
      have := World.cell?_spot (hcell 0 (by omega))
      simpa [Addr.add] using this
    subst hspot
    rw [Go.WideShapes.add_plain] at hc
    exact ⟨b, off, rfl, hc⟩
set_option maxRecDepth 100000 in
theorem open_tf {r0 : Reach} {b0 : Nat} {v : Value} {d : DataW H} {ps : List MemPlace} {base : Nat} {sp : Nat → Bool} {hd : Bool} (hval : Value.okWide Tryd.prog W r0 b0 4 v) (h : DataW.Trod enc Tryd.prog W base sp hd 4 v d ps) : ∃ q : Bool, v = .bool q := by
  exact okWide_bool Tryd.underlying4 hval
end
end Go.Proofs.YtpcmnphohneddaaDoor
