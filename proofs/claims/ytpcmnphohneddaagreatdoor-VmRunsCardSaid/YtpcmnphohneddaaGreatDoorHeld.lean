/- Regions that draw their order, walked by hand: an operation that only computes, one that is not wanted, a load of a whole row, a call, a store of a whole row. No condition of the program. -/
import Derived.Test.YtpcmnphohneddaaGreatDoorBase
import Derived.Deep.RegionHeld3
import Derived.Deep.MidRow
namespace Go.Proofs.YtpcmnphohneddaaGreatDoor
open Go.RowKit
set_option linter.unusedVariables false

section
variable {P : Program} {md : Region.Mode} {ops : Array Oper} {Q : Exit → Act → World → Prop} {S : World → Prop} {fuel : Nat} {listed : Array Bool} {a : Act} {w : World}

/-- an operation that computes is taken first -/
theorem h_pure (i : Nat) (d : Option Tmp) (v : Value) {oi : Oper} (hi : ops[i]? = some oi) (hs : Region.noSelect ops = true) (hf : Region.free md ops listed i = true) (hr : (Region.ready md ops listed).contains i = true)
    (hdst : oi.dst = d) (hQ : ∀ c a w, Q (.panic c) (a.put d v) w → Q (.panic c) a w) (hw : Region.wanted oi (yielded ops a.tmps) = true) (he : ∀ w, S w → (execOp a.eval oi).run P w = .ok (.value v) w) (hS : S w)
    (h : wpAnyH P md ops Q S fuel (listed.setIfInBounds i true) (a.put d v) w) : wpAnyH P md ops Q S (fuel + 1) listed a w := by
  subst hdst
  exact wpAnyH_take hi hs hf hr hQ (.inl ⟨hw, he⟩) hS h

/-- one that is not wanted -/
theorem h_skip (i : Nat) (d : Option Tmp) {oi : Oper} (hi : ops[i]? = some oi) (hs : Region.noSelect ops = true) (hf : Region.free md ops listed i = true) (hr : (Region.ready md ops listed).contains i = true)
    (hdst : oi.dst = d) (hQ : ∀ c a w, Q (.panic c) (a.put d undef) w → Q (.panic c) a w) (hw : Region.wanted oi (yielded ops a.tmps) = false) (hS : S w)
    (h : wpAnyH P md ops Q S fuel (listed.setIfInBounds i true) (a.put d undef) w) : wpAnyH P md ops Q S (fuel + 1) listed a w := by
  subst hdst
  exact wpAnyH_take hi hs hf hr hQ (.inr ⟨hw, rfl⟩) hS h

/-- the one that may come up -/
theorem h_one (i : Nat) {oi : Oper} (hr : Region.ready md ops listed = [i]) (hi : ops[i]? = some oi) (hw : Region.wanted oi (yielded ops a.tmps) = true)
    (h : ∀ K : Act → World → Prop, Shut (∀ a w, S w → (S w → wpAnyH P md ops Q S fuel (listed.setIfInBounds i true) a w) → K a w) → Oper.wp P oi a w K Q) : wpAnyH P md ops Q S (fuel + 1) listed a w :=
  wpAnyH_ready hr (by simp) (AllReadyH.cons hi (fun K hK => by rw [if_pos hw]; exact h K hK) AllReadyH.nil)

/-- a load of a whole row -/
theorem h_load (i : Nat) (dd : Option Tmp) {oi : Oper} (ty : TypeId) (x : Operand) (b o : Nat) (C : Array Value) (d : TypeDesc) (hi : ops[i]? = some oi) (hs : Region.noSelect ops = true) (hf : Region.free md ops listed i = true) (hr : (Region.ready md ops listed).contains i = true)
    (hdst : oi.dst = dd) (ho : oi.op = .load ty x) (hQ : ∀ c a w, Q (.panic c) (a.put dd (.agg C)) w → Q (.panic c) a w) (hw : Region.wanted oi (yielded ops a.tmps) = true)
    (hx : a.eval x = .pointer (some ⟨b, o, none⟩)) (hR : ∀ w, S w → w.rangeAt b o C.toList) (hu : P.underlying ty = some d) (hd : d.isRow = true) (hz : (P.info? ty).map (·.size) = some C.size) (hS : S w)
    (h : wpAnyH P md ops Q S fuel (listed.setIfInBounds i true) (a.put dd (.agg C)) w) : wpAnyH P md ops Q S (fuel + 1) listed a w := by
  subst hdst
  exact wpAnyH_take hi hs hf hr hQ (yieldsIf_load_mid hw ty x ho b o hx C.toList d hR hu hd (by rw [hz, Array.length_toList])) hS h

/-- a store of a whole row -/
theorem h_store (i : Nat) {oi : Oper} (ty : TypeId) (x y : Operand) (g : Nat) (C : Array Value) (hr : Region.ready md ops listed = [i]) (hi : ops[i]? = some oi) (hw : Region.wanted oi (yielded ops a.tmps) = true)
    (hdst : oi.dst = none) (ho : oi.op = .store ty x y) (hx : a.eval x = .pointer (some ⟨g, 0, none⟩)) (hy : a.eval y = .agg C) (t : TypeId) (hold : ∃ old : Array Value, w.heap[g]? = some (.cells old t (0, 0)) ∧ old.size = C.size) (hz : (P.info? ty).map (·.size) = some C.size)
    (h1 : C.all (·.oneCell') = true) (hS : ∀ W, Chg (fun k => k = g) w W → W.heap[g]? = some (.cells C t (0, 0)) → S W)
    (h : ∀ W, Chg (fun k => k = g) w W → W.heap[g]? = some (.cells C t (0, 0)) → wpAnyH P md ops Q S fuel (listed.setIfInBounds i true) a W) : wpAnyH P md ops Q S (fuel + 1) listed a w := by
  obtain ⟨old, hg, hold⟩ := hold
  have hput : a.put oi.dst undef = a := by rw [hdst]; rfl
  have k1 : Chg (fun k => k = g) w (w.setRow g C) := (Chg.refl (fun k => k = g) _).setRow (.inl rfl) _
  have k2 := setRow_heap w g old C t (0, 0) hg
  exact h_one i hr hi hw (fun K hK => wp_store_row ty x y ho g C hx hy t old hg hz hold h1 (by rw [hput]; exact hK.out _ _ (hS _ k1 k2) (fun _ => h _ k1 k2)))
end
end Go.Proofs.YtpcmnphohneddaaGreatDoor
