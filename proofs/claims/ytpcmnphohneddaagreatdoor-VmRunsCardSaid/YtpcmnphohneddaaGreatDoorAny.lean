/- Regions that draw their order, walked by hand in every order: which may come up; an operation that only computes, one that is not wanted, a load and a store of a whole row, any other. No condition of the program. -/
import Derived.Test.YtpcmnphohneddaaGreatDoorBase
import Derived.RegionTactic
import Derived.Deep.MidRow
namespace Go.Proofs.YtpcmnphohneddaaGreatDoor
open Go.RowKit
set_option linter.unusedVariables false

section
variable {P : Program} {md : Region.Mode} {ops : Array Oper} {Q : Exit → Act → World → Prop} {fuel : Nat} {listed : Array Bool} {a : Act} {w : World} {K : Act → World → Prop} {i : Nat}

theorem g_one (i : Nat) (hr : Region.ready md ops listed = [i]) (h : wpOp P ops Q i (wpAny P md ops Q fuel (listed.setIfInBounds i true)) a w) : wpAny P md ops Q (fuel + 1) listed a w := by
  refine ⟨fun h0 => ?_, fun j hj => ?_⟩
  · rw [hr] at h0; cases h0
  · rw [hr, List.mem_singleton] at hj
    subst hj
    exact h

theorem g_two (i j : Nat) (hr : Region.ready md ops listed = [i, j]) (h : wpOp P ops Q i (wpAny P md ops Q fuel (listed.setIfInBounds i true)) a w) (h' : wpOp P ops Q j (wpAny P md ops Q fuel (listed.setIfInBounds j true)) a w) : wpAny P md ops Q (fuel + 1) listed a w := by
  refine ⟨fun h0 => ?_, fun k hk => ?_⟩
  · rw [hr] at h0; cases h0
  · rw [hr, List.mem_cons, List.mem_singleton] at hk
    rcases hk with rfl | rfl
    · exact h
    · exact h'

theorem g_three (i j l : Nat) (hr : Region.ready md ops listed = [i, j, l]) (h : wpOp P ops Q i (wpAny P md ops Q fuel (listed.setIfInBounds i true)) a w) (h' : wpOp P ops Q j (wpAny P md ops Q fuel (listed.setIfInBounds j true)) a w)
    (h'' : wpOp P ops Q l (wpAny P md ops Q fuel (listed.setIfInBounds l true)) a w) : wpAny P md ops Q (fuel + 1) listed a w := by
  refine ⟨fun h0 => ?_, fun k hk => ?_⟩
  · rw [hr] at h0; cases h0
  · rw [hr, List.mem_cons, List.mem_cons, List.mem_singleton] at hk
    rcases hk with rfl | rfl | rfl
    · exact h
    · exact h'
    · exact h''

theorem g_pure (d : Option Tmp) (v : Value) {oi : Oper} (hi : ops[i]? = some oi) (hdst : oi.dst = d) (hw : Region.wanted oi (yielded ops a.tmps) = true) (he : (execOp a.eval oi).run P w = .ok (.value v) w) (h : K (a.put d v) w) : wpOp P ops Q i K a w := by
  subst hdst
  unfold wpOp
  simp only [hi, hw, if_true, Oper.wp, he, Oper.upon]
  exact .inl h

theorem g_skip (d : Option Tmp) {oi : Oper} (hi : ops[i]? = some oi) (hdst : oi.dst = d) (hw : Region.wanted oi (yielded ops a.tmps) = false) (h : K (a.put d undef) w) : wpOp P ops Q i K a w := by
  subst hdst
  unfold wpOp
  simp only [hi, hw, Bool.false_eq_true, if_false]
  exact h

theorem g_any {oi : Oper} (hi : ops[i]? = some oi) (hw : Region.wanted oi (yielded ops a.tmps) = true) (h : ∀ K' : Act → World → Prop, (∀ a w, K a w → K' a w) → Oper.wp P oi a w K' Q) : wpOp P ops Q i K a w :=
  wpOp_step hi (fun K' hK => by rw [if_pos hw]; exact h K' hK)

theorem g_load (d : Option Tmp) (ty : TypeId) (x : Operand) (b o : Nat) (C : Array Value) (td : TypeDesc) {oi : Oper} (hi : ops[i]? = some oi) (hdst : oi.dst = d) (ho : oi.op = .load ty x) (hw : Region.wanted oi (yielded ops a.tmps) = true)
    (hx : a.eval x = .pointer (some ⟨b, o, none⟩)) (hR : w.rangeAt b o C.toList) (hu : P.underlying ty = some td) (hd : td.isRow = true) (hz : (P.info? ty).map (·.size) = some C.size) (h : K (a.put d (.agg C)) w) : wpOp P ops Q i K a w := by
  subst hdst
  exact g_any hi hw (fun K' hK => wp_load_mid ty x ho b o hx C.toList td hR hu hd (by rw [hz, Array.length_toList]) (hK _ _ h))

theorem g_store (ty : TypeId) (x y : Operand) (g : Nat) (C : Array Value) {oi : Oper} (hi : ops[i]? = some oi) (hdst : oi.dst = none) (ho : oi.op = .store ty x y) (hw : Region.wanted oi (yielded ops a.tmps) = true)
    (hx : a.eval x = .pointer (some ⟨g, 0, none⟩)) (hy : a.eval y = .agg C) (t : TypeId) (hold : ∃ old : Array Value, w.heap[g]? = some (.cells old t (0, 0)) ∧ old.size = C.size) (hz : (P.info? ty).map (·.size) = some C.size)
    (h1 : C.all (·.oneCell') = true) (h : ∀ W, Chg (fun k => k = g) w W → W.heap[g]? = some (.cells C t (0, 0)) → K a W) : wpOp P ops Q i K a w := by
  obtain ⟨old, hg, hold⟩ := hold
  have hput : a.put oi.dst undef = a := by rw [hdst]; rfl
  exact g_any hi hw (fun K' hK => wp_store_row ty x y ho g C hx hy t old hg hz hold h1 (by
    rw [hput]
    exact hK _ _ (h _ ((Chg.refl (fun k => k = g) _).setRow (.inl rfl) _) (setRow_heap w g old C t (0, 0) hg))))

/-- the ways through a region meet again: one frame, and what is known of the world -/
theorem wp_cutA {id : Nat} {b : Bool} (a' : Act) (R : World → Prop) (h : (Code.region id ops b).wp P (fun e x v => e = .normal ∧ x = a' ∧ R v) a w) (hk : ∀ v, R v → Q .normal a' v) : (Code.region id ops b).wp P Q a w :=
  Code.wp_mono (fun e x v ⟨he, hx, hr⟩ => by subst he; subst hx; exact hk v hr) h

theorem wp_cutB {id : Nat} {b : Bool} {α : Type} (f : α → Act → Act) (R : α → World → Prop) (h : (Code.region id ops b).wp P (fun e x v => e = .normal ∧ ∃ y, x = f y a ∧ R y v) a w) (hk : ∀ y v, R y v → Q .normal (f y a) v) : (Code.region id ops b).wp P Q a w :=
  Code.wp_mono (fun e x v ⟨he, y, hx, hr⟩ => by subst he; subst hx; exact hk y v hr) h

theorem g_step (d : Option Tmp) (v : Value) (w' : World) {oi : Oper} (hi : ops[i]? = some oi) (hdst : oi.dst = d) (hw : Region.wanted oi (yielded ops a.tmps) = true) (he : (execOp a.eval oi).run P w = .ok (.value v) w') (h : K (a.put d v) w') : wpOp P ops Q i K a w := by
  subst hdst
  unfold wpOp
  simp only [hi, hw, if_true, Oper.wp, he, Oper.upon]
  exact .inl h

theorem g_four (i j l m : Nat) (hr : Region.ready md ops listed = [i, j, l, m]) (h : wpOp P ops Q i (wpAny P md ops Q fuel (listed.setIfInBounds i true)) a w) (h' : wpOp P ops Q j (wpAny P md ops Q fuel (listed.setIfInBounds j true)) a w)
    (h'' : wpOp P ops Q l (wpAny P md ops Q fuel (listed.setIfInBounds l true)) a w) (h4 : wpOp P ops Q m (wpAny P md ops Q fuel (listed.setIfInBounds m true)) a w) : wpAny P md ops Q (fuel + 1) listed a w := by
  refine ⟨fun h0 => ?_, fun k hk => ?_⟩
  · rw [hr] at h0; cases h0
  · rw [hr, List.mem_cons, List.mem_cons, List.mem_cons, List.mem_singleton] at hk
    rcases hk with rfl | rfl | rfl | rfl
    · exact h
    · exact h'
    · exact h''
    · exact h4

theorem wpList_wanted {rest : List Oper} {o : Oper} (hw : Region.wanted o (yielded ops a.tmps) = true) (h : ∀ K : Act → World → Prop, (∀ a w, wpList P ops Q rest a w → K a w) → o.wp P a w K Q) : wpList P ops Q (o :: rest) a w :=
  wpList_step fun K hK => by rw [if_pos hw]; exact h K hK
/-- an operation of a plain region that is wanted and computes -/
theorem wpList_pureW {rest : List Oper} {o : Oper} (d : Option Tmp) (v : Value) (hdst : o.dst = d) (hw : Region.wanted o (yielded ops a.tmps) = true) (he : (execOp a.eval o).run P w = .ok (.value v) w) (h : wpList P ops Q rest (a.put d v) w) : wpList P ops Q (o :: rest) a w := by
  subst hdst
  refine wpList_wanted hw fun K hK => ?_
  simp only [Oper.wp, he, Oper.upon]
  exact hK _ _ h
/-- a load of a whole row, wanted -/
theorem wpList_loadW {rest : List Oper} {o : Oper} (d : Option Tmp) (ty : TypeId) (x : Operand) (b off : Nat) (C : Array Value) (td : TypeDesc) (hdst : o.dst = d) (ho : o.op = .load ty x) (hw : Region.wanted o (yielded ops a.tmps) = true)
    (hx : a.eval x = .pointer (some ⟨b, off, none⟩)) (hR : w.rangeAt b off C.toList) (hu : P.underlying ty = some td) (hd : td.isRow = true) (hz : (P.info? ty).map (·.size) = some C.size) (h : wpList P ops Q rest (a.put d (.agg C)) w) : wpList P ops Q (o :: rest) a w := by
  subst hdst
  exact wpList_wanted hw fun K hK => wp_load_mid ty x ho b off hx C.toList td hR hu hd (by rw [hz, Array.length_toList]) (hK _ _ h)

/-- an operation of a plain region that computes -/
theorem wpList_pure {rest : List Oper} {o : Oper} (hgd : o.guard = none) (d : Option Tmp) (v : Value) (hdst : o.dst = d) (he : (execOp a.eval o).run P w = .ok (.value v) w) (h : wpList P ops Q rest (a.put d v) w) : wpList P ops Q (o :: rest) a w := by
  subst hdst
  refine wpList_plain hgd fun K hK => ?_
  simp only [Oper.wp, he, Oper.upon]
  exact hK _ _ h
end
end Go.Proofs.YtpcmnphohneddaaGreatDoor
