/- Storing one sector; what spills. -/
import Derived.Test.YthhbdejagglgbaaGreatDiskW
namespace Go.Proofs.YthhbdejagglgbaaGreat
open Go.RowKit
set_option linter.unusedVariables false

theorem setCells_block (b : Nat) : ∀ (vs : List Value) (o : Nat) (w : World) (cs : Array Value) (t : TypeId), w.heap[b]? = some (.cells cs t (0, 0)) →
    ∃ cs2, (w.setCells b o vs).heap[b]? = some (.cells cs2 t (0, 0)) ∧ cs2.size = cs.size ∧ Chg (fun k => k = b) w (w.setCells b o vs)
  | [], o, w, cs, t, h => ⟨cs, h, rfl, Chg.refl _ _⟩
  | v :: r, o, w, cs, t, h => by
    obtain ⟨cs2, h1, h2, h3⟩ := setCells_block b r (o + 1) (w.setCell ⟨b, o, none⟩ v) (cs.setIfInBounds o v) t (heap_setCell_same _ _ _ _ _ _ h)
    refine ⟨cs2, h1, by simpa using h2, ?_⟩
    exact ((Chg.refl (fun k => k = b) w).setCell (p := ⟨b, o, none⟩) (.inl rfl) v).trans_same h3

theorem flat_set {sec : List (List UInt8)} (h : ∀ s ∈ sec, s.length = 64) (k : Nat) (hk : k < sec.length) (l : List UInt8) (hl : l.length = 64) (j : Nat) :
    (sec.set k l).flatten[j]? = if k * 64 ≤ j ∧ j < k * 64 + 64 then l[j - k * 64]? else sec.flatten[j]? := by
  have h' : ∀ s ∈ sec.set k l, s.length = 64 := by
    intro s hs
    rcases List.mem_or_eq_of_mem_set hs with hs | rfl
    · exact h s hs
    · exact hl
  by_cases hj : j < sec.length * 64
  · have hq : j / 64 < sec.length := by omega
    have hjj : j = j / 64 * 64 + j % 64 := by omega
    have hm : j % 64 < 64 := by omega
    have e1 := flat_at h' (j / 64) (by simpa using hq) (j % 64) hm
    have e2 := flat_at h (j / 64) hq (j % 64) hm
    rw [← hjj] at e1 e2
    rw [e1, e2]
    by_cases hkj : k = j / 64
    · rw [if_pos (by omega)]
      have : (sec.set k l)[j / 64]'(by simpa using hq) = l := by simp [hkj]
      rw [this, show j - k * 64 = j % 64 from by omega]
    · rw [if_neg (by omega)]
      have : (sec.set k l)[j / 64]'(by simpa using hq) = sec[j / 64] := by simp [hkj]
      rw [this]
  · have e1 : (sec.set k l).flatten[j]? = none := List.getElem?_eq_none (by rw [flat_len h', List.length_set]; omega)
    have e2 : sec.flatten[j]? = none := List.getElem?_eq_none (by rw [flat_len h]; omega)
    rw [e1, e2, if_neg (by omega)]

theorem setCells_sec {w : World} {ps : Nat} {t : TypeId} {sec : List (List UInt8)} (hb : w.heap[ps]? = some (.cells (sec.flatten.map bv).toArray t (0, 0))) (h : ∀ s ∈ sec, s.length = 64) (k : Nat) (hk : k < sec.length) (l : List UInt8) (hl : l.length = 64) :
    (w.setCells ps (k * 64) (l.map bv)).heap[ps]? = some (.cells ((sec.set k l).flatten.map bv).toArray t (0, 0)) ∧ Chg (fun x => x = ps) w (w.setCells ps (k * 64) (l.map bv)) := by
  obtain ⟨cs2, h1, h2, h3⟩ := setCells_block ps (l.map bv) (k * 64) w _ t hb
  refine ⟨?_, h3⟩
  rw [h1]
  congr 2
  apply Array.ext_getElem?
  intro j
  have hc : cs2[j]? = (w.setCells ps (k * 64) (l.map bv)).cell? ⟨ps, j, none⟩ := (cell_of_row _ _ _ _ _ _ h1).symm
  have hw : w.cell? ⟨ps, j, none⟩ = (sec.flatten.map bv).toArray[j]? := cell_of_row _ _ _ _ _ _ hb
  rw [hc, List.getElem?_toArray, List.getElem?_map, flat_set h k hk l hl j]
  have hsome : ∀ j, j < (l.map bv).length → (w.cell? ⟨ps, k * 64 + j, none⟩).isSome = true := by
    intro j hj
    rw [cell_of_row _ _ _ _ _ _ hb]
    have : k * 64 + j < sec.flatten.length := by rw [flat_len h]; simp [hl] at hj; have : (k + 1) * 64 ≤ sec.length * 64 := Nat.mul_le_mul_right 64 hk; omega
    rw [List.getElem?_toArray, List.getElem?_map, List.getElem?_eq_getElem this]
    rfl
  by_cases hj : k * 64 ≤ j ∧ j < k * 64 + 64
  · rw [if_pos hj]
    obtain ⟨d, rfl⟩ : ∃ d, j = k * 64 + d := ⟨j - k * 64, by omega⟩
    have hd : d < (l.map bv).length := by simp [hl]; omega
    rw [World.cell?_setCells_in ps (l.map bv) (k * 64) w hsome d hd, Nat.add_sub_cancel_left, ← List.getElem?_map, List.getElem?_eq_getElem hd]
  · rw [if_neg hj, World.cell?_setCells_out ps (l.map bv) (k * 64) w ⟨ps, j, none⟩ (fun _ _ => by simp [hl]; omega), hw, List.getElem?_toArray, List.getElem?_map]

/-- a sector stored, in a plain list of operations: the world behind it is a letter -/
theorem wpList_store_sec {w : World} {ops : Array Oper} {rest : List Oper} {op : Oper} {a : Act} {Q : Exit → Act → World → Prop} (hgd : op.guard = none) (x y : Operand) (ho : op.op = .store 78 x y)
    (ps k : Nat) (sec : List (List UInt8)) (t : TypeId) (l : List UInt8) (hx : a.eval x = .pointer (some ⟨ps, k * 64, none⟩)) (hy : a.eval y = secV l) (hb : w.heap[ps]? = some (.cells (sec.flatten.map bv).toArray t (0, 0)))
    (h : ∀ s ∈ sec, s.length = 64) (hk : k < sec.length) (hl : l.length = 64)
    (hn : ∀ W, W.heap[ps]? = some (.cells ((sec.set k l).flatten.map bv).toArray t (0, 0)) → Chg (fun x => x = ps) w W → wpList Tryz.prog ops Q rest (a.put op.dst undef) W) : wpList Tryz.prog ops Q (op :: rest) a w := by
  refine wpList_store_mid hgd 78 x y ho ps (k * 64) (secA l) hx hy ?_ (by rw [secA_size l hl]; exact info_sec) (secA_one l) ?_
  · intro j hj
    rw [secA_size l hl] at hj
    refine ⟨?_, frozen_of_row _ _ _ _ _ hb⟩
    rw [cell_of_row _ _ _ _ _ _ hb]
    have : k * 64 + j < sec.flatten.length := by rw [flat_len h]; have : (k + 1) * 64 ≤ sec.length * 64 := Nat.mul_le_mul_right 64 hk; omega
    rw [List.getElem?_toArray, List.getElem?_map, List.getElem?_eq_getElem this]
    rfl
  · obtain ⟨h1, h2⟩ := setCells_sec hb h k hk l hl
    exact hn _ h1 h2

theorem spillTo_ok {D : Dk} (h : D.Ok) (st : Nat → Bool) : ∀ n, (D.spillTo st n).length = D.sec.length ∧ ∀ s ∈ D.spillTo st n, s.length = 64
  | 0 => ⟨rfl, h.secs⟩
  | n + 1 => by
    obtain ⟨h1, h2⟩ := spillTo_ok h st n
    unfold Dk.spillTo
    cases hk : (dirty D.cache)[n]? with
    | none => exact ⟨h1, h2⟩
    | some k =>
      by_cases hs : st n
      · simp only [hs, if_true]
        refine ⟨by rw [List.length_set, h1], fun s hm => ?_⟩
        rcases List.mem_or_eq_of_mem_set hm with hm | rfl
        · exact h2 s hm
        · have hkm : k ∈ D.cache.map (·.1) := (dirty_perm D.cache).mem_iff.1 (List.mem_of_getElem? hk)
          obtain ⟨p, hp, rfl⟩ := List.mem_map.1 hkm
          rw [look_mem h.nodup hp]
          exact (h.keys p hp).2
      · simp only [hs]
        exact ⟨h1, h2⟩

theorem dirty_look {D : Dk} (h : D.Ok) {n k : Nat} (hk : (dirty D.cache)[n]? = some k) : k < D.sec.length ∧ ∃ l, look D.cache k = some l ∧ l.length = 64 := by
  have hkm : k ∈ D.cache.map (·.1) := (dirty_perm D.cache).mem_iff.1 (List.mem_of_getElem? hk)
  obtain ⟨p, hp, rfl⟩ := List.mem_map.1 hkm
  exact ⟨(h.keys p hp).1, p.2, look_mem h.nodup hp, (h.keys p hp).2⟩

theorem cache_len {D : Dk} (h : D.Ok) : D.cache.length ≤ 1024 := by
  have h1 : (D.cache.map (·.1)).length ≤ (List.range D.sec.length).length := by
    refine List.Nodup.length_le_of_subset h.nodup ?_
    intro k hk
    obtain ⟨p, hp, rfl⟩ := List.mem_map.1 hk
    exact List.mem_range.2 (h.keys p hp).1
  rw [List.length_map, List.length_range] at h1
  have := h.most
  omega
end Go.Proofs.YthhbdejagglgbaaGreat
