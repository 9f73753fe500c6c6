/- The disk's cache: the map's operations at sectors. -/
import Derived.Test.YthhbdejagglgbaaGreatDiskD
import Derived.Deep.MidRow
import Derived.StillTailTactics
namespace Go.Proofs.YthhbdejagglgbaaGreat
open Go.RowKit Go.Maps
set_option linter.unusedVariables false

def zSec : Array Value := Array.replicate 64 (.int .u8 0)
theorem zero_sec (w : World) : (zeroValue 78).run Tryz.prog w = .ok (.agg zSec) w := by kernel_rfl

theorem look_mem {m : List (Nat × List UInt8)} {p : Nat × List UInt8} (hn : (m.map (·.1)).Nodup) (hp : p ∈ m) : look m p.1 = some p.2 := by
  unfold look
  induction m with
  | nil => cases hp
  | cons q r ih =>
    rw [List.map_cons, List.nodup_cons] at hn
    rw [List.find?_cons]
    rcases List.mem_cons.1 hp with rfl | hr
    · simp
    · have hne : q.1 ≠ p.1 := fun e => hn.1 (by rw [e]; exact List.mem_map.2 ⟨p, hr, rfl⟩)
      simp only [beq_eq_false_iff_ne.2 hne]
      exact ih hn.2 hr

theorem look_none {m : List (Nat × List UInt8)} {i : Nat} (h : ∀ p ∈ m, p.1 ≠ i) : look m i = none := by
  unfold look
  rw [List.find?_eq_none.2 (fun p hp => by simpa using h p hp)]
  rfl

theorem key_i64 (i : Nat) (h : i < 9223372036854775808) : keyOf Tryz.prog 3 (.int .i64 (i : Int)) = some (.int .i64 (i : Int)) :=
  Go.Maps.keyOf_int_mk Tryz.underlying3 (WalkArith.wf_i64 (by omega))

theorem intK : Keyed Tryz.prog 3 := Go.Maps.int_keyed Tryz.underlying3

theorem map_at {es : Array MapEntry} {m : List (Nat × List UInt8)} (hm : es.toList.map (fun e => (e.key, e.val)) = m.map (fun p => (Value.int .i64 (p.1 : Int), secV p.2))) {j : Nat} {e : MapEntry} (he : es.toList[j]? = some e) :
    ∃ p, m[j]? = some p ∧ e.key = .int .i64 (p.1 : Int) ∧ e.val = secV p.2 := by
  have h1 : (es.toList.map (fun e => (e.key, e.val)))[j]? = some (e.key, e.val) := by rw [List.getElem?_map, he]; rfl
  rw [hm, List.getElem?_map] at h1
  obtain ⟨p, hp, e'⟩ := Option.map_eq_some_iff.1 h1
  exact ⟨p, hp, (Prod.mk.inj e').1.symm, (Prod.mk.inj e').2.symm⟩

theorem keys_ok {es : Array MapEntry} {m : List (Nat × List UInt8)} (hm : es.toList.map (fun e => (e.key, e.val)) = m.map (fun p => (Value.int .i64 (p.1 : Int), secV p.2))) (hk : ∀ p ∈ m, p.1 < 1024) :
    ∀ e ∈ es.toList, ∃ l, keyOf Tryz.prog 3 e.key = some l := by
  intro e he
  obtain ⟨j, hj⟩ := List.getElem?_of_mem he
  obtain ⟨p, hp, h1, _⟩ := map_at hm hj
  rw [h1]
  exact ⟨_, key_i64 p.1 (by have := hk p (List.mem_of_getElem? hp); omega)⟩

/-- what the map's search finds -/
theorem i64_inj {a b : Nat} (h : Value.int .i64 (a : Int) = Value.int .i64 (b : Int)) : a = b := by
  have h2 : (a : Int) = (b : Int) := by injection h
  exact Int.natCast_inj.1 h2
theorem find_run {w W : World} {b : Nat} {m : List (Nat × List UInt8)} {es : Array MapEntry} (hs : (es.toList.map (·.key)).Nodup) (hm : es.toList.map (fun e => (e.key, e.val)) = m.map (fun p => (Value.int .i64 (p.1 : Int), secV p.2)))
    (hmn : (m.map (·.1)).Nodup) (hk : ∀ p ∈ m, p.1 < 1024) (i : Nat) (hi : i < 1024) :
    ((Instr.findKey 3 (.int .i64 (i : Int)) es.toList).run Tryz.prog W = .ok none W ∧ ∀ p ∈ m, p.1 ≠ i) ∨
    ∃ j e p, (Instr.findKey 3 (.int .i64 (i : Int)) es.toList).run Tryz.prog W = .ok (some (j, secV p.2)) W ∧ es.toList[j]? = some e ∧ e.key = .int .i64 (i : Int) ∧ m[j]? = some p ∧ p.1 = i ∧ e.val = secV p.2 := by
  rcases intK.find W (key_i64 i (by omega)) es.toList (keys_ok hm hk) with ⟨h1, h2⟩ | ⟨j, e, h1, h2, h3⟩
  · refine .inl ⟨h1, fun p hp hpi => ?_⟩
    obtain ⟨j, hj⟩ := List.getElem?_of_mem hp
    have hlen : es.toList.length = m.length := by have := congrArg List.length hm; simpa using this
    have hjl : j < es.toList.length := by rw [hlen]; exact (List.getElem?_eq_some_iff.1 hj).1
    obtain ⟨q, hq, hk1, _⟩ := map_at hm (List.getElem?_eq_getElem hjl)
    rw [hj] at hq
    injection hq with hq
    subst hq
    exact h2 _ (List.getElem_mem hjl) (by rw [hk1, hpi])
  · obtain ⟨p, hp, hk1, hv⟩ := map_at hm h2
    refine .inr ⟨j, e, p, by rw [h1, hv], h2, h3, hp, ?_, hv⟩
    exact (i64_inj (h3.symm.trans hk1)).symm

/-- 'm[i]' and 'v, ok := m[i]' -/
theorem run_lookup {w : World} {b : Nat} {m : List (Nat × List UInt8)} (h : MapIs w b m) (hk : ∀ p ∈ m, p.1 < 1024) (i : Nat) (hi : i < 1024) (W : World) (hW : W.heap[b]? = w.heap[b]?) (ok : Bool) :
    (Instr.lookup 28 (.map (some b)) (.int .i64 (i : Int)) ok).run Tryz.prog W =
      .ok (let v := match look m i with | some l => secV l | none => .agg zSec
           if ok then .tuple #[v, .bool (look m i).isSome] else v) W := by
  have hn := mapIs_nodup h
  obtain ⟨es, clock, hb, hs, hm⟩ := h
  have hb' : W.heap[b]? = some (.map es clock) := hW.trans hb
  rcases find_run (w := w) (W := W) (b := b) hs.2.2 hm hn hk i hi with ⟨h1, h2⟩ | ⟨j, e, p, h1, h2, h3, h4, h5, h6⟩
  · have hl := look_none h2
    cases ok <;> simp [Instr.lookup, run_underlying Tryz.underlying28, getObj, Sem.run, hb', intK.check W _ (key_i64 i (by omega)), h1, hl] <;> rfl
  · have hl : look m i = some p.2 := by rw [← h5]; exact look_mem hn (List.mem_of_getElem? h4)
    cases ok <;> simp [Instr.lookup, run_underlying Tryz.underlying28, getObj, Sem.run, hb', intK.check W _ (key_i64 i (by omega)), h1, hl]

theorem upd_none {m : List (Nat × List UInt8)} {i : Nat} {l : List UInt8} (h : ∀ p ∈ m, p.1 ≠ i) : upd m i l = m ++ [(i, l)] := by
  unfold upd
  rw [List.find?_eq_none.2 (fun p hp => by simpa using h p hp)]
  rfl
theorem upd_some {m : List (Nat × List UInt8)} {i j : Nat} {l : List UInt8} {p : Nat × List UInt8} (hn : (m.map (·.1)).Nodup) (hj : m[j]? = some p) (hp : p.1 = i) : upd m i l = m.set j (i, l) := by
  have hm : p ∈ m := List.mem_of_getElem? hj
  have hf : (m.find? (fun q => q.1 == i)).isSome = true := by
    rw [List.find?_isSome]; exact ⟨p, hm, by simp [hp]⟩
  unfold upd
  rw [if_pos hf]
  apply List.ext_getElem?
  intro k
  rw [List.getElem?_map, List.getElem?_set]
  have hjl : j < m.length := (List.getElem?_eq_some_iff.1 hj).1
  by_cases hkj : j = k
  · subst hkj
    obtain ⟨_, hmj⟩ := List.getElem?_eq_some_iff.1 hj
    simp [hmj, hp, hjl]
  · simp only [hkj, if_false]
    cases hk : m[k]? with
    | none => rfl
    | some q =>
      have hne : q.1 ≠ i := by
        intro e
        have h1 : (m.map (·.1))[k]? = some i := by rw [List.getElem?_map, hk, Option.map_some, e]
        have h2 : (m.map (·.1))[j]? = some i := by rw [List.getElem?_map, hj, Option.map_some, hp]
        have hkl : k < m.length := (List.getElem?_eq_some_iff.1 hk).1
        exact hkj ((List.getElem?_inj (by simpa using hjl) hn).1 (h2.trans h1.symm))
      simp [hne]

/-- 'm[i] = s' -/
theorem run_update {w : World} {b : Nat} {m : List (Nat × List UInt8)} (h : MapIs w b m) (hk : ∀ p ∈ m, p.1 < 1024) (i : Nat) (hi : i < 1024) (l : List UInt8) :
    ∃ w', (Instr.mapUpdate 28 (.map (some b)) (.int .i64 (i : Int)) (secV l)).run Tryz.prog w = .ok () w' ∧ MapIs w' b (upd m i l) ∧ Chg (fun k => k = b) w w' := by
  have hn := mapIs_nodup h
  obtain ⟨es, clock, hb, hs, hm⟩ := h
  have hbl : b < w.heap.size := (Array.getElem?_eq_some_iff.1 hb).1
  have hset : ∀ o, ({ w with heap := w.heap.setIfInBounds b o } : World).heap[b]? = some o := fun o => by simp [hbl]
  have hchg : ∀ o, Chg (fun k => k = b) w { w with heap := w.heap.setIfInBounds b o } := fun o => ⟨rfl, rfl, rfl, by simp, fun k hkl hne => by simp [Ne.symm hne]⟩
  rcases find_run (w := w) (W := w) (b := b) hs.2.2 hm hn hk i hi with ⟨h1, h2⟩ | ⟨j, e, p, h1, h2, h3, h4, h5, h6⟩
  · refine ⟨{ w with heap := w.heap.setIfInBounds b (.map (es.push { key := .int .i64 (i : Int), val := secV l, born := clock }) (clock + 1)) }, ?_, ⟨_, _, hset _, ?_, ?_⟩, hchg _⟩
    · simp [Instr.mapUpdate, run_underlying Tryz.underlying28, getObj, setObj, Sem.run, hb, intK.check w _ (key_i64 i (by omega)), h1]
    · obtain ⟨s1, s2, s3⟩ := hs
      refine ⟨?_, ?_, ?_⟩
      · intro x hx
        simp only [Array.toList_push, List.mem_append, List.mem_singleton] at hx
        rcases hx with hx | rfl
        · have := s1 x hx; omega
        · simp
      · simp only [Array.toList_push, List.map_append, List.map_cons, List.map_nil]
        refine List.nodup_append.2 ⟨s2, by simp, ?_⟩
        rintro a ha b hb' rfl
        simp only [List.mem_singleton] at hb'
        obtain ⟨x, hx, rfl⟩ := List.mem_map.1 ha
        have := s1 x hx; omega
      · simp only [Array.toList_push, List.map_append, List.map_cons, List.map_nil]
        refine List.nodup_append.2 ⟨s3, by simp, ?_⟩
        rintro a ha b hb' rfl
        simp only [List.mem_singleton] at hb'
        obtain ⟨x, hx, hxk⟩ := List.mem_map.1 ha
        obtain ⟨j, hj⟩ := List.getElem?_of_mem hx
        obtain ⟨q, hq, hk1, _⟩ := map_at hm hj
        exact h2 q (List.mem_of_getElem? hq) (i64_inj ((hb'.symm.trans (hxk.symm.trans hk1)))).symm
    · rw [upd_none h2]
      simp only [Array.toList_push, List.map_append, List.map_cons, List.map_nil, hm]
  · have hjl : j < es.size := by simpa using (List.getElem?_eq_some_iff.1 h2).1
    have he : es[j]? = some e := by simpa using h2
    obtain ⟨_, hej⟩ := Array.getElem?_eq_some_iff.1 he
    refine ⟨{ w with heap := w.heap.setIfInBounds b (.map (es.modify j fun e => { e with key := .int .i64 (i : Int), val := secV l }) clock) }, ?_, ⟨_, _, hset _, ?_, ?_⟩, hchg _⟩
    · have hks := intK.stays w (key_i64 i (by omega))
      simp [Instr.mapUpdate, run_underlying Tryz.underlying28, getObj, setObj, Sem.run, hb, intK.check w _ (key_i64 i (by omega)), h1, he, h3, hks]
    · obtain ⟨s1, s2, s3⟩ := hs
      have hmod : (es.modify j fun e => { e with key := .int .i64 (i : Int), val := secV l }).toList = es.toList.set j { e with key := .int .i64 (i : Int), val := secV l } := by
        apply List.ext_getElem?
        intro k
        rw [Array.getElem?_toList, Array.getElem?_modify, List.getElem?_set, Array.getElem?_toList]
        by_cases hkj : j = k
        · subst hkj; simp [hjl, hej]
        · simp [hkj]
      have hborn : (es.toList.set j { e with key := .int .i64 (i : Int), val := secV l }).map (·.born) = es.toList.map (·.born) := by
        apply List.ext_getElem?
        intro k
        rw [List.getElem?_map, List.getElem?_map, List.getElem?_set]
        by_cases hkj : j = k
        · subst hkj; simp [hjl, hej]
        · simp [hkj]
      have hkey : (es.toList.set j { e with key := .int .i64 (i : Int), val := secV l }).map (·.key) = es.toList.map (·.key) := by
        apply List.ext_getElem?
        intro k
        rw [List.getElem?_map, List.getElem?_map, List.getElem?_set]
        by_cases hkj : j = k
        · subst hkj; simp [hjl, hej, h3]
        · simp [hkj]
      refine ⟨?_, ?_, ?_⟩
      · intro x hx
        rw [hmod] at hx
        have : x.born ∈ es.toList.map (·.born) := by rw [← hborn]; exact List.mem_map.2 ⟨x, hx, rfl⟩
        obtain ⟨y, hy, hxy⟩ := List.mem_map.1 this
        have := s1 y hy
        omega
      · rw [hmod, hborn]; exact s2
      · rw [hmod, hkey]; exact s3
    · have hmod : (es.modify j fun e => { e with key := .int .i64 (i : Int), val := secV l }).toList = es.toList.set j { e with key := .int .i64 (i : Int), val := secV l } := by
        apply List.ext_getElem?
        intro k
        rw [Array.getElem?_toList, Array.getElem?_modify, List.getElem?_set, Array.getElem?_toList]
        by_cases hkj : j = k
        · subst hkj; simp [hjl, hej]
        · simp [hkj]
      rw [hmod, upd_some hn h4 h5]
      rw [List.map_set, List.map_set, hm]

/-- 'clear(m)' -/
theorem run_clear {w : World} {b : Nat} {m : List (Nat × List UInt8)} (h : MapIs w b m) :
    ∃ w', (Builtin.clear_ #[28] 0 #[.map (some b)]).run Tryz.prog w = .ok (.tuple #[]) w' ∧ MapIs w' b [] ∧ Chg (fun k => k = b) w w' := by
  obtain ⟨es, clock, hb, hs, hm⟩ := h
  have hbl : b < w.heap.size := (Array.getElem?_eq_some_iff.1 hb).1
  refine ⟨{ w with heap := w.heap.setIfInBounds b (.map #[] clock) }, ?_, ⟨#[], clock, by simp [hbl], ⟨by simp, by simp, by simp⟩, by simp⟩, ⟨rfl, rfl, rfl, by simp, fun k hkl hne => by simp [Ne.symm hne]⟩⟩
  simp [Builtin.clear_, run_underlying Tryz.underlying28, getObj, setObj, Sem.run, hb]
end Go.Proofs.YthhbdejagglgbaaGreat
