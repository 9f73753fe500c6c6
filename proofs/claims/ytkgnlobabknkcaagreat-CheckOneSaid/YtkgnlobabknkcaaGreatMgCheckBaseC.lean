/- CheckBase, part 3 of 21: contracts of the functions that it reaches, and the laws that they need, merged and shortened (from my texts XDiskM, XDisk, XDiskR, XWireR, XDeep, XIsaP, XVmP, XBts, XVmG, XCfg, XStP). -/
import Derived.Test.YtkgnlobabknkcaaGreatMgCheckBaseA
import Derived.Test.YtkgnlobabknkcaaGreatMgCheckBaseB
import Derived.Deep.MidRow
import Derived.StillTailTactics
import Derived.Lib.AtoiAll
import Derived.Lib.ItoaNum
import Derived.Lib.Split
import Derived.Lib.SplitLaws
import Derived.Lib.Join
import Derived.Test.YtkgnlobabknkcaaGreatRows
import Derived.Deep.AppendLies
namespace Go.Proofs.YtkgnlobabknkcaaGreat
set_option linter.unusedVariables false
set_option linter.unusedSimpArgs false
set_option maxHeartbeats 8000000
section
open Go.RowKit Go.Maps
def zSec : Array Value := Array.replicate 64 (.int .u8 0)
theorem look_mem {m : List (Nat × List UInt8)} {p : Nat × List UInt8} (hn : (m.map (·.1)).Nodup) (hp : p ∈ m) : look m p.1 = some p.2 := by
 unfold look
 induction m with
 | nil => cases hp
 | cons q r ih =>
  rw [List.map_cons, List.nodup_cons] at hn
  rw [List.find?_cons]
  rcases List.mem_cons.1 hp with rfl | hr
  ·simp
  ·have hne : q.1 ≠ p.1 := fun e => hn.1 (by rw [e]; exact List.mem_map.2 ⟨p, hr, rfl⟩)
   simp only [beq_eq_false_iff_ne.2 hne]
   exact ih hn.2 hr
theorem look_none {m : List (Nat × List UInt8)} {i : Nat} (h : ∀ p ∈ m, p.1 ≠ i) : look m i = none := by
 unfold look
 rw [List.find?_eq_none.2 (fun p hp => by simpa using h p hp)]
 rfl
theorem key_i64 (i : Nat) (h : i < 9223372036854775808) : keyOf Tryz.prog 3 (.int .i64 (i : Int)) = some (.int .i64 (i : Int)) :=
 Go.Maps.keyOf_int_mk Tryz.underlying3 (WalkArith.wf_i64 (by omega))
theorem intK : Keyed Tryz.prog 3 := Go.Maps.int_keyed Tryz.underlying3
theorem map_at {es : Array MapEntry} {m : List (Nat × List UInt8)} (hm : es.toList.map (fun e => (e.key, e.val)) = m.map (fun p => (Value.int .i64 (p.1 : Int), secV p.2))) {j : Nat} {e : MapEntry} (he : es.toList[j]? = some e) :
  ∃ p, m[j]? = some p ∧ e.key = .int .i64 (p.1 : Int) ∧ e.val = secV p.2 := by
 have h1 : (es.toList.map (fun e => (e.key, e.val)))[j]? = some (e.key, e.val) := by rw [List.getElem?_map, he]; rfl
 rw [hm, List.getElem?_map] at h1
 obtain ⟨p, hp, e'⟩ := Option.map_eq_some_iff.1 h1
 exact ⟨p, hp, (Prod.mk.inj e').1.symm, (Prod.mk.inj e').2.symm⟩
theorem keys_ok {es : Array MapEntry} {m : List (Nat × List UInt8)} (hm : es.toList.map (fun e => (e.key, e.val)) = m.map (fun p => (Value.int .i64 (p.1 : Int), secV p.2))) (hk : ∀ p ∈ m, p.1 < 1024) :
  ∀ e ∈ es.toList, ∃ l, keyOf Tryz.prog 3 e.key = some l := by
 intro e he
 obtain ⟨j, hj⟩ := List.getElem?_of_mem he
 obtain ⟨p, hp, h1, _⟩ := map_at hm hj
 rw [h1]
 exact ⟨_, key_i64 p.1 (by have := hk p (List.mem_of_getElem? hp); omega)⟩
theorem i64_inj {a b : Nat} (h : Value.int .i64 (a : Int) = Value.int .i64 (b : Int)) : a = b := by
 have h2 : (a : Int) = (b : Int) := by injection h
 exact Int.natCast_inj.1 h2
theorem find_run {w W : World} {b : Nat} {m : List (Nat × List UInt8)} {es : Array MapEntry} (hs : (es.toList.map (·.key)).Nodup) (hm : es.toList.map (fun e => (e.key, e.val)) = m.map (fun p => (Value.int .i64 (p.1 : Int), secV p.2)))
  (hmn : (m.map (·.1)).Nodup) (hk : ∀ p ∈ m, p.1 < 1024) (i : Nat) (hi : i < 1024) :
  ((Instr.findKey 3 (.int .i64 (i : Int)) es.toList).run Tryz.prog W = .ok none W ∧ ∀ p ∈ m, p.1 ≠ i) ∨
  ∃ j e p, (Instr.findKey 3 (.int .i64 (i : Int)) es.toList).run Tryz.prog W = .ok (some (j, secV p.2)) W ∧ es.toList[j]? = some e ∧ e.key = .int .i64 (i : Int) ∧ m[j]? = some p ∧ p.1 = i ∧ e.val = secV p.2 := by
 rcases intK.find W (key_i64 i (by omega)) es.toList (keys_ok hm hk) with ⟨h1, h2⟩ | ⟨j, e, h1, h2, h3⟩
 ·refine .inl ⟨h1, fun p hp hpi => ?_⟩
  obtain ⟨j, hj⟩ := List.getElem?_of_mem hp
  have hlen : es.toList.length = m.length := by have := congrArg List.length hm; simpa using this
  have hjl : j < es.toList.length := by rw [hlen]; exact (List.getElem?_eq_some_iff.1 hj).1
  obtain ⟨q, hq, hk1, _⟩ := map_at hm (List.getElem?_eq_getElem hjl)
  rw [hj] at hq
  injection hq with hq
  subst hq
  exact h2 _ (List.getElem_mem hjl) (by rw [hk1, hpi])
 ·obtain ⟨p, hp, hk1, hv⟩ := map_at hm h2
  refine .inr ⟨j, e, p, by rw [h1, hv], h2, h3, hp, ?_, hv⟩
  exact (i64_inj (h3.symm.trans hk1)).symm
theorem run_lookup {w : World} {b : Nat} {m : List (Nat × List UInt8)} (h : MapIs w b m) (hk : ∀ p ∈ m, p.1 < 1024) (i : Nat) (hi : i < 1024) (W : World) (hW : W.heap[b]? = w.heap[b]?) (ok : Bool) :
  (Instr.lookup 38 (.map (some b)) (.int .i64 (i : Int)) ok).run Tryz.prog W =
   .ok (let v := match look m i with | some l => secV l | none => .agg zSec
        if ok then .tuple #[v, .bool (look m i).isSome] else v) W := by
 have hn := mapIs_nodup h
 obtain ⟨es, clock, hb, hs, hm⟩ := h
 have hb' : W.heap[b]? = some (.map es clock) := hW.trans hb
 rcases find_run (w := w) (W := W) (b := b) hs.2.2 hm hn hk i hi with ⟨h1, h2⟩ | ⟨j, e, p, h1, h2, h3, h4, h5, h6⟩
 ·have hl := look_none h2
  cases ok <;> simp [Instr.lookup, run_underlying Tryz.underlying38, getObj, Sem.run, hb', intK.check W _ (key_i64 i (by omega)), h1, hl] <;> rfl
 ·have hl : look m i = some p.2 := by rw [← h5]; exact look_mem hn (List.mem_of_getElem? h4)
  cases ok <;> simp [Instr.lookup, run_underlying Tryz.underlying38, getObj, Sem.run, hb', intK.check W _ (key_i64 i (by omega)), h1, hl]
theorem upd_none {m : List (Nat × List UInt8)} {i : Nat} {l : List UInt8} (h : ∀ p ∈ m, p.1 ≠ i) : upd m i l = m ++ [(i, l)] := by
 unfold upd
 rw [List.find?_eq_none.2 (fun p hp => by simpa using h p hp)]
 rfl
theorem upd_some {m : List (Nat × List UInt8)} {i j : Nat} {l : List UInt8} {p : Nat × List UInt8} (hn : (m.map (·.1)).Nodup) (hj : m[j]? = some p) (hp : p.1 = i) : upd m i l = m.set j (i, l) := by
 have hm : p ∈ m := List.mem_of_getElem? hj
 have hf : (m.find? (fun q => q.1 == i)).isSome = true := by
  rw [List.find?_isSome]; exact ⟨p, hm, by simp [hp]⟩
 unfold upd
 rw [if_pos hf]
 apply List.ext_getElem?
 intro k
 rw [List.getElem?_map, List.getElem?_set]
 have hjl : j < m.length := (List.getElem?_eq_some_iff.1 hj).1
 by_cases hkj : j = k
 ·subst hkj
  obtain ⟨_, hmj⟩ := List.getElem?_eq_some_iff.1 hj
  simp [hmj, hp, hjl]
 ·simp only [hkj, if_false]
  cases hk : m[k]? with
  | none => rfl
  | some q =>
   have hne : q.1 ≠ i := by
    intro e
    have h1 : (m.map (·.1))[k]? = some i := by rw [List.getElem?_map, hk, Option.map_some, e]
    have h2 : (m.map (·.1))[j]? = some i := by rw [List.getElem?_map, hj, Option.map_some, hp]
    have hkl : k < m.length := (List.getElem?_eq_some_iff.1 hk).1
    exact hkj ((List.getElem?_inj (by simpa using hjl) hn).1 (h2.trans h1.symm))
   simp [hne]
theorem run_update {w : World} {b : Nat} {m : List (Nat × List UInt8)} (h : MapIs w b m) (hk : ∀ p ∈ m, p.1 < 1024) (i : Nat) (hi : i < 1024) (l : List UInt8) :
  ∃ w', (Instr.mapUpdate 38 (.map (some b)) (.int .i64 (i : Int)) (secV l)).run Tryz.prog w = .ok () w' ∧ MapIs w' b (upd m i l) ∧ Chg (fun k => k = b) w w' := by
 have hn := mapIs_nodup h
 obtain ⟨es, clock, hb, hs, hm⟩ := h
 have hbl : b < w.heap.size := (Array.getElem?_eq_some_iff.1 hb).1
 have hset : ∀ o, ({ w with heap := w.heap.setIfInBounds b o } : World).heap[b]? = some o := fun o => by simp [hbl]
 have hchg : ∀ o, Chg (fun k => k = b) w { w with heap := w.heap.setIfInBounds b o } := fun o => ⟨rfl, rfl, rfl, by simp, fun k hkl hne => by simp [Ne.symm hne]⟩
 rcases find_run (w := w) (W := w) (b := b) hs.2.2 hm hn hk i hi with ⟨h1, h2⟩ | ⟨j, e, p, h1, h2, h3, h4, h5, h6⟩
 ·refine ⟨{ w with heap := w.heap.setIfInBounds b (.map (es.push { key := .int .i64 (i : Int), val := secV l, born := clock }) (clock + 1)) }, ?_, ⟨_, _, hset _, ?_, ?_⟩, hchg _⟩
  ·simp [Instr.mapUpdate, run_underlying Tryz.underlying38, getObj, setObj, Sem.run, hb, intK.check w _ (key_i64 i (by omega)), h1]
  ·obtain ⟨s1, s2, s3⟩ := hs
   refine ⟨?_, ?_, ?_⟩
   ·intro x hx
    simp only [Array.toList_push, List.mem_append, List.mem_singleton] at hx
    rcases hx with hx | rfl
    ·have := s1 x hx; omega
    ·simp
   ·simp only [Array.toList_push, List.map_append, List.map_cons, List.map_nil]
    refine List.nodup_append.2 ⟨s2, by simp, ?_⟩
    rintro a ha b hb' rfl
    simp only [List.mem_singleton] at hb'
    obtain ⟨x, hx, rfl⟩ := List.mem_map.1 ha
    have := s1 x hx; omega
   ·simp only [Array.toList_push, List.map_append, List.map_cons, List.map_nil]
    refine List.nodup_append.2 ⟨s3, by simp, ?_⟩
    rintro a ha b hb' rfl
    simp only [List.mem_singleton] at hb'
    obtain ⟨x, hx, hxk⟩ := List.mem_map.1 ha
    obtain ⟨j, hj⟩ := List.getElem?_of_mem hx
    obtain ⟨q, hq, hk1, _⟩ := map_at hm hj
    exact h2 q (List.mem_of_getElem? hq) (i64_inj ((hb'.symm.trans (hxk.symm.trans hk1)))).symm
  ·rw [upd_none h2]
   simp only [Array.toList_push, List.map_append, List.map_cons, List.map_nil, hm]
 ·have hjl : j < es.size := by simpa using (List.getElem?_eq_some_iff.1 h2).1
  have he : es[j]? = some e := by simpa using h2
  obtain ⟨_, hej⟩ := Array.getElem?_eq_some_iff.1 he
  refine ⟨{ w with heap := w.heap.setIfInBounds b (.map (es.modify j fun e => { e with key := .int .i64 (i : Int), val := secV l }) clock) }, ?_, ⟨_, _, hset _, ?_, ?_⟩, hchg _⟩
  ·have hks := intK.stays w (key_i64 i (by omega))
   simp [Instr.mapUpdate, run_underlying Tryz.underlying38, getObj, setObj, Sem.run, hb, intK.check w _ (key_i64 i (by omega)), h1, he, h3, hks]
  ·obtain ⟨s1, s2, s3⟩ := hs
   have hmod : (es.modify j fun e => { e with key := .int .i64 (i : Int), val := secV l }).toList = es.toList.set j { e with key := .int .i64 (i : Int), val := secV l } := by
    apply List.ext_getElem?
    intro k
    rw [Array.getElem?_toList, Array.getElem?_modify, List.getElem?_set, Array.getElem?_toList]
    by_cases hkj : j = k
    ·subst hkj; simp [hjl, hej]
    ·simp [hkj]
   have hborn : (es.toList.set j { e with key := .int .i64 (i : Int), val := secV l }).map (·.born) = es.toList.map (·.born) := by
    apply List.ext_getElem?
    intro k
    rw [List.getElem?_map, List.getElem?_map, List.getElem?_set]
    by_cases hkj : j = k
    ·subst hkj; simp [hjl, hej]
    ·simp [hkj]
   have hkey : (es.toList.set j { e with key := .int .i64 (i : Int), val := secV l }).map (·.key) = es.toList.map (·.key) := by
    apply List.ext_getElem?
    intro k
    rw [List.getElem?_map, List.getElem?_map, List.getElem?_set]
    by_cases hkj : j = k
    ·subst hkj; simp [hjl, hej, h3]
    ·simp [hkj]
   refine ⟨?_, ?_, ?_⟩
   ·intro x hx
    rw [hmod] at hx
    have : x.born ∈ es.toList.map (·.born) := by rw [← hborn]; exact List.mem_map.2 ⟨x, hx, rfl⟩
    obtain ⟨y, hy, hxy⟩ := List.mem_map.1 this
    have := s1 y hy
    omega
   ·rw [hmod, hborn]; exact s2
   ·rw [hmod, hkey]; exact s3
  ·have hmod : (es.modify j fun e => { e with key := .int .i64 (i : Int), val := secV l }).toList = es.toList.set j { e with key := .int .i64 (i : Int), val := secV l } := by
    apply List.ext_getElem?
    intro k
    rw [Array.getElem?_toList, Array.getElem?_modify, List.getElem?_set, Array.getElem?_toList]
    by_cases hkj : j = k
    ·subst hkj; simp [hjl, hej]
    ·simp [hkj]
   rw [hmod, upd_some hn h4 h5]
   rw [List.map_set, List.map_set, hm]
theorem run_clear {w : World} {b : Nat} {m : List (Nat × List UInt8)} (h : MapIs w b m) :
  ∃ w', (Builtin.clear_ #[38] 0 #[.map (some b)]).run Tryz.prog w = .ok (.tuple #[]) w' ∧ MapIs w' b [] ∧ Chg (fun k => k = b) w w' := by
 obtain ⟨es, clock, hb, hs, hm⟩ := h
 have hbl : b < w.heap.size := (Array.getElem?_eq_some_iff.1 hb).1
 refine ⟨{ w with heap := w.heap.setIfInBounds b (.map #[] clock) }, ?_, ⟨#[], clock, by simp [hbl], ⟨by simp, by simp, by simp⟩, by simp⟩, ⟨rfl, rfl, rfl, by simp, fun k hkl hne => by simp [Ne.symm hne]⟩⟩
 simp [Builtin.clear_, run_underlying Tryz.underlying38, getObj, setObj, Sem.run, hb]
end
section
open Go.RowKit
def DS (pd ps pm : Nat) : Nat → Prop := fun k => k = pd ∨ k = ps ∨ k = pm
def dCells (D : Dk) (ps pm : Nat) (A : Option Addr) (c : Nat) : Array Value :=
 #[.bool D.up, .slice (some ⟨ps, 0, none⟩) D.sec.length D.sec.length, .map (some pm), .int .i64 D.left, .slice A D.stay.length c]
def IsD (w : World) (pd ps pm : Nat) (D : Dk) : Prop :=
 D.Ok ∧ ∃ A c, w.heap[pd]? = some (.cells (dCells D ps pm A c) 40 (0, 0)) ∧ w.heap[ps]? = some (.cells (D.sec.flatten.map bv).toArray 113 (0, 0)) ∧ MapIs w pm D.cache ∧
  Rd w A D.stay ∧ (∀ b o, A = some ⟨b, o, none⟩ → D.stay ≠ [] → b ≠ ps) ∧ D.stay.length ≤ c ∧ c ≤ maxLen
theorem IsD.lt {w : World} {pd ps pm : Nat} {D : Dk} (h : IsD w pd ps pm D) : pd < w.heap.size ∧ ps < w.heap.size ∧ pm < w.heap.size := by
 obtain ⟨_, A, c, h1, h2, ⟨es, ck, h3, _⟩, _⟩ := h
 exact ⟨(Array.getElem?_eq_some_iff.1 h1).1, (Array.getElem?_eq_some_iff.1 h2).1, (Array.getElem?_eq_some_iff.1 h3).1⟩
theorem IsD.ne {w : World} {pd ps pm : Nat} {D : Dk} (h : IsD w pd ps pm D) : pd ≠ ps ∧ pd ≠ pm ∧ ps ≠ pm := by
 obtain ⟨_, A, c, h1, h2, ⟨es, ck, h3, _⟩, _⟩ := h
 refine ⟨?_, ?_, ?_⟩
 ·rintro rfl; rw [h1] at h2; injection h2 with h2; injection h2 with _ h2; exact absurd h2 (by decide)
 ·rintro rfl; rw [h1] at h3; injection h3 with h3; cases h3
 ·rintro rfl; rw [h2] at h3; injection h3 with h3; cases h3
theorem MapIs.keep {S : Nat → Prop} {w w' : World} {b : Nat} {m : List (Nat × List UInt8)} (h : MapIs w b m) (hg : Chg S w w') (hb : ¬ S b) : MapIs w' b m := by
 obtain ⟨es, ck, h1, h2⟩ := h
 exact ⟨es, ck, (hg.block b (Array.getElem?_eq_some_iff.1 h1).1 hb).trans h1, h2⟩
theorem stay_ne {w : World} {pd pm : Nat} {A : Option Addr} {l : List UInt8} {D : Dk} {ps c : Nat} {A' : Option Addr} (h1 : w.heap[pd]? = some (.cells (dCells D ps pm A' c) 40 (0, 0))) {m : List (Nat × List UInt8)} (hm : MapIs w pm m) (hr : Rd w A l) :
  ∀ b o, A = some ⟨b, o, none⟩ → l ≠ [] → b ≠ pd ∧ b ≠ pm := by
 rintro b o rfl hne
 obtain ⟨x, r, rfl⟩ := List.exists_cons_of_ne_nil hne
 obtain ⟨b', o', e, hc⟩ := hr 0 x rfl
 injection e with e
 injection e with e1 e2
 subst e1 e2
 refine ⟨?_, ?_⟩
 ·rintro rfl
  rw [cell_of_row _ _ _ _ _ _ h1, dCells] at hc
  match o + 0, hc with
  | 0, hc => simp at hc
  | 1, hc => simp at hc
  | 2, hc => simp at hc
  | 3, hc => simp at hc
  | 4, hc => simp at hc
  | n + 5, hc => simp at hc
 ·rintro rfl
  obtain ⟨es, ck, h2, _⟩ := hm
  simp [World.cell?, h2] at hc
theorem IsD.keep {S : Nat → Prop} {w w' : World} {pd ps pm : Nat} {D : Dk} (h : IsD w pd ps pm D) (hg : Chg S w w') (hS : ∀ k, k < w.heap.size → S k → k ≠ pd ∧ k ≠ ps ∧ k ≠ pm)
  (hstay : ∀ A c, w.heap[pd]? = some (.cells (dCells D ps pm A c) 40 (0, 0)) → ∀ b o, A = some ⟨b, o, none⟩ → D.stay ≠ [] → ¬ S b) : IsD w' pd ps pm D := by
 obtain ⟨hok, A, c, h1, h2, h3, h4, h5⟩ := h
 have l1 := (Array.getElem?_eq_some_iff.1 h1).1
 have l2 := (Array.getElem?_eq_some_iff.1 h2).1
 have l3 : pm < w.heap.size := by obtain ⟨_, _, h, _⟩ := h3; exact (Array.getElem?_eq_some_iff.1 h).1
 exact ⟨hok, A, c, (hg.block pd l1 (fun e => (hS pd l1 e).1 rfl)).trans h1, (hg.block ps l2 (fun e => (hS ps l2 e).2.1 rfl)).trans h2, h3.keep hg (fun e => (hS pm l3 e).2.2 rfl), h4.keep hg (hstay A c h1), h5⟩
theorem IsD.non {w w' : World} {pd ps pm : Nat} {D : Dk} (h : IsD w pd ps pm D) (hg : Chg Non w w') : IsD w' pd ps pm D :=
 h.keep hg (fun _ _ e => e.elim) (fun _ _ _ _ _ _ _ e => e)
theorem IsD.cells {w : World} {pd ps pm : Nat} {D : Dk} (h : IsD w pd ps pm D) : ∃ A c,
  w.cell? ⟨pd, 0, none⟩ = some (.bool D.up) ∧ w.cell? ⟨pd, 1, none⟩ = some (.slice (some ⟨ps, 0, none⟩) D.sec.length D.sec.length) ∧ w.cell? ⟨pd, 2, none⟩ = some (.map (some pm)) ∧
  w.cell? ⟨pd, 3, none⟩ = some (.int .i64 D.left) ∧ w.cell? ⟨pd, 4, none⟩ = some (.slice A D.stay.length c) ∧ Rd w A D.stay ∧ D.stay.length ≤ c ∧ c ≤ maxLen := by
 obtain ⟨hok, A, c, h1, h2, h3, h4, h5, h6, h7⟩ := h
 exact ⟨A, c, by rw [cell_of_row _ _ _ _ _ _ h1]; rfl, by rw [cell_of_row _ _ _ _ _ _ h1]; rfl, by rw [cell_of_row _ _ _ _ _ _ h1]; rfl, by rw [cell_of_row _ _ _ _ _ _ h1]; rfl, by rw [cell_of_row _ _ _ _ _ _ h1]; rfl, h4, h6, h7⟩
theorem IsD.free {w : World} {pd ps pm : Nat} {D : Dk} (h : IsD w pd ps pm D) (i : Nat) : w.frozen? ⟨pd, i, none⟩ = false := by
 obtain ⟨hok, A, c, h1, _⟩ := h
 exact frozen_of_row _ _ _ _ _ h1
theorem IsD.set {w : World} {pd ps pm : Nat} {D D' : Dk} (h : IsD w pd ps pm D) (i : Nat) (v : Value) (hs : D'.sec = D.sec) (hc : D'.cache = D.cache) (hst : D'.stay = D.stay) (hok : D'.Ok)
  (hv : ∀ A c, (dCells D ps pm A c).setIfInBounds i v = dCells D' ps pm A c) : IsD (w.setCell ⟨pd, i, none⟩ v) pd ps pm D' := by
 have hne := h.ne
 obtain ⟨_, A, c, h1, h2, h3, h4, h5, h6, h7⟩ := h
 have hg : Chg (fun k => k = pd) w (w.setCell ⟨pd, i, none⟩ v) := (Chg.refl (fun k => k = pd) _).setCell (p := ⟨pd, i, none⟩) (.inl rfl) _
 refine ⟨hok, A, c, ?_, ?_, ?_, ?_, by rw [hst]; exact h5, by rw [hst]; exact h6, h7⟩
 ·rw [heap_setCell_same _ _ _ _ _ _ h1, hv]
 ·rw [hs]; exact (hg.block ps (Array.getElem?_eq_some_iff.1 h2).1 (Ne.symm hne.1)).trans h2
 ·rw [hc]; exact h3.keep hg (Ne.symm hne.2.1)
 ·rw [hst]; exact h4.keep hg (fun b o e hne' => (stay_ne h1 h3 h4 b o e hne').1)
set_option maxRecDepth 100000 in
theorem dnone_ok (pd ps pm : Nat) (D : Dk) (w : World) (h : IsD w pd ps pm D) :
  Calls Tryz.prog 48 #[.pointer (some ⟨pd, 0, none⟩)] w fun e w' => e = .returned (.bool false) ∧ w = w' := by
 obtain ⟨A, c, _, _, h2, _⟩ := h.cells
 have he : ∀ (W : World) (r : Option Nat), (binOp .eql 38 (.map r) (.map none)).run Tryz.prog W = .ok (.bool r.isNone) W := fun W r => run_eql_map_nil W _ _ _ r Tryz.underlying38
 go_enter Tryz.func48, Tryz.ntmps48
 go_wp2
 go_ret
 exact ⟨rfl, rfl⟩
set_option maxRecDepth 100000 in
theorem ready_ok (pd ps pm : Nat) (D : Dk) (w : World) (h : IsD w pd ps pm D) :
  Calls Tryz.prog 52 #[.pointer (some ⟨pd, 0, none⟩)] w fun e w' => e = .returned (.int .i64 D.ready) ∧ w = w' := by
 obtain ⟨A, c, h0, _⟩ := h.cells
 have hn := dnone_ok pd ps pm D w h
 have HN := Lib.hid hn
 clear hn
 unfold Dk.ready
 obtain ⟨u, hu⟩ : ∃ u, D.up = u := ⟨_, rfl⟩
 rw [hu] at h0 ⊢
 clear hu
 cases u with
 | true =>
  go_enter Tryz.func52, Tryz.ntmps52
  go_wp2_with fail
  refine HN.out.mono ?_
  rintro e w' ⟨rfl, rfl⟩
  go_wp2
  go_ret
  exact ⟨rfl, rfl⟩
 | false =>
  go_enter Tryz.func52, Tryz.ntmps52
  go_wp2_with fail
  refine HN.out.mono ?_
  rintro e w' ⟨rfl, rfl⟩
  go_wp2
  go_ret
  exact ⟨rfl, rfl⟩
set_option maxRecDepth 100000 in
theorem Len_ok (pd ps pm : Nat) (D : Dk) (w : World) (h : IsD w pd ps pm D) :
  Calls Tryz.prog 29 #[.pointer (some ⟨pd, 0, none⟩)] w fun e w' => e = .returned (.int .i64 (D.sec.length : Nat)) ∧ w = w' := by
 obtain ⟨A, c, _, h1, _⟩ := h.cells
 have HN := Lib.hid (dnone_ok pd ps pm D w h)
 go_enter Tryz.func29, Tryz.ntmps29
 go_wp2_with fail
 refine HN.out.mono ?_
 rintro e w' ⟨rfl, rfl⟩
 go_wp2
 go_ret
 exact ⟨rfl, rfl⟩
set_option maxRecDepth 100000 in
theorem has_ok (pd ps pm : Nat) (D : Dk) (i : Int) (w : World) (h : IsD w pd ps pm D) :
  Calls Tryz.prog 53 #[.pointer (some ⟨pd, 0, none⟩), .int .i64 i] w fun e w' => e = .returned (.bool (decide (0 ≤ i ∧ i < D.sec.length))) ∧ w = w' := by
 have HN := Lib.hid (Len_ok pd ps pm D w h)
 by_cases h0 : 0 ≤ i
 ·by_cases h1 : i < D.sec.length
  ·rw [decide_eq_true (show 0 ≤ i ∧ i < D.sec.length from ⟨h0, h1⟩)]
   go_enter Tryz.func53, Tryz.ntmps53
   go_wp2_with fail
   refine HN.out.mono ?_
   rintro e w' ⟨rfl, rfl⟩
   go_wp2
   go_ret
   exact ⟨rfl, rfl⟩
  ·rw [decide_eq_false (show ¬ (0 ≤ i ∧ i < D.sec.length) from fun e => h1 e.2)]
   have hd : decide (i < (D.sec.length : Int)) = false := by simp; omega
   go_enter Tryz.func53, Tryz.ntmps53
   go_wp2_with fail
   refine HN.out.mono ?_
   rintro e w' ⟨rfl, rfl⟩
   go_wp2
   go_ret
   exact ⟨rfl, rfl⟩
 ·rw [decide_eq_false (show ¬ (0 ≤ i ∧ i < D.sec.length) from fun e => h0 e.1)]
  have hd : decide (0 ≤ i) = false := by simp; omega
  go_enter Tryz.func53, Tryz.ntmps53
  go_wp2
  go_ret
  exact ⟨rfl, rfl⟩
set_option maxRecDepth 100000 in
theorem Up_ok (pd ps pm : Nat) (D : Dk) (w : World) (h : IsD w pd ps pm D) :
  Calls Tryz.prog 14 #[.pointer (some ⟨pd, 0, none⟩)] w fun e w' => e = .returned (.bool D.up) ∧ w = w' := by
 obtain ⟨A, c, h0, _⟩ := h.cells
 have HN := Lib.hid (dnone_ok pd ps pm D w h)
 go_enter Tryz.func14, Tryz.ntmps14
 go_wp2_with fail
 refine HN.out.mono ?_
 rintro e w' ⟨rfl, rfl⟩
 go_wp2
 go_ret
 exact ⟨rfl, rfl⟩
end
section
open Go.RowKit
theorem flat_at {sec : List (List UInt8)} (h : ∀ s ∈ sec, s.length = 64) (i : Nat) (hi : i < sec.length) (j : Nat) (hj : j < 64) : sec.flatten[i * 64 + j]? = (sec[i]'hi)[j]? := by
 induction sec generalizing i with
 | nil => simp at hi
 | cons s r ih =>
  have hs := h s (List.mem_cons_self)
  rw [List.flatten_cons]
  cases i with
  | zero => rw [List.getElem?_append_left (by omega)]; simp
  | succ i =>
   rw [List.getElem?_append_right (by omega), hs]
   have := ih (fun t ht => h t (List.mem_cons_of_mem _ ht)) i (by simpa using hi)
   rw [show (i + 1) * 64 + j - 64 = i * 64 + j from by omega, this]
   simp
theorem flat_len {sec : List (List UInt8)} (h : ∀ s ∈ sec, s.length = 64) : sec.flatten.length = sec.length * 64 := by
 induction sec with
 | nil => rfl
 | cons s r ih => rw [List.flatten_cons, List.length_append, h s List.mem_cons_self, ih (fun t ht => h t (List.mem_cons_of_mem _ ht)), List.length_cons]; omega
theorem sec_range {w : World} {ps : Nat} {t : TypeId} {sec : List (List UInt8)} (hb : w.heap[ps]? = some (.cells (sec.flatten.map bv).toArray t (0, 0))) (h : ∀ s ∈ sec, s.length = 64) (i : Nat) (hi : i < sec.length) :
  w.rangeAt ps (i * 64) ((sec[i]'hi).map bv) := by
 intro j v hv
 rw [List.getElem?_map] at hv
 obtain ⟨x, hx, rfl⟩ := Option.map_eq_some_iff.1 hv
 have hl := h _ (List.getElem_mem hi)
 have hj : j < 64 := by rw [← hl]; exact (List.getElem?_eq_some_iff.1 hx).1
 rw [cell_of_row _ _ _ _ _ _ hb]
 simp only [List.getElem?_toArray, List.getElem?_map, flat_at h i hi j hj, hx]
 rfl
theorem secV_size (l : List UInt8) (h : l.length = 64) : (l.map bv).toArray.size = 64 := by simp [h]
theorem secV_one (l : List UInt8) : ((l.map bv).toArray).all (·.oneCell') = true := all_oneCell_toArray (bv_one l)
theorem zSec_one : zSec.all (·.oneCell') = true := by
 have : zSec = ((List.replicate 64 (0 : UInt8)).map bv).toArray := rfl
 rw [this]; exact secV_one _
theorem info_sec : (Tryz.prog.info? 113).map (·.size) = some 64 := by kernel_rfl
def secA (l : List UInt8) : Array Value := (l.map bv).toArray
theorem secA_size (l : List UInt8) (h : l.length = 64) : (secA l).size = 64 := secV_size l h
theorem secA_one (l : List UInt8) : (secA l).all (·.oneCell') = true := secV_one l
theorem wpList_load_sec {w : World} {ops : Array Oper} {rest : List Oper} {op : Oper} {a : Act} {Q : Exit → Act → World → Prop} (hgd : op.guard = none) (x : Operand) (ho : op.op = .load 113 x)
  (b o : Nat) (hx : a.eval x = .pointer (some ⟨b, o, none⟩)) (l : List UInt8) (hc : w.rangeAt b o (l.map bv)) (hl : l.length = 64)
  (h : wpList Tryz.prog ops Q rest (a.put op.dst (.agg (secA l))) w) : wpList Tryz.prog ops Q (op :: rest) a w :=
 wpList_load_mid hgd 113 x ho b o hx (l.map bv) _ hc Tryz.underlying113 rfl (by rw [List.length_map, hl]; exact info_sec) h
theorem own_of_block {W : World} {B g : Nat} {t : TypeId} {l : List UInt8} (h : W.heap[g]? = some (.cells (l.map bv).toArray t (0, 0))) (hB : B ≤ g) : Own B W (some ⟨g, 0, none⟩) l := by
 intro i x hx
 refine ⟨g, 0, rfl, hB, ?_, frozen_of_row _ _ _ _ _ h⟩
 rw [cell_of_row _ _ _ _ _ _ h, Nat.zero_add]
 simp [hx, bv]
set_option maxRecDepth 100000 in
theorem Read_any (pd ps pm : Nat) (D : Dk) (i : Nat) (w : World) (h : IsD w pd ps pm D) (hup : D.up = true) (hi : i < D.sec.length) :
  Calls Tryz.prog 17 #[.pointer (some ⟨pd, 0, none⟩), .int .i64 (i : Int)] w (RetB2 w (D.at_ i) (.int .i64 0)) := by
 obtain ⟨A, c, _, h1, h2, _⟩ := h.cells
 have hok := h.1
 have hrd := ready_ok pd ps pm D w h
 have hr1 : D.ready = 0 := by unfold Dk.ready; rw [hup]; rfl
 rw [hr1] at hrd
 have hhas := has_ok pd ps pm D i w h
 rw [decide_eq_true (show (0 : Int) ≤ i ∧ (i : Int) < D.sec.length from ⟨by omega, by omega⟩)] at hhas
 have HR := Lib.hid hrd
 have HH := Lib.hid hhas
 clear hrd hhas hr1
 have hlen : D.sec.length ≤ 1024 := hok.most
 have hlk := run_lookup h.2.choose_spec.choose_spec.2.2.1 (fun p hp => by have := (hok.keys p hp).1; omega) i (by omega) w rfl true
 have hrg := sec_range h.2.choose_spec.choose_spec.2.1 hok.secs i hi
 have hsl := hok.secs _ (List.getElem_mem hi)
 unfold Dk.at_
 have hcl : ∀ l, look D.cache i = some l → l.length = 64 := by
  intro l hl
  unfold look at hl
  obtain ⟨p, hp, rfl⟩ := Option.map_eq_some_iff.1 hl
  exact (hok.keys p (List.mem_of_find?_eq_some hp)).2
 cases hl : look D.cache i with
 | some l =>
  rw [hl] at hlk
  have hl64 := hcl l hl
  have HL := Lib.hid hl64
  clear hcl hl64 hl
  have HG := Lib.hid hrg
  have HS := Lib.hid hsl
  clear hrg hsl
  simp only [Option.isSome_some, if_true, Option.getD_some] at hlk ⊢
  go_enter Tryz.func17, Tryz.ntmps17
  go_wp2_with fail
  refine HR.out.mono ?_
  rintro e w' ⟨rfl, rfl⟩
  go_wp2_with fail
  refine HH.out.mono ?_
  rintro e w' ⟨rfl, rfl⟩
  go_wp2_with (refine sel none (.store 113 (.tmp 7) (.tmp 25)) ?_; refine wpList_store_row rfl 113 (.tmp 7) (.tmp 25) rfl w.heap.size (l.map bv).toArray rfl rfl 113 _ (heap_alloc_new _ _) (by rw [secV_size l HL.out]; exact info_sec) (by rw [secV_size l HL.out]; rfl) (secV_one l) ?_)
  have hb := setRow_heap (w.alloc (.cells zSec 113)) w.heap.size _ (l.map bv).toArray _ _ (heap_alloc_new _ _)
  have hg : Chg Non w ((w.alloc (.cells zSec 113)).setRow w.heap.size (l.map bv).toArray) := ((Chg.refl _ _).alloc _).setRow (.inr (Nat.le_refl _)) _
  go_ret2
  exact ⟨some ⟨w.heap.size, 0, none⟩, 64, by rw [HL.out]; rfl, by rw [HL.out]; omega, by unfold maxLen; omega, own_of_block hb (Nat.le_refl _), hg⟩
 | none =>
  rw [hl] at hlk
  clear hcl hl
  have HG := Lib.hid hrg
  have HS := Lib.hid hsl
  clear hrg hsl
  have hgd : D.sec.getD i [] = D.sec[i]'hi := by simp [List.getD, List.getElem?_eq_getElem hi]
  simp only [Option.isSome_none, if_true, Option.getD_none, hgd] at hlk ⊢
  clear hgd
  obtain ⟨s, hs⟩ : ∃ s, D.sec[i]'hi = s := ⟨_, rfl⟩
  rw [hs] at HG HS ⊢
  clear hs
  go_enter Tryz.func17, Tryz.ntmps17
  go_wp2_with fail
  refine HR.out.mono ?_
  rintro e w' ⟨rfl, rfl⟩
  go_wp2_with fail
  refine HH.out.mono ?_
  rintro e w' ⟨rfl, rfl⟩
  have hlt := h.lt
  go_wp2_with (first
    | (refine sel none (.store 113 (.tmp 7) (.tmp 25)) ?_
       refine wpList_store_rowA rfl 113 (.tmp 7) (.tmp 25) rfl w.heap.size zSec rfl rfl 113 _ (heap_alloc_new _ _) info_sec rfl zSec_one ?_
       intro W hgW hbW
       have hg1 : Chg Non w W := ((Chg.refl Non w).alloc _).then_new hgW (fun x e => by rw [e]; exact Nat.le_refl _)
       have HBW := Lib.hid hbW
       have HGW := Lib.hid (show W.rangeAt ps (i * 64) (s.map bv) from fun j v hv => hg1.cell_some (HG.out j v hv) (fun e => e))
       have k1 : W.cell? ⟨pd, 1, none⟩ = some (.slice (some ⟨ps, 0, none⟩) D.sec.length D.sec.length) := hg1.cell_some h1 (fun e => e)
       clear hbW hgW)
    | (refine sel (some 35) (.load 113 (.tmp 34)) ?_
       refine wpList_load_sec rfl (.tmp 34) rfl ps (i * 64) rfl s HGW.out HS.out ?_)
    | (refine sel none (.store 113 (.tmp 7) (.tmp 35)) ?_
       refine wpList_store_rowA rfl 113 (.tmp 7) (.tmp 35) rfl w.heap.size (secA s) rfl rfl 113 zSec HBW.out (by rw [secA_size _ HS.out]; exact info_sec) (by rw [secA_size _ HS.out]; rfl) (secA_one _) ?_
       intro W2 hgW2 hbW2
       have hg2 : Chg Non w W2 := hg1.then_new hgW2 (fun x e => by rw [e]; exact Nat.le_refl _)
       have HB2 := Lib.hid hbW2
       clear hbW2 hgW2))
  go_ret2
  exact ⟨some ⟨w.heap.size, 0, none⟩, 64, by rw [HS.out]; rfl, by rw [HS.out]; omega, by unfold maxLen; omega, own_of_block HB2.out (Nat.le_refl _), hg2⟩
set_option maxRecDepth 100000 in
theorem Read_down (pd ps pm : Nat) (D : Dk) (i : Int) (w : World) (h : IsD w pd ps pm D) (hup : D.up = false) :
  Calls Tryz.prog 17 #[.pointer (some ⟨pd, 0, none⟩), .int .i64 i] w fun e w' => e = .returned (.tuple #[.slice none 0 0, .int .i64 60]) ∧ w = w' := by
 have hrd := ready_ok pd ps pm D w h
 have hr1 : D.ready = 60 := by unfold Dk.ready; rw [hup]; rfl
 rw [hr1] at hrd
 have HR := Lib.hid hrd
 clear hrd hr1
 go_enter Tryz.func17, Tryz.ntmps17
 go_wp2_with fail
 refine HR.out.mono ?_
 rintro e w' ⟨rfl, rfl⟩
 go_wp2
 go_ret2
 exact ⟨rfl, rfl⟩
set_option maxRecDepth 100000 in
theorem Read_no_sector (pd ps pm : Nat) (D : Dk) (i : Int) (w : World) (h : IsD w pd ps pm D) (hup : D.up = true) (hi : ¬ (0 ≤ i ∧ i < D.sec.length)) :
  Calls Tryz.prog 17 #[.pointer (some ⟨pd, 0, none⟩), .int .i64 i] w fun e w' => e = .returned (.tuple #[.slice none 0 0, .int .i64 61]) ∧ w = w' := by
 have hrd := ready_ok pd ps pm D w h
 have hr1 : D.ready = 0 := by unfold Dk.ready; rw [hup]; rfl
 rw [hr1] at hrd
 have hh := has_ok pd ps pm D i w h
 rw [decide_eq_false hi] at hh
 have HR := Lib.hid hrd
 have HH := Lib.hid hh
 clear hrd hr1 hh hi
 go_enter Tryz.func17, Tryz.ntmps17
 go_wp2_with fail
 refine HR.out.mono ?_
 rintro e w' ⟨rfl, rfl⟩
 go_wp2_with fail
 refine HH.out.mono ?_
 rintro e w' ⟨rfl, rfl⟩
 go_wp2
 go_ret2
 exact ⟨rfl, rfl⟩
theorem info_sec3 : (Tryz.prog.info? 113).map (fun i => (i.zero, i.size, i.bytes)) = some (some (.agg zSec), 64, 64) := by kernel_rfl
theorem madeSec (n : Nat) : madeCells zSec (n * 64) = ((List.replicate n (List.replicate 64 (0 : UInt8))).flatten.map bv).toArray := by
 apply Array.ext_getElem?
 intro i
 by_cases hi : i < n * 64
 ·have hz : ∀ k, k < 64 → zSec[k]? = some (.int .u8 0) := by intro k hk; simp [zSec, hk]
  have h1 : (madeCells zSec (n * 64))[i]? = some (.int .u8 0) := by
   simp only [madeCells, Array.getElem?_map]
   rw [Array.getElem?_range, if_pos hi, Option.map_some, getElem!_def]
   have := hz (i % 64) (Nat.mod_lt _ (by omega))
   have hs : zSec.size = 64 := rfl
   rw [hs, this]
  have h2 : (List.replicate n (List.replicate 64 (0 : UInt8))).flatten[i]? = some 0 := by
   rw [List.flatten_replicate_replicate]
   simp [hi]
  rw [h1, List.getElem?_toArray, List.getElem?_map, h2]
  rfl
 ·have h1 : (madeCells zSec (n * 64))[i]? = none := Array.getElem?_eq_none (by rw [size_madeCells]; omega)
  have h2 : ((List.replicate n (List.replicate 64 (0 : UInt8))).flatten.map bv).toArray[i]? = none := Array.getElem?_eq_none (by
    rw [List.flatten_replicate_replicate]; simp; omega)
  rw [h1, h2]
theorem new_ok (n : Nat) (h1 : n ≤ 1024) : (Dk.new n).Ok :=
 ⟨fun s hs => by rw [(List.mem_replicate.1 hs).2, List.length_replicate], fun p hp => (by cases hp), List.nodup_nil, (by simpa [Dk.new] using h1), Int.le_refl _⟩
set_option maxRecDepth 100000 in
theorem New_ok (n : Nat) (w : World) (h1 : 1 ≤ n) (h2 : n ≤ 1024) :
  Calls Tryz.prog 9 #[.int .i64 (n : Int)] w fun e w' => ∃ pd ps pm, e = .returned (.tuple #[.pointer (some ⟨pd, 0, none⟩), .int .i64 0]) ∧ IsD w' pd ps pm (Dk.new n) ∧ w.heap.size ≤ pd ∧ w.heap.size ≤ ps ∧ w.heap.size ≤ pm ∧ Chg Non w w' := by
 obtain ⟨i0, hi0, hz0, hs0, hb0⟩ := info_parts info_sec3
 have hmk : ∀ W : World, (Instr.makeSlice 37 (.int .i64 (n : Int)) (.int .i64 (n : Int))).run Tryz.prog W = .ok (.slice (some ⟨W.heap.size, 0, none⟩) n n) (W.alloc (.cells (((Dk.new n).sec.flatten.map bv).toArray) 113)) := fun W => by
  have h := run_make (P := Tryz.prog) W 37 113 i0 (.agg zSec) Tryz.underlying37 hi0 hz0 .i64 .i64 n n (by omega) (Int.le_refl _) (by rw [hb0]; omega) (by omega)
  rw [h, hs0]
  show Result.ok _ (W.alloc (.cells (madeCells zSec (n * 64)) _)) = _
  rw [madeSec]
  rfl
 have hmm := @run_makeMap Tryz.prog
 obtain ⟨X, hX⟩ : ∃ X, ((Dk.new n).sec.flatten.map bv).toArray = X := ⟨_, rfl⟩
 rw [hX] at hmk
 have HX := Lib.hid hX
 clear hX hi0 hz0 hs0 hb0
 go_enter Tryz.func9, Tryz.ntmps9
 go_wp2
 go_ret2
 have a1 := fun o o' o'' => heap_alloc2_new ((w.alloc o)) o' o''
 have e1 : ∀ o : Obj, (w.alloc o).heap.size = w.heap.size + 1 := fun o => by simp
 have e2 : ∀ o o' : Obj, ((w.alloc o).alloc o').heap.size = w.heap.size + 1 + 1 := fun o o' => by simp
 have b3 : ∀ o o' o'' : Obj, (((w.alloc o).alloc o').alloc o'').heap[w.heap.size + 1 + 1]? = some o'' := fun o o' o'' => by
  have := heap_alloc_new ((w.alloc o).alloc o') o''
  rw [e2] at this
  exact this
 have b2 : ∀ o o' o'' : Obj, (((w.alloc o).alloc o').alloc o'').heap[w.heap.size + 1]? = some o' := fun o o' o'' => by
  rw [Below.heap_alloc ((w.alloc o).alloc o') o'' _ (by rw [e2]; omega)]
  exact heap_alloc2_new w o o'
 have b1 : ∀ o o' o'' : Obj, (((w.alloc o).alloc o').alloc o'').heap[w.heap.size]? = some o := fun o o' o'' => by
  rw [Below.heap_alloc ((w.alloc o).alloc o') o'' _ (by rw [e2]; omega)]
  exact heap_alloc2_old w o o'
 refine ⟨w.heap.size + 1 + 1, w.heap.size, w.heap.size + 1, rfl, ⟨new_ok n h2, none, 0, ?_, ?_, ⟨#[], 0, b2 _ _ _, ⟨by simp, by simp, by simp⟩, rfl⟩, Rd.nil _ _, (fun b o e => by cases e), Nat.le_refl _, by simp⟩, by omega, Nat.le_refl _, by omega, (((Chg.refl _ _).alloc _).alloc _).alloc _⟩
 ·rw [b3]
  simp only [dCells, Dk.new, List.length_replicate]
  rfl
 ·rw [b1, HX.out]
end
section
open Go.RowKit
set_option maxRecDepth 100000 in
theorem Byte1_ok (A : Option Addr) (x : UInt8) (w : World) (hr : Rd w A [x]) :
  Calls Tryz.prog 205 #[.slice A 1 1] w fun e w' => e = .returned (.tuple #[.int .u8 (x.toNat : Int), .bool true]) ∧ w = w' := by
 obtain ⟨b, o, rfl, _, hc⟩ := hr.at_ (by simp)
 have h0 : w.cell? ⟨b, o, none⟩ = some (.int .u8 (x.toNat : Int)) := hc 0 (by simp)
 clear hc hr
 go_enter Tryz.func205, Tryz.ntmps205
 go_wp2
 go_ret2
 exact ⟨rfl, rfl⟩
def rdByte (l : List UInt8) (er : Int) : UInt8 × List UInt8 × Int :=
 if er = 0 then (match l with | x :: r => (x, r, 0) | [] => (0, [], 50)) else (0, l, er)
set_option maxRecDepth 100000 in
theorem Flag1_ok (A : Option Addr) (x : UInt8) (w : World) (hr : Rd w A [x]) :
  Calls Tryz.prog 203 #[.slice A 1 1] w fun e w' => e = .returned (.tuple #[.bool (decide (x = 1)), .bool (decide (x ≤ 1))]) ∧ Chg Non w w' := by
 obtain ⟨b, o, rfl, _, hc⟩ := hr.at_ (by simp)
 have h0 : w.cell? ⟨b, o, none⟩ = some (.int .u8 (x.toNat : Int)) := hc 0 (by simp)
 clear hc hr
 have e1 : ((x.toNat : Int) == 1) = decide (x = 1) := by
  rw [Bool.eq_iff_iff]
  simp only [beq_iff_eq, decide_eq_true_eq, ← UInt8.toNat_inj]
  show (x.toNat : Int) = 1 ↔ x.toNat = 1
  omega
 have e2 : decide ((x.toNat : Int) ≤ 1) = decide (x ≤ 1) := by
  rw [Bool.eq_iff_iff]
  simp only [decide_eq_true_eq, UInt8.le_iff_toNat_le]
  show (x.toNat : Int) ≤ 1 ↔ x.toNat ≤ 1
  omega
 rw [← e1, ← e2]
 clear e1 e2
 go_enter Tryz.func203, Tryz.ntmps203
 go_wp2
 go_quiet (fail)
 go_wp2
 go_ret2
 exact ⟨rfl, (Chg.refl _ _).drewN _⟩
def rdFlag (l : List UInt8) (er : Int) : Bool × List UInt8 × Int :=
 if er = 0 then (match l with | x :: r => if x ≤ 1 then (decide (x = 1), r, 0) else (false, [], 50) | [] => (false, [], 50)) else (false, l, er)
end
section
open Go.RowKit
def From (B : Nat) : Nat → Prop := fun b => B ≤ b
def Upto (B : Nat) : Nat → Prop := fun b => b < B
theorem range_keepS {S : Nat → Prop} {w w' : World} {b o : Nat} {vs : List Value} (h : w.rangeAt b o vs) (hg : Chg S w w') (hn : ¬ S b) : w'.rangeAt b o vs := fun j v hv => hg.cell_some (h j v hv) hn
def RdL {α : Type} (R : World → α → List Value → Prop) (I : Nat → Prop) (sz : Nat) (w : World) (A : Option Addr) (l : List α) : Prop :=
 ∀ (i : Nat) (a : α), l[i]? = some a → ∃ b o vs, A = some ⟨b, o, none⟩ ∧ I b ∧ vs.length = sz ∧ w.rangeAt b (o + i * sz) vs ∧ R w a vs
namespace RdL
variable {α : Type} {R R' : World → α → List Value → Prop} {I I' S : Nat → Prop} {sz : Nat} {w w' : World} {A : Option Addr} {l : List α}
theorem nil (R : World → α → List Value → Prop) (I : Nat → Prop) (sz : Nat) (w : World) (A : Option Addr) : RdL R I sz w A [] := fun i a h => by simp at h
theorem keep (h : RdL R I sz w A l) (hg : Chg S w w') (hI : ∀ b, I b → ¬ S b) (hR : ∀ a vs, a ∈ l → R w a vs → R w' a vs) : RdL R I sz w' A l := by
 intro i a ha
 obtain ⟨b, o, vs, e, hb, hl, hc, hr⟩ := h i a ha
 exact ⟨b, o, vs, e, hb, hl, range_keepS hc hg (hI b hb), hR a vs (List.mem_of_getElem? ha) hr⟩
theorem non (h : RdL R I sz w A l) (hg : Chg Non w w') (hR : ∀ a vs, R w a vs → R w' a vs) : RdL R I sz w' A l := h.keep hg (fun _ _ e => e) (fun a vs _ => hR a vs)
theorem mono (h : RdL R I sz w A l) (hI : ∀ b, I b → I' b) (hR : ∀ a vs, a ∈ l → R w a vs → R' w a vs) : RdL R' I' sz w A l := by
 intro i a ha
 obtain ⟨b, o, vs, e, hb, hl, hc, hr⟩ := h i a ha
 exact ⟨b, o, vs, e, hI b hb, hl, hc, hR a vs (List.mem_of_getElem? ha) hr⟩
theorem at_ (h : RdL R I sz w A l) (h0 : 0 < l.length) : ∃ b o, A = some ⟨b, o, none⟩ ∧ I b ∧ ∀ i a, l[i]? = some a → ∃ vs, vs.length = sz ∧ w.rangeAt b (o + i * sz) vs ∧ R w a vs := by
 obtain ⟨b, o, vs, rfl, hb, _⟩ := h 0 l[0] (List.getElem?_eq_getElem h0)
 refine ⟨b, o, rfl, hb, fun i a ha => ?_⟩
 obtain ⟨b', o', vs', e, hb', hl, hc, hr⟩ := h i a ha
 injection e with e
 injection e with e1 e2 _
 subst e1 e2
 exact ⟨vs', hl, hc, hr⟩
end RdL
def SlV {α : Type} (R : World → α → List Value → Prop) (I : Nat → Prop) (sz : Nat) (w : World) (l : List α) (v : Value) : Prop :=
 ∃ A c, v = .slice A l.length c ∧ l.length ≤ c ∧ c ≤ maxLen ∧ RdL R I sz w A l
theorem SlV.keep {α : Type} {R : World → α → List Value → Prop} {I S : Nat → Prop} {sz : Nat} {w w' : World} {l : List α} {v : Value} (h : SlV R I sz w l v) (hg : Chg S w w') (hI : ∀ b, I b → ¬ S b) (hR : ∀ a vs, a ∈ l → R w a vs → R w' a vs) : SlV R I sz w' l v := by
 obtain ⟨A, c, h1, h2, h3, h4⟩ := h
 exact ⟨A, c, h1, h2, h3, h4.keep hg hI hR⟩
theorem SlV.mono {α : Type} {R R' : World → α → List Value → Prop} {I I' : Nat → Prop} {sz : Nat} {w : World} {l : List α} {v : Value} (h : SlV R I sz w l v) (hI : ∀ b, I b → I' b) (hR : ∀ a vs, a ∈ l → R w a vs → R' w a vs) : SlV R' I' sz w l v := by
 obtain ⟨A, c, h1, h2, h3, h4⟩ := h
 exact ⟨A, c, h1, h2, h3, h4.mono hI hR⟩
def BytesV (I : Nat → Prop) (w : World) (l : List UInt8) (v : Value) : Prop := ∃ A c, v = .slice A l.length c ∧ l.length ≤ c ∧ c ≤ maxLen ∧ Rd w A l ∧ ∀ b o, A = some ⟨b, o, none⟩ → l ≠ [] → I b
namespace BytesV
variable {I I' S : Nat → Prop} {w w' : World} {l : List UInt8} {v : Value}
theorem keep (h : BytesV I w l v) (hg : Chg S w w') (hI : ∀ b, I b → ¬ S b) : BytesV I w' l v := by
 obtain ⟨A, c, h1, h2, h3, h4, h5⟩ := h
 exact ⟨A, c, h1, h2, h3, h4.keep hg (fun b o e hl => hI b (h5 b o e hl)), h5⟩
theorem non (h : BytesV I w l v) (hg : Chg Non w w') : BytesV I w' l v := h.keep hg (fun _ _ e => e)
theorem mono (h : BytesV I w l v) (hI : ∀ b, I b → I' b) : BytesV I' w l v := by
 obtain ⟨A, c, h1, h2, h3, h4, h5⟩ := h
 exact ⟨A, c, h1, h2, h3, h4, fun b o e hl => hI b (h5 b o e hl)⟩
theorem nil (I : Nat → Prop) (w : World) : BytesV I w [] (.slice none 0 0) := ⟨none, 0, rfl, Nat.le_refl _, by simp, Rd.nil _ _, fun _ _ e => by cases e⟩
end BytesV
theorem own_bytes {B : Nat} {w : World} {A : Option Addr} {l : List UInt8} {c : Nat} (h : Own B w A l) (hc : l.length ≤ c) (hm : c ≤ maxLen) : BytesV (From B) w l (.slice A l.length c) :=
 ⟨A, c, rfl, hc, hm, h.rd, fun b o e hl => by subst e; exact h.ge hl⟩
end
section

end
section
structure Pt where
 id : Int
 size : Int
 keep : Bool
 r : List Nat
 pc : Nat
 st : Nat
 mem : List UInt8
structure Pt.Bd (p : Pt) : Prop where
 r8 : p.r.length = 8
 rb : ∀ i, p.r.getD i 0 < 4294967296
 pcb : p.pc < 4294967296
 stb : p.st < 256
 idb : -9223372036854775808 ≤ p.id ∧ p.id ≤ 9223372036854775807
 sizeb : -9223372036854775808 ≤ p.size ∧ p.size ≤ 9223372036854775807
def Pt.g (p : Pt) (a : Nat) : Nat := p.r.getD a 0
def Pt.set (p : Pt) (a v : Nat) : Pt := { p with r := p.r.set a v }
def put (m : List UInt8) (at_ : Nat) (b : List UInt8) : List UInt8 := m.take at_ ++ (b ++ m.drop (at_ + b.length))
end
section
open Go.RowKit
theorem plain_add (b o k : Nat) : (⟨b, o, none⟩ : Addr).add k = ⟨b, o + k, none⟩ := by
 unfold Addr.add
 split <;> simp_all
def OwnR (B : Nat) (w : World) (v : Value) (l : List UInt8) : Prop := w.ownsRow B 5 1 v l.length (l.map bv)
theorem OwnR.ge {B : Nat} {w : World} {v : Value} {l : List UInt8} (h : OwnR B w v l) {g : Nat} (hg : v.ownBlock = some g) : B ≤ g := by
 rcases h.2 with ⟨rfl, _⟩ | ⟨g2, cap, cur, rfl, hB, _⟩
 ·simp [Value.ownBlock] at hg
 ·obtain rfl : g2 = g := by simpa [Value.ownBlock] using hg
  exact hB
theorem str_of (A : Option Addr) (l : List UInt8) (c : Nat) (w : World) (h : Rd w A l) :
  (convert 29 9 (.slice A l.length c)).run Tryz.prog w = .ok (.string ⟨l.toArray⟩) w := by
 rcases Nat.eq_zero_or_pos l.length with h0 | h0
 ·obtain rfl := List.eq_nil_of_length_eq_zero h0
  cases A with
  | none => exact run_convert_bytes_nil w _ _ Tryz.underlying29 Tryz.underlying5 _ _ _ Tryz.underlying9
  | some a =>
   have hl : (loadCells a 0).run Tryz.prog w = .ok (([] : List Int).map (Value.int .u8)).toArray w := run_loadCells_list (P := Tryz.prog) w a [] (fun j v hj => by simp at hj)
   show (convert 29 9 (.slice (some a) 0 c)).run Tryz.prog w = _
   rw [run_convert_bytes_string w _ _ _ _ 0 c Tryz.underlying29 Tryz.underlying5 Tryz.underlying9, run_bytesToString w _ 0 c [] hl]
   rfl
 ·obtain ⟨b, o, rfl, _, hc⟩ := h.at_ h0
  rw [run_convert_bytes_arg w _ _ Tryz.underlying29 Tryz.underlying5 b o l.length c (l.map fun x => (x.toNat : Int)) (by simp) (fun i hi => by rw [hc i hi]; simp [List.getD, List.getElem?_eq_getElem hi]) _ Tryz.underlying9]
  congr 2
  unfold strOfNums
  congr 2
  rw [List.map_map]
  conv => rhs; rw [← List.map_id l]
  apply List.map_congr_left
  intro x _
  simp
end
section
open Go.RowKit
theorem blockS {S : Nat → Prop} {w W : World} {b : Nat} {x : Obj} (h : w.heap[b]? = some x) (hg : Chg S w W) (hn : ¬ S b) : W.heap[b]? = some x :=
 (hg.block b (Array.getElem?_eq_some_iff.1 h).1 hn).trans h
theorem set_at (w : World) (b i : Nat) (v : Value) : Chg (fun k => k = b) w (w.setCell ⟨b, i, none⟩ v) := (Chg.refl (fun k => k = b) w).setCell (p := ⟨b, i, none⟩) (.inl rfl) v
theorem heap_setCellI {w : World} {g i : Nat} {cs : Array Value} {t : TypeId} (u : Value) (h : w.heap[g]? = some (.cells cs t (0, 0))) : (w.setCell ⟨g, i, none⟩ u).heap[g]? = some (.cells (cs.setIfInBounds i u) t (0, 0)) := by
 have hlt := (Array.getElem?_eq_some_iff.1 h).1
 have h' : w.heap[g] = .cells cs t (0, 0) := by simpa [Array.getElem?_eq_getElem hlt] using h
 show (w.heap.modify g _)[g]? = _
 rw [Array.getElem?_eq_getElem (by simpa using hlt), Array.getElem_modify_self, h']
 rfl
def partL (p : Pt) (m : Value) : List Value := .int .i64 p.id :: .int .i64 p.size :: .bool p.keep :: ((p.r.map fun n : Nat => Value.int .u32 n) ++ [.int .u32 p.pc, .int .u8 p.st, m])
def partC (p : Pt) (m : Value) : Array Value := (partL p m).toArray
theorem partC_size {p : Pt} (h : p.r.length = 8) (m : Value) : (partC p m).size = 14 := by simp [partC, partL, h]
theorem partC_reg {p : Pt} (h : p.r.length = 8) (m : Value) (a : Nat) (ha : a < 8) : (partC p m)[3 + a]? = some (.int .u32 (p.g a : Nat)) := by
 simp only [partC, partL, List.getElem?_toArray]
 rw [show 3 + a = a + 1 + 1 + 1 by omega, List.getElem?_cons_succ, List.getElem?_cons_succ, List.getElem?_cons_succ, List.getElem?_append_left (by simp [h]; omega), List.getElem?_map, List.getElem?_eq_getElem (by omega)]
 simp only [Option.map_some, Pt.g]
 rw [List.getD_eq_getElem?_getD, List.getElem?_eq_getElem (by omega)]
 rfl
theorem partC_end {p : Pt} (h : p.r.length = 8) (m : Value) (j : Nat) (hj : j < 3) : (partC p m)[11 + j]? = [Value.int .u32 (p.pc : Nat), .int .u8 (p.st : Nat), m][j]? := by
 simp only [partC, partL, List.getElem?_toArray]
 rw [show 11 + j = (8 + j) + 1 + 1 + 1 by omega, List.getElem?_cons_succ, List.getElem?_cons_succ, List.getElem?_cons_succ, List.getElem?_append_right (by simp [h])]
 congr 1
 simp [h]
theorem part_setR {p : Pt} (h : p.r.length = 8) (m : Value) (a v : Nat) (ha : a < 8) : (partC p m).setIfInBounds (3 + a) (.int .u32 (v : Nat)) = partC (p.set a v) m := by
 simp only [partC, partL, List.setIfInBounds_toArray, Pt.set]
 congr 1
 rw [show 3 + a = a + 1 + 1 + 1 by omega, List.set_cons_succ, List.set_cons_succ, List.set_cons_succ, List.set_append_left _ _ (by simp [h]; omega), List.map_set]
theorem part_set11 {p : Pt} (h : p.r.length = 8) (m : Value) (v : Nat) : (partC p m).setIfInBounds 11 (.int .u32 (v : Nat)) = partC { p with pc := v } m := by
 simp only [partC, partL, List.setIfInBounds_toArray]
 congr 1
 rw [List.set_cons_succ, List.set_cons_succ, List.set_cons_succ, List.set_append_right _ _ (by simp [h])]
 simp [h]
theorem part_set12 {p : Pt} (h : p.r.length = 8) (m : Value) (v : Nat) : (partC p m).setIfInBounds 12 (.int .u8 (v : Nat)) = partC { p with st := v } m := by
 simp only [partC, partL, List.setIfInBounds_toArray]
 congr 1
 rw [List.set_cons_succ, List.set_cons_succ, List.set_cons_succ, List.set_append_right _ _ (by simp [h])]
 simp [h]
theorem part_set13 {p : Pt} (h : p.r.length = 8) (m m' : Value) : (partC p m).setIfInBounds 13 m' = partC p m' := by
 simp only [partC, partL, List.setIfInBounds_toArray]
 congr 1
 rw [List.set_cons_succ, List.set_cons_succ, List.set_cons_succ, List.set_append_right _ _ (by simp [h])]
 simp [h]
def PartAt (W : World) (b : Nat) (p : Pt) (m : Value) : Prop := W.heap[b]? = some (.cells (partC p m) 104 (0, 0))
structure PartB (W : World) (b : Nat) (p : Pt) (m : Value) : Prop where
 out : PartAt W b p m
 len : p.r.length = 8
theorem PartB.lt {W : World} {b : Nat} {p : Pt} {m : Value} (h : PartB W b p m) : b < W.heap.size := (Array.getElem?_eq_some_iff.1 h.out).1
theorem PartB.keep {S : Nat → Prop} {W W' : World} {b : Nat} {p : Pt} {m : Value} (h : PartB W b p m) (hg : Chg S W W') (hn : ¬ S b) : PartB W' b p m := ⟨blockS h.out hg hn, h.len⟩
theorem PartB.non {W W' : World} {b : Nat} {p : Pt} {m : Value} (h : PartB W b p m) (hg : Chg Non W W') : PartB W' b p m := h.keep hg (fun e => e)
theorem PartB.frozen {W : World} {b : Nat} {p : Pt} {m : Value} (h : PartB W b p m) : ∀ i, W.frozen? ⟨b, i, none⟩ = false := by
 intro i
 simp only [World.frozen?]
 rw [show W.heap[b]? = _ from h.out]
 simp
theorem PartB.cells {W : World} {b : Nat} {p : Pt} {m : Value} (h : PartB W b p m) :
  W.cell? ⟨b, 0, none⟩ = some (.int .i64 p.id) ∧ W.cell? ⟨b, 1, none⟩ = some (.int .i64 p.size) ∧ W.cell? ⟨b, 2, none⟩ = some (.bool p.keep) ∧ W.cell? ⟨b, 11, none⟩ = some (.int .u32 (p.pc : Nat)) ∧ W.cell? ⟨b, 12, none⟩ = some (.int .u8 (p.st : Nat)) ∧ W.cell? ⟨b, 13, none⟩ = some m :=
 ⟨row_cell h.out rfl, row_cell h.out rfl, row_cell h.out rfl, row_cell h.out (partC_end h.len m 0 (by omega)), row_cell h.out (partC_end h.len m 1 (by omega)), row_cell h.out (partC_end h.len m 2 (by omega))⟩
theorem PartB.reg {W : World} {b : Nat} {p : Pt} {m : Value} (h : PartB W b p m) (a : Nat) (ha : a < 8) : W.cell? ⟨b, 3 + a, none⟩ = some (.int .u32 (p.g a : Nat)) := row_cell h.out (partC_reg h.len m a ha)
theorem PartB.setReg {W : World} {b : Nat} {p : Pt} {m : Value} (h : PartB W b p m) (a v : Nat) (ha : a < 8) : PartB (W.setCell ⟨b, 3 + a, none⟩ (.int .u32 (v : Nat))) b (p.set a v) m := by
 refine ⟨?_, by simp [Pt.set, h.len]⟩
 have := heap_setCellI (.int .u32 (v : Nat)) (i := 3 + a) h.out
 rw [part_setR h.len m a v ha] at this
 exact this
theorem PartB.setPc {W : World} {b : Nat} {p : Pt} {m : Value} (h : PartB W b p m) (v : Nat) : PartB (W.setCell ⟨b, 11, none⟩ (.int .u32 (v : Nat))) b { p with pc := v } m := by
 refine ⟨?_, h.len⟩
 have := heap_setCellI (.int .u32 (v : Nat)) (i := 11) h.out
 rw [part_set11 h.len m v] at this
 exact this
theorem PartB.setSt {W : World} {b : Nat} {p : Pt} {m : Value} (h : PartB W b p m) (v : Nat) : PartB (W.setCell ⟨b, 12, none⟩ (.int .u8 (v : Nat))) b { p with st := v } m := by
 refine ⟨?_, h.len⟩
 have := heap_setCellI (.int .u8 (v : Nat)) (i := 12) h.out
 rw [part_set12 h.len m v] at this
 exact this
theorem PartB.setMem {W : World} {b : Nat} {p : Pt} {m : Value} (h : PartB W b p m) (v : Value) : PartB (W.setCell ⟨b, 13, none⟩ v) b p v := by
 refine ⟨?_, h.len⟩
 have := heap_setCellI v (i := 13) h.out
 rw [part_set13 h.len m v] at this
 exact this
theorem PartB.setList {W : World} {b : Nat} {p : Pt} {m : Value} (h : PartB W b p m) (l : List UInt8) : PartB W b { p with mem := l } m := ⟨h.out, h.len⟩
theorem info_part : (Tryz.prog.info? 104).map (·.size) = some 14 := by kernel_rfl
theorem setAt (w : World) (b i : Nat) (v : Value) : Chg (fun k => k = b) w (w.setCell ⟨b, i, none⟩ v) := set_at w b i v
end
section
open Go.RowKit
def I64 (n : Int) : Prop := -9223372036854775808 ≤ n ∧ n ≤ 9223372036854775807
structure Win where
 len : Int
 part : Int
structure Pn where
 id : Int
 base : Int
 size : Int
 keep : Bool
 img : List UInt8
structure Ch where
 id : Int
 src : Int
 dst : Int
 cap : Int
 size : Int
structure Cfg where
 ws : List Win
 ps : List Pn
 cs : List Ch
structure Qu where
 ch : Ch
 msgs : List (List UInt8)
structure Sta where
 frames : Int
 parts : List Pt
 queues : List Qu
def Win.L (a : Win) : List Value := [.int .i64 a.len, .int .i64 a.part]
def Pn.L (a : Pn) (m : Value) : List Value := [.int .i64 a.id, .int .i64 a.base, .int .i64 a.size, .bool a.keep, m]
def Ch.L (a : Ch) : List Value := [.int .i64 a.id, .int .i64 a.src, .int .i64 a.dst, .int .i64 a.cap, .int .i64 a.size]
def Qu.L (a : Qu) (m : Value) : List Value := [.int .i64 a.ch.id, .int .i64 a.ch.src, .int .i64 a.ch.dst, .int .i64 a.ch.cap, .int .i64 a.ch.size, m]
def Ch.Bd (a : Ch) : Prop := I64 a.id ∧ I64 a.src ∧ I64 a.dst ∧ I64 a.cap ∧ I64 a.size
def winV : World → Win → List Value → Prop := fun _ a vs => vs = a.L ∧ I64 a.len ∧ I64 a.part
def pnV (I : Nat → Prop) : World → Pn → List Value → Prop := fun w a vs => ∃ m, vs = a.L m ∧ BytesV I w a.img m ∧ (I64 a.id ∧ I64 a.base ∧ I64 a.size) ∧ a.img.length ≤ 140737488351232
def chV : World → Ch → List Value → Prop := fun _ a vs => vs = a.L ∧ a.Bd
def msgV (I : Nat → Prop) : World → List UInt8 → List Value → Prop := fun w a vs => ∃ m, vs = [m] ∧ BytesV I w a m ∧ a.length ≤ 140737488351232
def quV (I : Nat → Prop) : World → Qu → List Value → Prop := fun w a vs => ∃ m, vs = a.L m ∧ SlV (msgV I) I 1 w a.msgs m ∧ a.ch.Bd ∧ a.msgs.length ≤ 140737488351232
def ptV (I : Nat → Prop) : World → Pt → List Value → Prop := fun w a vs => ∃ m, vs = partL a m ∧ BytesV I w a.mem m ∧ a.Bd ∧ a.mem.length ≤ 140737488351232
structure StaV (I : Nat → Prop) (w : World) (s : Sta) (b d : Value) : Prop where
 ps : SlV (ptV I) I 14 w s.parts b
 qs : SlV (quV I) I 6 w s.queues d
section
variable {I I' S : Nat → Prop} {w w' : World}
theorem pnV.keep {a : Pn} {vs : List Value} (h : pnV I w a vs) (hg : Chg S w w') (hI : ∀ b, I b → ¬ S b) : pnV I w' a vs := by
 obtain ⟨m, h1, h2, h3⟩ := h
 exact ⟨m, h1, h2.keep hg hI, h3⟩
theorem msgV.keep {a : List UInt8} {vs : List Value} (h : msgV I w a vs) (hg : Chg S w w') (hI : ∀ b, I b → ¬ S b) : msgV I w' a vs := by
 obtain ⟨m, h1, h2, h3⟩ := h
 exact ⟨m, h1, h2.keep hg hI, h3⟩
theorem quV.keep {a : Qu} {vs : List Value} (h : quV I w a vs) (hg : Chg S w w') (hI : ∀ b, I b → ¬ S b) : quV I w' a vs := by
 obtain ⟨m, h1, h2, h3⟩ := h
 exact ⟨m, h1, h2.keep hg hI (fun a vs _ h => msgV.keep h hg hI), h3⟩
theorem ptV.keep {a : Pt} {vs : List Value} (h : ptV I w a vs) (hg : Chg S w w') (hI : ∀ b, I b → ¬ S b) : ptV I w' a vs := by
 obtain ⟨m, h1, h2, h3⟩ := h
 exact ⟨m, h1, h2.keep hg hI, h3⟩
theorem StaV.keep {s : Sta} {b d : Value} (h : StaV I w s b d) (hg : Chg S w w') (hI : ∀ b, I b → ¬ S b) : StaV I w' s b d :=
 ⟨h.ps.keep hg hI (fun _ _ _ h => ptV.keep h hg hI), h.qs.keep hg hI (fun _ _ _ h => quV.keep h hg hI)⟩
theorem StaV.non {s : Sta} {b d : Value} (h : StaV I w s b d) (hg : Chg Non w w') : StaV I w' s b d := h.keep hg (fun _ _ e => e)
theorem msgV.mono {a : List UInt8} {vs : List Value} (h : msgV I w a vs) (hI : ∀ b, I b → I' b) : msgV I' w a vs := by
 obtain ⟨m, h1, h2, h3⟩ := h
 exact ⟨m, h1, h2.mono hI, h3⟩
theorem quV.mono {a : Qu} {vs : List Value} (h : quV I w a vs) (hI : ∀ b, I b → I' b) : quV I' w a vs := by
 obtain ⟨m, h1, h2, h3⟩ := h
 exact ⟨m, h1, h2.mono hI (fun a vs _ h => msgV.mono h hI), h3⟩
theorem ptV.mono {a : Pt} {vs : List Value} (h : ptV I w a vs) (hI : ∀ b, I b → I' b) : ptV I' w a vs := by
 obtain ⟨m, h1, h2, h3⟩ := h
 exact ⟨m, h1, h2.mono hI, h3⟩
end
end
section
open Go.RowKit
def wInt (n : Int) : List UInt8 := be (u64 n) 8
def wBy (m : List UInt8) : List UInt8 := be m.length 4 ++ m
def wWords (r : List Nat) : List UInt8 := r.flatMap fun x : Nat => wInt (x : Int)
def wPt (p : Pt) : List UInt8 := wInt p.id ++ (wInt p.size ++ (flagB p.keep :: (wWords p.r ++ (wInt (p.pc : Int) ++ (UInt8.ofNat p.st :: wBy p.mem)))))
def wMs (l : List (List UInt8)) : List UInt8 := wInt (l.length : Int) ++ l.flatMap wBy
def wQu (q : Qu) : List UInt8 := wInt q.ch.id ++ (wInt q.ch.src ++ (wInt q.ch.dst ++ (wInt q.ch.cap ++ (wInt q.ch.size ++ wMs q.msgs))))
def formS (s : Sta) : List UInt8 := wInt s.frames ++ (wInt (s.parts.length : Int) ++ (s.parts.flatMap wPt ++ (wInt (s.queues.length : Int) ++ s.queues.flatMap wQu)))
structure Rs where
 l : List UInt8
 er : Int
 wide : Bool
def Rs.int (s : Rs) : Int × Rs := ((rdInt s.l s.er).1, { s with l := (rdInt s.l s.er).2.1, er := (rdInt s.l s.er).2.2 })
def Rs.word (s : Rs) : Nat × Rs := ((s.int.1 % 4294967296).toNat, { s.int.2 with wide := s.wide || decide (s.int.1 < 0) || decide (4294967296 ≤ s.int.1) })
def Rs.flag (s : Rs) : Bool × Rs := ((rdFlag s.l s.er).1, { s with l := (rdFlag s.l s.er).2.1, er := (rdFlag s.l s.er).2.2 })
def Rs.byte (s : Rs) : UInt8 × Rs := ((rdByte s.l s.er).1, { s with l := (rdByte s.l s.er).2.1, er := (rdByte s.l s.er).2.2 })
def rdBytes (l : List UInt8) (er : Int) : List UInt8 × List UInt8 × Int :=
 if er = 0 then
  if 4 ≤ l.length then
   if num (l.take 4) ≤ 65536 then
    if num (l.take 4) ≤ (l.drop 4).length then ((l.drop 4).take (num (l.take 4)), (l.drop 4).drop (num (l.take 4)), 0) else ([], [], 50)
   else ([], [], 50)
  else ([], [], 50)
 else ([], l, er)
def Rs.bytes (s : Rs) : List UInt8 × Rs := ((rdBytes s.l s.er).1, { s with l := (rdBytes s.l s.er).2.1, er := (rdBytes s.l s.er).2.2 })
def rdCount (top : Nat) (l : List UInt8) (er : Int) : Int × List UInt8 × Int :=
 if er = 0 then
  if 8 ≤ l.length then
   if 0 ≤ i64 (num (l.take 8)) ∧ i64 (num (l.take 8)) ≤ min (top : Int) ((l.drop 8).length : Int) then (i64 (num (l.take 8)), l.drop 8, 0) else (0, [], 50)
  else (0, [], 50)
 else (0, l, er)
def Rs.count (top : Nat) (s : Rs) : Nat × Rs := ((rdCount top s.l s.er).1.toNat, { s with l := (rdCount top s.l s.er).2.1, er := (rdCount top s.l s.er).2.2 })
def Rs.many {α : Type} (f : Rs → α × Rs) : Nat → Rs → List α × Rs
 | 0, s => ([], s)
 | n + 1, s => ((f s).1 :: (Rs.many f n (f s).2).1, (Rs.many f n (f s).2).2)
def Rs.rows {α : Type} (top : Nat) (f : Rs → α × Rs) (s : Rs) : List α × Rs := Rs.many f (s.count top).1 (s.count top).2
def Rs.words : Nat → Rs → List Nat × Rs := Rs.many Rs.word
def Rs.pt (s : Rs) : Pt × Rs :=
 let a := s.int; let b := a.2.int; let c := b.2.flag; let d := Rs.words 8 c.2; let e := d.2.word; let f := e.2.byte; let g := f.2.bytes
 ({ id := a.1, size := b.1, keep := c.1, r := d.1, pc := e.1, st := f.1.toNat, mem := g.1 }, g.2)
def Rs.qu (s : Rs) : Qu × Rs :=
 let a := s.int; let b := a.2.int; let c := b.2.int; let d := c.2.int; let e := d.2.int; let f := Rs.rows 4 Rs.bytes e.2
 (⟨⟨a.1, b.1, c.1, d.1, e.1⟩, f.1⟩, f.2)
def Rs.sta (s : Rs) : Sta × Rs :=
 let a := s.int; let b := Rs.rows 6 Rs.pt a.2; let c := Rs.rows 8 Rs.qu b.2
 (⟨a.1, b.1, c.1⟩, c.2)
end
end Go.Proofs.YtkgnlobabknkcaaGreat
