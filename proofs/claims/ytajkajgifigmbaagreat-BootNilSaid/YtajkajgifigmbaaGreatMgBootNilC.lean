/- BootNil, part 3 of 14: contracts of the functions that it reaches, and the laws that they need, merged and shortened (from my texts XDk, XDiskD, XDiskM, XDisk, XDiskR, XWireR, XDeep, XIsaP, XVmP, XBts, XVmG, XCfg, XStP, XPutL, XValA). -/
import Derived.Test.YtajkajgifigmbaaGreatMgBootNilA
import Derived.Test.YtajkajgifigmbaaGreatMgBootNilB
import Derived.Laws.Sem
import Derived.OwnWalkIn
import Derived.LoopNIn
import Derived.Deep.LoopGhost
import Derived.Deep.MidRow
import Derived.StillTailTactics
import Derived.Lib.AtoiAll
import Derived.Lib.ItoaNum
import Derived.Lib.Split
import Derived.Lib.SplitLaws
import Derived.Lib.Join
import Derived.Test.YtajkajgifigmbaaGreatRows
import Derived.Deep.AppendLies
namespace Go.Proofs.YtajkajgifigmbaaGreat
set_option linter.unusedVariables false
set_option linter.unusedSimpArgs false
set_option maxHeartbeats 8000000
set_option maxRecDepth 100000
section
structure Dk where
 up : Bool
 sec : List (List UInt8)
 cache : List (Nat × List UInt8)
 left : Int
 stay : List UInt8
def look (m : List (Nat × List UInt8)) (i : Nat) : Option (List UInt8) := (m.find? (fun p => p.1 == i)).map (·.2)
namespace Dk
def at_ (D : Dk) (i : Nat) : List UInt8 := (look D.cache i).getD (D.sec.getD i [])
def ready (D : Dk) : Int := if D.up then 0 else 60
def new (n : Nat) : Dk := ⟨true, List.replicate n (List.replicate 64 0), [], 0, []⟩
structure Ok (D : Dk) : Prop where
 secs : ∀ s ∈ D.sec, s.length = 64
 keys : ∀ p ∈ D.cache, p.1 < D.sec.length ∧ p.2.length = 64
 nodup : (D.cache.map (·.1)).Nodup
 most : D.sec.length ≤ 1024
 left0 : 0 ≤ D.left
end Dk
end
section
open Go.RowKit Go.Maps Go.Sort Go.Shelf
def secV (l : List UInt8) : Value := .agg (l.map bv).toArray
def MapIs (w : World) (b : Nat) (m : List (Nat × List UInt8)) : Prop :=
 ∃ es clock, w.heap[b]? = some (.map es clock) ∧ MapKept.Stamped es clock ∧ es.toList.map (fun e => (e.key, e.val)) = m.map (fun p => (Value.int .i64 (p.1 : Int), secV p.2))
def R0 : Value → Option (DataW Unit × List MemPlace) := fun _ => some (.nil, [])
theorem mapIs_nodup {w : World} {b : Nat} {m : List (Nat × List UInt8)} (h : MapIs w b m) : (m.map (·.1)).Nodup := by
 obtain ⟨es, clock, hb, hs, hm⟩ := h
 have hk : es.toList.map (·.key) = m.map (fun p => Value.int .i64 (p.1 : Int)) := by
  have := congrArg (List.map (·.1)) hm
  simpa [List.map_map, Function.comp_def] using this
 have hn := hs.2.2
 rw [hk, List.Nodup, List.pairwise_map] at hn
 rw [List.Nodup, List.pairwise_map]
 exact hn.imp (fun h e => h (by rw [e]))
end
section
open Go.RowKit Go.Maps
def zSec : Array Value := Array.replicate 64 (.int .u8 0)
theorem look_mem {m : List (Nat × List UInt8)} {p : Nat × List UInt8} (hn : (m.map (·.1)).Nodup) (hp : p ∈ m) : look m p.1 = some p.2 := by
 unfold look
 induction m with
 | nil => cases hp
 | cons q r ih =>
  rw [List.map_cons, List.nodup_cons] at hn
  rw [List.find?_cons]
  rcases List.mem_cons.1 hp with rfl | hr
  ·simp
  ·have hne : q.1 ≠ p.1 := fun e => hn.1 (by rw [e]; exact List.mem_map.2 ⟨p, hr, rfl⟩)
   simp only [beq_eq_false_iff_ne.2 hne]
   exact ih hn.2 hr
theorem look_none {m : List (Nat × List UInt8)} {i : Nat} (h : ∀ p ∈ m, p.1 ≠ i) : look m i = none := by
 unfold look
 rw [List.find?_eq_none.2 (fun p hp => by simpa using h p hp)]
 rfl
theorem key_i64 (i : Nat) (h : i < 9223372036854775808) : keyOf Tryz.prog 3 (.int .i64 (i : Int)) = some (.int .i64 (i : Int)) :=
 Go.Maps.keyOf_int_mk Tryz.underlying3 (WalkArith.wf_i64 (by omega))
theorem intK : Keyed Tryz.prog 3 := Go.Maps.int_keyed Tryz.underlying3
theorem map_at {es : Array MapEntry} {m : List (Nat × List UInt8)} (hm : es.toList.map (fun e => (e.key, e.val)) = m.map (fun p => (Value.int .i64 (p.1 : Int), secV p.2))) {j : Nat} {e : MapEntry} (he : es.toList[j]? = some e) :
  ∃ p, m[j]? = some p ∧ e.key = .int .i64 (p.1 : Int) ∧ e.val = secV p.2 := by
 have h1 : (es.toList.map (fun e => (e.key, e.val)))[j]? = some (e.key, e.val) := by rw [List.getElem?_map, he]; rfl
 rw [hm, List.getElem?_map] at h1
 obtain ⟨p, hp, e'⟩ := Option.map_eq_some_iff.1 h1
 exact ⟨p, hp, (Prod.mk.inj e').1.symm, (Prod.mk.inj e').2.symm⟩
theorem keys_ok {es : Array MapEntry} {m : List (Nat × List UInt8)} (hm : es.toList.map (fun e => (e.key, e.val)) = m.map (fun p => (Value.int .i64 (p.1 : Int), secV p.2))) (hk : ∀ p ∈ m, p.1 < 1024) :
  ∀ e ∈ es.toList, ∃ l, keyOf Tryz.prog 3 e.key = some l := by
 intro e he
 obtain ⟨j, hj⟩ := List.getElem?_of_mem he
 obtain ⟨p, hp, h1, _⟩ := map_at hm hj
 rw [h1]
 exact ⟨_, key_i64 p.1 (by have := hk p (List.mem_of_getElem? hp); omega)⟩
theorem i64_inj {a b : Nat} (h : Value.int .i64 (a : Int) = Value.int .i64 (b : Int)) : a = b := by
 have h2 : (a : Int) = (b : Int) := by injection h
 exact Int.natCast_inj.1 h2
theorem find_run {w W : World} {b : Nat} {m : List (Nat × List UInt8)} {es : Array MapEntry} (hs : (es.toList.map (·.key)).Nodup) (hm : es.toList.map (fun e => (e.key, e.val)) = m.map (fun p => (Value.int .i64 (p.1 : Int), secV p.2)))
  (hmn : (m.map (·.1)).Nodup) (hk : ∀ p ∈ m, p.1 < 1024) (i : Nat) (hi : i < 1024) :
  ((Instr.findKey 3 (.int .i64 (i : Int)) es.toList).run Tryz.prog W = .ok none W ∧ ∀ p ∈ m, p.1 ≠ i) ∨
  ∃ j e p, (Instr.findKey 3 (.int .i64 (i : Int)) es.toList).run Tryz.prog W = .ok (some (j, secV p.2)) W ∧ es.toList[j]? = some e ∧ e.key = .int .i64 (i : Int) ∧ m[j]? = some p ∧ p.1 = i ∧ e.val = secV p.2 := by
 rcases intK.find W (key_i64 i (by omega)) es.toList (keys_ok hm hk) with ⟨h1, h2⟩ | ⟨j, e, h1, h2, h3⟩
 ·refine .inl ⟨h1, fun p hp hpi => ?_⟩
  obtain ⟨j, hj⟩ := List.getElem?_of_mem hp
  have hlen : es.toList.length = m.length := by have := congrArg List.length hm; simpa using this
  have hjl : j < es.toList.length := by rw [hlen]; exact (List.getElem?_eq_some_iff.1 hj).1
  obtain ⟨q, hq, hk1, _⟩ := map_at hm (List.getElem?_eq_getElem hjl)
  rw [hj] at hq
  injection hq with hq
  subst hq
  exact h2 _ (List.getElem_mem hjl) (by rw [hk1, hpi])
 ·obtain ⟨p, hp, hk1, hv⟩ := map_at hm h2
  refine .inr ⟨j, e, p, by rw [h1, hv], h2, h3, hp, ?_, hv⟩
  exact (i64_inj (h3.symm.trans hk1)).symm
theorem run_lookup {w : World} {b : Nat} {m : List (Nat × List UInt8)} (h : MapIs w b m) (hk : ∀ p ∈ m, p.1 < 1024) (i : Nat) (hi : i < 1024) (W : World) (hW : W.heap[b]? = w.heap[b]?) (ok : Bool) :
  (Instr.lookup 41 (.map (some b)) (.int .i64 (i : Int)) ok).run Tryz.prog W =
   .ok (let v := match look m i with | some l => secV l | none => .agg zSec
        if ok then .tuple #[v, .bool (look m i).isSome] else v) W := by
 have hn := mapIs_nodup h
 obtain ⟨es, clock, hb, hs, hm⟩ := h
 have hb' : W.heap[b]? = some (.map es clock) := hW.trans hb
 rcases find_run (w := w) (W := W) (b := b) hs.2.2 hm hn hk i hi with ⟨h1, h2⟩ | ⟨j, e, p, h1, h2, h3, h4, h5, h6⟩
 ·have hl := look_none h2
  cases ok <;> simp [Instr.lookup, run_underlying Tryz.underlying41, getObj, Sem.run, hb', intK.check W _ (key_i64 i (by omega)), h1, hl] <;> rfl
 ·have hl : look m i = some p.2 := by rw [← h5]; exact look_mem hn (List.mem_of_getElem? h4)
  cases ok <;> simp [Instr.lookup, run_underlying Tryz.underlying41, getObj, Sem.run, hb', intK.check W _ (key_i64 i (by omega)), h1, hl]
end
section
open Go.RowKit
def dCells (D : Dk) (ps pm : Nat) (A : Option Addr) (c : Nat) : Array Value :=
 #[.bool D.up, .slice (some ⟨ps, 0, none⟩) D.sec.length D.sec.length, .map (some pm), .int .i64 D.left, .slice A D.stay.length c]
def IsD (w : World) (pd ps pm : Nat) (D : Dk) : Prop :=
 D.Ok ∧ ∃ A c, w.heap[pd]? = some (.cells (dCells D ps pm A c) 43 (0, 0)) ∧ w.heap[ps]? = some (.cells (D.sec.flatten.map bv).toArray 136 (0, 0)) ∧ MapIs w pm D.cache ∧
  Rd w A D.stay ∧ (∀ b o, A = some ⟨b, o, none⟩ → D.stay ≠ [] → b ≠ ps) ∧ D.stay.length ≤ c ∧ c ≤ maxLen
theorem IsD.lt {w : World} {pd ps pm : Nat} {D : Dk} (h : IsD w pd ps pm D) : pd < w.heap.size ∧ ps < w.heap.size ∧ pm < w.heap.size := by
 obtain ⟨_, A, c, h1, h2, ⟨es, ck, h3, _⟩, _⟩ := h
 exact ⟨(Array.getElem?_eq_some_iff.1 h1).1, (Array.getElem?_eq_some_iff.1 h2).1, (Array.getElem?_eq_some_iff.1 h3).1⟩
theorem MapIs.keep {S : Nat → Prop} {w w' : World} {b : Nat} {m : List (Nat × List UInt8)} (h : MapIs w b m) (hg : Chg S w w') (hb : ¬ S b) : MapIs w' b m := by
 obtain ⟨es, ck, h1, h2⟩ := h
 exact ⟨es, ck, (hg.block b (Array.getElem?_eq_some_iff.1 h1).1 hb).trans h1, h2⟩
theorem IsD.keep {S : Nat → Prop} {w w' : World} {pd ps pm : Nat} {D : Dk} (h : IsD w pd ps pm D) (hg : Chg S w w') (hS : ∀ k, k < w.heap.size → S k → k ≠ pd ∧ k ≠ ps ∧ k ≠ pm)
  (hstay : ∀ A c, w.heap[pd]? = some (.cells (dCells D ps pm A c) 43 (0, 0)) → ∀ b o, A = some ⟨b, o, none⟩ → D.stay ≠ [] → ¬ S b) : IsD w' pd ps pm D := by
 obtain ⟨hok, A, c, h1, h2, h3, h4, h5⟩ := h
 have l1 := (Array.getElem?_eq_some_iff.1 h1).1
 have l2 := (Array.getElem?_eq_some_iff.1 h2).1
 have l3 : pm < w.heap.size := by obtain ⟨_, _, h, _⟩ := h3; exact (Array.getElem?_eq_some_iff.1 h).1
 exact ⟨hok, A, c, (hg.block pd l1 (fun e => (hS pd l1 e).1 rfl)).trans h1, (hg.block ps l2 (fun e => (hS ps l2 e).2.1 rfl)).trans h2, h3.keep hg (fun e => (hS pm l3 e).2.2 rfl), h4.keep hg (hstay A c h1), h5⟩
theorem IsD.non {w w' : World} {pd ps pm : Nat} {D : Dk} (h : IsD w pd ps pm D) (hg : Chg Non w w') : IsD w' pd ps pm D :=
 h.keep hg (fun _ _ e => e.elim) (fun _ _ _ _ _ _ _ e => e)
theorem IsD.cells {w : World} {pd ps pm : Nat} {D : Dk} (h : IsD w pd ps pm D) : ∃ A c,
  w.cell? ⟨pd, 0, none⟩ = some (.bool D.up) ∧ w.cell? ⟨pd, 1, none⟩ = some (.slice (some ⟨ps, 0, none⟩) D.sec.length D.sec.length) ∧ w.cell? ⟨pd, 2, none⟩ = some (.map (some pm)) ∧
  w.cell? ⟨pd, 3, none⟩ = some (.int .i64 D.left) ∧ w.cell? ⟨pd, 4, none⟩ = some (.slice A D.stay.length c) ∧ Rd w A D.stay ∧ D.stay.length ≤ c ∧ c ≤ maxLen := by
 obtain ⟨hok, A, c, h1, h2, h3, h4, h5, h6, h7⟩ := h
 exact ⟨A, c, by rw [cell_of_row _ _ _ _ _ _ h1]; rfl, by rw [cell_of_row _ _ _ _ _ _ h1]; rfl, by rw [cell_of_row _ _ _ _ _ _ h1]; rfl, by rw [cell_of_row _ _ _ _ _ _ h1]; rfl, by rw [cell_of_row _ _ _ _ _ _ h1]; rfl, h4, h6, h7⟩
theorem dnone_ok (pd ps pm : Nat) (D : Dk) (w : World) (h : IsD w pd ps pm D) :
  Calls Tryz.prog 76 #[.pointer (some ⟨pd, 0, none⟩)] w fun e w' => e = .returned (.bool false) ∧ w = w' := by
 obtain ⟨A, c, _, _, h2, _⟩ := h.cells
 have he : ∀ (W : World) (r : Option Nat), (binOp .eql 41 (.map r) (.map none)).run Tryz.prog W = .ok (.bool r.isNone) W := fun W r => run_eql_map_nil W _ _ _ r Tryz.underlying41
 go_enter Tryz.func76, Tryz.ntmps76
 go_wp2
 go_ret
 exact ⟨rfl, rfl⟩
theorem ready_ok (pd ps pm : Nat) (D : Dk) (w : World) (h : IsD w pd ps pm D) :
  Calls Tryz.prog 112 #[.pointer (some ⟨pd, 0, none⟩)] w fun e w' => e = .returned (.int .i64 D.ready) ∧ w = w' := by
 obtain ⟨A, c, h0, _⟩ := h.cells
 have hn := dnone_ok pd ps pm D w h
 have HN := Lh hn
 clear hn
 unfold Dk.ready
 obtain ⟨u, hu⟩ : ∃ u, D.up = u := ⟨_, rfl⟩
 rw [hu] at h0 ⊢
 clear hu
 cases u with
 | true =>
  go_enter Tryz.func112, Tryz.ntmps112
  go_wp2_with fail
  refine HN.out.mono ?_
  rintro e w' ⟨rfl, rfl⟩
  go_wp2
  go_ret
  exact ⟨rfl, rfl⟩
 | false =>
  go_enter Tryz.func112, Tryz.ntmps112
  go_wp2_with fail
  refine HN.out.mono ?_
  rintro e w' ⟨rfl, rfl⟩
  go_wp2
  go_ret
  exact ⟨rfl, rfl⟩
theorem Len_ok (pd ps pm : Nat) (D : Dk) (w : World) (h : IsD w pd ps pm D) :
  Calls Tryz.prog 60 #[.pointer (some ⟨pd, 0, none⟩)] w fun e w' => e = .returned (.int .i64 (D.sec.length : Nat)) ∧ w = w' := by
 obtain ⟨A, c, _, h1, _⟩ := h.cells
 have HN := Lh (dnone_ok pd ps pm D w h)
 go_enter Tryz.func60, Tryz.ntmps60
 go_wp2_with fail
 refine HN.out.mono ?_
 rintro e w' ⟨rfl, rfl⟩
 go_wp2
 go_ret
 exact ⟨rfl, rfl⟩
theorem has_ok (pd ps pm : Nat) (D : Dk) (i : Int) (w : World) (h : IsD w pd ps pm D) :
  Calls Tryz.prog 80 #[.pointer (some ⟨pd, 0, none⟩), .int .i64 i] w fun e w' => e = .returned (.bool (decide (0 ≤ i ∧ i < D.sec.length))) ∧ w = w' := by
 have HN := Lh (Len_ok pd ps pm D w h)
 by_cases h0 : 0 ≤ i
 ·by_cases h1 : i < D.sec.length
  ·rw [decide_eq_true (show 0 ≤ i ∧ i < D.sec.length from ⟨h0, h1⟩)]
   go_enter Tryz.func80, Tryz.ntmps80
   go_wp2_with fail
   refine HN.out.mono ?_
   rintro e w' ⟨rfl, rfl⟩
   go_wp2
   go_ret
   exact ⟨rfl, rfl⟩
  ·rw [decide_eq_false (show ¬ (0 ≤ i ∧ i < D.sec.length) from fun e => h1 e.2)]
   have hd : decide (i < (D.sec.length : Int)) = false := by simp; omega
   go_enter Tryz.func80, Tryz.ntmps80
   go_wp2_with fail
   refine HN.out.mono ?_
   rintro e w' ⟨rfl, rfl⟩
   go_wp2
   go_ret
   exact ⟨rfl, rfl⟩
 ·rw [decide_eq_false (show ¬ (0 ≤ i ∧ i < D.sec.length) from fun e => h0 e.1)]
  have hd : decide (0 ≤ i) = false := by simp; omega
  go_enter Tryz.func80, Tryz.ntmps80
  go_wp2
  go_ret
  exact ⟨rfl, rfl⟩
theorem Up_ok (pd ps pm : Nat) (D : Dk) (w : World) (h : IsD w pd ps pm D) :
  Calls Tryz.prog 22 #[.pointer (some ⟨pd, 0, none⟩)] w fun e w' => e = .returned (.bool D.up) ∧ w = w' := by
 obtain ⟨A, c, h0, _⟩ := h.cells
 have HN := Lh (dnone_ok pd ps pm D w h)
 go_enter Tryz.func22, Tryz.ntmps22
 go_wp2_with fail
 refine HN.out.mono ?_
 rintro e w' ⟨rfl, rfl⟩
 go_wp2
 go_ret
 exact ⟨rfl, rfl⟩
end
section
open Go.RowKit
theorem flat_at {sec : List (List UInt8)} (h : ∀ s ∈ sec, s.length = 64) (i : Nat) (hi : i < sec.length) (j : Nat) (hj : j < 64) : sec.flatten[i * 64 + j]? = (sec[i]'hi)[j]? := by
 induction sec generalizing i with
 | nil => simp at hi
 | cons s r ih =>
  have hs := h s (List.mem_cons_self)
  rw [List.flatten_cons]
  cases i with
  | zero => rw [List.getElem?_append_left (by omega)]; simp
  | succ i =>
   rw [List.getElem?_append_right (by omega), hs]
   have := ih (fun t ht => h t (List.mem_cons_of_mem _ ht)) i (by simpa using hi)
   rw [show (i + 1) * 64 + j - 64 = i * 64 + j from by omega, this]
   simp
theorem sec_range {w : World} {ps : Nat} {t : TypeId} {sec : List (List UInt8)} (hb : w.heap[ps]? = some (.cells (sec.flatten.map bv).toArray t (0, 0))) (h : ∀ s ∈ sec, s.length = 64) (i : Nat) (hi : i < sec.length) :
  w.rangeAt ps (i * 64) ((sec[i]'hi).map bv) := by
 intro j v hv
 rw [List.getElem?_map] at hv
 obtain ⟨x, hx, rfl⟩ := Option.map_eq_some_iff.1 hv
 have hl := h _ (List.getElem_mem hi)
 have hj : j < 64 := by rw [← hl]; exact (List.getElem?_eq_some_iff.1 hx).1
 rw [cell_of_row _ _ _ _ _ _ hb]
 simp only [List.getElem?_toArray, List.getElem?_map, flat_at h i hi j hj, hx]
 rfl
theorem secV_size (l : List UInt8) (h : l.length = 64) : (l.map bv).toArray.size = 64 := by simp [h]
theorem secV_one (l : List UInt8) : ((l.map bv).toArray).all (·.oneCell') = true := all_oneCell_toArray (bv_one l)
theorem zSec_one : zSec.all (·.oneCell') = true := by
 have : zSec = ((List.replicate 64 (0 : UInt8)).map bv).toArray := rfl
 rw [this]; exact secV_one _
theorem info_sec : (Tryz.prog.info? 136).map (·.size) = some 64 := by kernel_rfl
def secA (l : List UInt8) : Array Value := (l.map bv).toArray
theorem secA_size (l : List UInt8) (h : l.length = 64) : (secA l).size = 64 := secV_size l h
theorem secA_one (l : List UInt8) : (secA l).all (·.oneCell') = true := secV_one l
theorem wpList_load_sec {w : World} {ops : Array Oper} {rest : List Oper} {op : Oper} {a : Act} {Q : Exit → Act → World → Prop} (hgd : op.guard = none) (x : Operand) (ho : op.op = .load 136 x)
  (b o : Nat) (hx : a.eval x = .pointer (some ⟨b, o, none⟩)) (l : List UInt8) (hc : w.rangeAt b o (l.map bv)) (hl : l.length = 64)
  (h : wpList Tryz.prog ops Q rest (a.put op.dst (.agg (secA l))) w) : wpList Tryz.prog ops Q (op :: rest) a w :=
 wpList_load_mid hgd 136 x ho b o hx (l.map bv) _ hc Tryz.underlying136 rfl (by rw [List.length_map, hl]; exact info_sec) h
theorem own_of_block {W : World} {B g : Nat} {t : TypeId} {l : List UInt8} (h : W.heap[g]? = some (.cells (l.map bv).toArray t (0, 0))) (hB : B ≤ g) : Own B W (some ⟨g, 0, none⟩) l := by
 intro i x hx
 refine ⟨g, 0, rfl, hB, ?_, frozen_of_row _ _ _ _ _ h⟩
 rw [cell_of_row _ _ _ _ _ _ h, Nat.zero_add]
 simp [hx, bv]
theorem Read_any (pd ps pm : Nat) (D : Dk) (i : Nat) (w : World) (h : IsD w pd ps pm D) (hup : D.up = true) (hi : i < D.sec.length) :
  Calls Tryz.prog 110 #[.pointer (some ⟨pd, 0, none⟩), .int .i64 (i : Int)] w (RetB2 w (D.at_ i) (.int .i64 0)) := by
 obtain ⟨A, c, _, h1, h2, _⟩ := h.cells
 have hok := h.1
 have hrd := ready_ok pd ps pm D w h
 have hr1 : D.ready = 0 := by unfold Dk.ready; rw [hup]; rfl
 rw [hr1] at hrd
 have hhas := has_ok pd ps pm D i w h
 rw [decide_eq_true (show (0 : Int) ≤ i ∧ (i : Int) < D.sec.length from ⟨by omega, by omega⟩)] at hhas
 have HR := Lh hrd
 have HH := Lh hhas
 clear hrd hhas hr1
 have hlen : D.sec.length ≤ 1024 := hok.most
 have hlk := run_lookup h.2.choose_spec.choose_spec.2.2.1 (fun p hp => by have := (hok.keys p hp).1; omega) i (by omega) w rfl true
 have hrg := sec_range h.2.choose_spec.choose_spec.2.1 hok.secs i hi
 have hsl := hok.secs _ (List.getElem_mem hi)
 unfold Dk.at_
 have hcl : ∀ l, look D.cache i = some l → l.length = 64 := by
  intro l hl
  unfold look at hl
  obtain ⟨p, hp, rfl⟩ := Option.map_eq_some_iff.1 hl
  exact (hok.keys p (List.mem_of_find?_eq_some hp)).2
 cases hl : look D.cache i with
 | some l =>
  rw [hl] at hlk
  have hl64 := hcl l hl
  have HL := Lh hl64
  clear hcl hl64 hl
  have HG := Lh hrg
  have HS := Lh hsl
  clear hrg hsl
  simp only [Option.isSome_some, if_true, Option.getD_some] at hlk ⊢
  go_enter Tryz.func110, Tryz.ntmps110
  go_wp2_with fail
  refine HR.out.mono ?_
  rintro e w' ⟨rfl, rfl⟩
  go_wp2_with fail
  refine HH.out.mono ?_
  rintro e w' ⟨rfl, rfl⟩
  go_wp2_with (refine sel none (.store 136 (.tmp 7) (.tmp 25)) ?_; refine wpList_store_row rfl 136 (.tmp 7) (.tmp 25) rfl w.heap.size (l.map bv).toArray rfl rfl 136 _ (heap_alloc_new _ _) (by rw [secV_size l HL.out]; exact info_sec) (by rw [secV_size l HL.out]; rfl) (secV_one l) ?_)
  have hb := setRow_heap (w.alloc (.cells zSec 136)) w.heap.size _ (l.map bv).toArray _ _ (heap_alloc_new _ _)
  have hg : Chg Non w ((w.alloc (.cells zSec 136)).setRow w.heap.size (l.map bv).toArray) := ((Chg.refl _ _).alloc _).setRow (.inr (Nat.le_refl _)) _
  go_ret2
  exact ⟨some ⟨w.heap.size, 0, none⟩, 64, by rw [HL.out]; rfl, by rw [HL.out]; omega, by unfold maxLen; omega, own_of_block hb (Nat.le_refl _), hg⟩
 | none =>
  rw [hl] at hlk
  clear hcl hl
  have HG := Lh hrg
  have HS := Lh hsl
  clear hrg hsl
  have hgd : D.sec.getD i [] = D.sec[i]'hi := by simp [List.getD, List.getElem?_eq_getElem hi]
  simp only [Option.isSome_none, if_true, Option.getD_none, hgd] at hlk ⊢
  clear hgd
  obtain ⟨s, hs⟩ : ∃ s, D.sec[i]'hi = s := ⟨_, rfl⟩
  rw [hs] at HG HS ⊢
  clear hs
  go_enter Tryz.func110, Tryz.ntmps110
  go_wp2_with fail
  refine HR.out.mono ?_
  rintro e w' ⟨rfl, rfl⟩
  go_wp2_with fail
  refine HH.out.mono ?_
  rintro e w' ⟨rfl, rfl⟩
  have hlt := h.lt
  go_wp2_with (first
    | (refine sel none (.store 136 (.tmp 7) (.tmp 25)) ?_
       refine wpList_store_rowA rfl 136 (.tmp 7) (.tmp 25) rfl w.heap.size zSec rfl rfl 136 _ (heap_alloc_new _ _) info_sec rfl zSec_one ?_
       intro W hgW hbW
       have hg1 : Chg Non w W := ((Chg.refl Non w).alloc _).then_new hgW (fun x e => by rw [e]; exact Nat.le_refl _)
       have HBW := Lh hbW
       have HGW := Lh (show W.rangeAt ps (i * 64) (s.map bv) from fun j v hv => hg1.cell_some (HG.out j v hv) (fun e => e))
       have k1 : W.cell? ⟨pd, 1, none⟩ = some (.slice (some ⟨ps, 0, none⟩) D.sec.length D.sec.length) := hg1.cell_some h1 (fun e => e)
       clear hbW hgW)
    | (refine sel (some 35) (.load 136 (.tmp 34)) ?_
       refine wpList_load_sec rfl (.tmp 34) rfl ps (i * 64) rfl s HGW.out HS.out ?_)
    | (refine sel none (.store 136 (.tmp 7) (.tmp 35)) ?_
       refine wpList_store_rowA rfl 136 (.tmp 7) (.tmp 35) rfl w.heap.size (secA s) rfl rfl 136 zSec HBW.out (by rw [secA_size _ HS.out]; exact info_sec) (by rw [secA_size _ HS.out]; rfl) (secA_one _) ?_
       intro W2 hgW2 hbW2
       have hg2 : Chg Non w W2 := hg1.then_new hgW2 (fun x e => by rw [e]; exact Nat.le_refl _)
       have HB2 := Lh hbW2
       clear hbW2 hgW2))
  go_ret2
  exact ⟨some ⟨w.heap.size, 0, none⟩, 64, by rw [HS.out]; rfl, by rw [HS.out]; omega, by unfold maxLen; omega, own_of_block HB2.out (Nat.le_refl _), hg2⟩
theorem Read_no_sector (pd ps pm : Nat) (D : Dk) (i : Int) (w : World) (h : IsD w pd ps pm D) (hup : D.up = true) (hi : ¬ (0 ≤ i ∧ i < D.sec.length)) :
  Calls Tryz.prog 110 #[.pointer (some ⟨pd, 0, none⟩), .int .i64 i] w fun e w' => e = .returned (.tuple #[.slice none 0 0, .int .i64 61]) ∧ w = w' := by
 have hrd := ready_ok pd ps pm D w h
 have hr1 : D.ready = 0 := by unfold Dk.ready; rw [hup]; rfl
 rw [hr1] at hrd
 have hh := has_ok pd ps pm D i w h
 rw [decide_eq_false hi] at hh
 have HR := Lh hrd
 have HH := Lh hh
 clear hrd hr1 hh hi
 go_enter Tryz.func110, Tryz.ntmps110
 go_wp2_with fail
 refine HR.out.mono ?_
 rintro e w' ⟨rfl, rfl⟩
 go_wp2_with fail
 refine HH.out.mono ?_
 rintro e w' ⟨rfl, rfl⟩
 go_wp2
 go_ret2
 exact ⟨rfl, rfl⟩
theorem info_sec3 : (Tryz.prog.info? 136).map (fun i => (i.zero, i.size, i.bytes)) = some (some (.agg zSec), 64, 64) := by kernel_rfl
theorem madeSec (n : Nat) : madeCells zSec (n * 64) = ((List.replicate n (List.replicate 64 (0 : UInt8))).flatten.map bv).toArray := by
 apply Array.ext_getElem?
 intro i
 by_cases hi : i < n * 64
 ·have hz : ∀ k, k < 64 → zSec[k]? = some (.int .u8 0) := by intro k hk; simp [zSec, hk]
  have h1 : (madeCells zSec (n * 64))[i]? = some (.int .u8 0) := by
   simp only [madeCells, Array.getElem?_map]
   rw [Array.getElem?_range, if_pos hi, Option.map_some, getElem!_def]
   have := hz (i % 64) (Nat.mod_lt _ (by omega))
   have hs : zSec.size = 64 := rfl
   rw [hs, this]
  have h2 : (List.replicate n (List.replicate 64 (0 : UInt8))).flatten[i]? = some 0 := by
   rw [List.flatten_replicate_replicate]
   simp [hi]
  rw [h1, List.getElem?_toArray, List.getElem?_map, h2]
  rfl
 ·have h1 : (madeCells zSec (n * 64))[i]? = none := Array.getElem?_eq_none (by rw [size_madeCells]; omega)
  have h2 : ((List.replicate n (List.replicate 64 (0 : UInt8))).flatten.map bv).toArray[i]? = none := Array.getElem?_eq_none (by
    rw [List.flatten_replicate_replicate]; simp; omega)
  rw [h1, h2]
theorem new_ok (n : Nat) (h1 : n ≤ 1024) : (Dk.new n).Ok :=
 ⟨fun s hs => by rw [(List.mem_replicate.1 hs).2, List.length_replicate], fun p hp => (by cases hp), List.nodup_nil, (by simpa [Dk.new] using h1), Int.le_refl _⟩
theorem New_ok (n : Nat) (w : World) (h1 : 1 ≤ n) (h2 : n ≤ 1024) :
  Calls Tryz.prog 11 #[.int .i64 (n : Int)] w fun e w' => ∃ pd ps pm, e = .returned (.tuple #[.pointer (some ⟨pd, 0, none⟩), .int .i64 0]) ∧ IsD w' pd ps pm (Dk.new n) ∧ w.heap.size ≤ pd ∧ w.heap.size ≤ ps ∧ w.heap.size ≤ pm ∧ Chg Non w w' := by
 obtain ⟨i0, hi0, hz0, hs0, hb0⟩ := info_parts info_sec3
 have hmk : ∀ W : World, (Instr.makeSlice 40 (.int .i64 (n : Int)) (.int .i64 (n : Int))).run Tryz.prog W = .ok (.slice (some ⟨W.heap.size, 0, none⟩) n n) (W.alloc (.cells (((Dk.new n).sec.flatten.map bv).toArray) 136)) := fun W => by
  have h := run_make (P := Tryz.prog) W 40 136 i0 (.agg zSec) Tryz.underlying40 hi0 hz0 .i64 .i64 n n (by omega) (Int.le_refl _) (by rw [hb0]; omega) (by omega)
  rw [h, hs0]
  show Result.ok _ (W.alloc (.cells (madeCells zSec (n * 64)) _)) = _
  rw [madeSec]
  rfl
 have hmm := @run_makeMap Tryz.prog
 obtain ⟨X, hX⟩ : ∃ X, ((Dk.new n).sec.flatten.map bv).toArray = X := ⟨_, rfl⟩
 rw [hX] at hmk
 have HX := Lh hX
 clear hX hi0 hz0 hs0 hb0
 go_enter Tryz.func11, Tryz.ntmps11
 go_wp2
 go_ret2
 have a1 := fun o o' o'' => heap_alloc2_new ((w.alloc o)) o' o''
 have e1 : ∀ o : Obj, (w.alloc o).heap.size = w.heap.size + 1 := fun o => by simp
 have e2 : ∀ o o' : Obj, ((w.alloc o).alloc o').heap.size = w.heap.size + 1 + 1 := fun o o' => by simp
 have b3 : ∀ o o' o'' : Obj, (((w.alloc o).alloc o').alloc o'').heap[w.heap.size + 1 + 1]? = some o'' := fun o o' o'' => by
  have := heap_alloc_new ((w.alloc o).alloc o') o''
  rw [e2] at this
  exact this
 have b2 : ∀ o o' o'' : Obj, (((w.alloc o).alloc o').alloc o'').heap[w.heap.size + 1]? = some o' := fun o o' o'' => by
  rw [Below.heap_alloc ((w.alloc o).alloc o') o'' _ (by rw [e2]; omega)]
  exact heap_alloc2_new w o o'
 have b1 : ∀ o o' o'' : Obj, (((w.alloc o).alloc o').alloc o'').heap[w.heap.size]? = some o := fun o o' o'' => by
  rw [Below.heap_alloc ((w.alloc o).alloc o') o'' _ (by rw [e2]; omega)]
  exact heap_alloc2_old w o o'
 refine ⟨w.heap.size + 1 + 1, w.heap.size, w.heap.size + 1, rfl, ⟨new_ok n h2, none, 0, ?_, ?_, ⟨#[], 0, b2 _ _ _, ⟨by simp, by simp, by simp⟩, rfl⟩, Rd.nil _ _, (fun b o e => by cases e), Nat.le_refl _, by simp⟩, by omega, Nat.le_refl _, by omega, (((Chg.refl _ _).alloc _).alloc _).alloc _⟩
 ·rw [b3]
  simp only [dCells, Dk.new, List.length_replicate]
  rfl
 ·rw [b1, HX.out]
end
section
open Go.RowKit
theorem Byte1_ok (A : Option Addr) (x : UInt8) (w : World) (hr : Rd w A [x]) :
  Calls Tryz.prog 259 #[.slice A 1 1] w fun e w' => e = .returned (.tuple #[.int .u8 (x.toNat : Int), .bool true]) ∧ w = w' := by
 obtain ⟨b, o, rfl, _, hc⟩ := hr.at_ (by simp)
 have h0 : w.cell? ⟨b, o, none⟩ = some (.int .u8 (x.toNat : Int)) := hc 0 (by simp)
 clear hc hr
 go_enter Tryz.func259, Tryz.ntmps259
 go_wp2
 go_ret2
 exact ⟨rfl, rfl⟩
def rdByte (l : List UInt8) (er : Int) : UInt8 × List UInt8 × Int :=
 if er = 0 then (match l with | x :: r => (x, r, 0) | [] => (0, [], 50)) else (0, l, er)
theorem fieldByte_any (p : Nat) (l : List UInt8) (er : Int) (w : World) (hR : IsR w p l er) :
  Calls Tryz.prog 258 #[.pointer (some ⟨p, 0, none⟩), .int .i64 1, .func (.func 259) #[] #[]] w fun e w' => e = .returned (.int .u8 ((rdByte l er).1.toNat : Int)) ∧ IsR w' p (rdByte l er).2.1 (rdByte l er).2.2 ∧ Chg (At p) w w' := by
 unfold rdByte
 by_cases he : er = 0
 ·subst he
  cases l with
  | nil =>
   have HT := Lh (take_short p 1 [] w hR (by simp))
   clear hR
   go_enter Tryz.func258, Tryz.ntmps258
   go_wp2_with fail
   refine HT.out.mono ?_
   rintro e w1 ⟨rfl, hR1, hg⟩
   go_wp2
   go_ret
   exact ⟨rfl, hR1, hg⟩
  | cons x r =>
   have ht := take_ok p 1 (x :: r) w hR (by simp)
   simp only [List.take_succ_cons, List.take_zero, List.drop_succ_cons, List.drop_zero] at ht
   have HT := Lh ht
   clear hR ht
   go_enter Tryz.func258, Tryz.ntmps258
   go_wp2_with fail
   refine HT.out.mono ?_
   rintro e w1 ⟨A, rfl, hr, hR1, hg⟩
   go_wp2_with fail
   refine (Byte1_ok A x w1 hr).mono ?_
   rintro e w2 ⟨rfl, rfl⟩
   go_wp2
   go_ret
   exact ⟨rfl, hR1, hg⟩
 ·simp only [he, if_false]
  have HT := Lh (take_broken p 1 l er w hR he)
  have HR := Lh hR
  clear hR he
  go_enter Tryz.func258, Tryz.ntmps258
  go_wp2_with fail
  refine HT.out.mono ?_
  rintro e w1 ⟨rfl, rfl⟩
  go_wp2
  go_ret
  exact ⟨rfl, HR.out, Chg.refl _ _⟩
theorem RByte_any (p : Nat) (l : List UInt8) (er : Int) (w : World) (hR : IsR w p l er) :
  Calls Tryz.prog 192 #[.pointer (some ⟨p, 0, none⟩)] w fun e w' => e = .returned (.int .u8 ((rdByte l er).1.toNat : Int)) ∧ IsR w' p (rdByte l er).2.1 (rdByte l er).2.2 ∧ Chg (At p) w w' := by
 have HF := Lh (fieldByte_any p l er w hR)
 clear hR
 obtain ⟨⟨x, l', er'⟩, hq⟩ : ∃ q, rdByte l er = q := ⟨_, rfl⟩
 rw [hq] at HF ⊢
 clear hq
 go_enter Tryz.func192, Tryz.ntmps192
 go_wp2_with fail
 refine HF.out.mono ?_
 rintro e w1 ⟨rfl, hR1, hg⟩
 go_wp2
 go_ret
 exact ⟨rfl, hR1, hg⟩
theorem Flag1_ok (A : Option Addr) (x : UInt8) (w : World) (hr : Rd w A [x]) :
  Calls Tryz.prog 261 #[.slice A 1 1] w fun e w' => e = .returned (.tuple #[.bool (decide (x = 1)), .bool (decide (x ≤ 1))]) ∧ Chg Non w w' := by
 obtain ⟨b, o, rfl, _, hc⟩ := hr.at_ (by simp)
 have h0 : w.cell? ⟨b, o, none⟩ = some (.int .u8 (x.toNat : Int)) := hc 0 (by simp)
 clear hc hr
 have e1 : ((x.toNat : Int) == 1) = decide (x = 1) := by
  rw [Bool.eq_iff_iff]
  simp only [beq_iff_eq, decide_eq_true_eq, ← UInt8.toNat_inj]
  show (x.toNat : Int) = 1 ↔ x.toNat = 1
  omega
 have e2 : decide ((x.toNat : Int) ≤ 1) = decide (x ≤ 1) := by
  rw [Bool.eq_iff_iff]
  simp only [decide_eq_true_eq, UInt8.le_iff_toNat_le]
  show (x.toNat : Int) ≤ 1 ↔ x.toNat ≤ 1
  omega
 rw [← e1, ← e2]
 clear e1 e2
 go_enter Tryz.func261, Tryz.ntmps261
 go_wp2
 go_quiet (fail)
 go_wp2
 go_ret2
 exact ⟨rfl, (Chg.refl _ _).drewN _⟩
def rdFlag (l : List UInt8) (er : Int) : Bool × List UInt8 × Int :=
 if er = 0 then (match l with | x :: r => if x ≤ 1 then (decide (x = 1), r, 0) else (false, [], 50) | [] => (false, [], 50)) else (false, l, er)
theorem fieldFlag_any (p : Nat) (l : List UInt8) (er : Int) (w : World) (hR : IsR w p l er) :
  Calls Tryz.prog 260 #[.pointer (some ⟨p, 0, none⟩), .int .i64 1, .func (.func 261) #[] #[]] w fun e w' => e = .returned (.bool (rdFlag l er).1) ∧ IsR w' p (rdFlag l er).2.1 (rdFlag l er).2.2 ∧ Chg (At p) w w' := by
 unfold rdFlag
 by_cases he : er = 0
 ·subst he
  cases l with
  | nil =>
   have HT := Lh (take_short p 1 [] w hR (by simp))
   clear hR
   go_enter Tryz.func260, Tryz.ntmps260
   go_wp2_with fail
   refine HT.out.mono ?_
   rintro e w1 ⟨rfl, hR1, hg⟩
   go_wp2
   go_ret
   exact ⟨rfl, hR1, hg⟩
  | cons x r =>
   have ht := take_ok p 1 (x :: r) w hR (by simp)
   simp only [List.take_succ_cons, List.take_zero, List.drop_succ_cons, List.drop_zero] at ht
   have HT := Lh ht
   clear hR ht
   simp only [if_true]
   by_cases hx : x ≤ 1
   ·have hc := fun A W h => Flag1_ok A x W h
    rw [decide_eq_true hx] at hc
    have HC := Lh hc
    simp only [hx, if_true]
    obtain ⟨y, hy⟩ : ∃ y, decide (x = 1) = y := ⟨_, rfl⟩
    rw [hy] at HC ⊢
    clear hc hx hy
    go_enter Tryz.func260, Tryz.ntmps260
    go_wp2_with fail
    refine HT.out.mono ?_
    rintro e w1 ⟨A, rfl, hr, hR1, hg⟩
    go_wp2_with fail
    refine (HC.out A w1 hr).mono ?_
    rintro e w2 ⟨rfl, hg2⟩
    go_wp2
    go_ret
    exact ⟨rfl, (by
      obtain ⟨A', c', hb, hr', h3, h4⟩ := hR1
      exact ⟨A', c', (hg2.block p (Array.getElem?_eq_some_iff.1 hb).1 (fun e => e)).trans hb, hr'.non hg2, h3, h4⟩), hg.then_non hg2⟩
   ·have hc := fun A W h => Flag1_ok A x W h
    rw [decide_eq_false hx] at hc
    have HC := Lh hc
    simp only [hx, if_false]
    obtain ⟨y, hy⟩ : ∃ y, decide (x = 1) = y := ⟨_, rfl⟩
    rw [hy] at HC
    clear hc hx hy
    go_enter Tryz.func260, Tryz.ntmps260
    go_wp2_with fail
    refine HT.out.mono ?_
    rintro e w1 ⟨A, rfl, hr, hR1, hg⟩
    go_wp2_with fail
    refine (HC.out A w1 hr).mono ?_
    rintro e w2 ⟨rfl, hg2⟩
    have hR2 : IsR w2 p r 0 := by
     obtain ⟨A', c', hb, hr', h3, h4⟩ := hR1
     exact ⟨A', c', (hg2.block p (Array.getElem?_eq_some_iff.1 hb).1 (fun e => e)).trans hb, hr'.non hg2, h3, h4⟩
    go_wp2_with fail
    refine (breaks_ok p r w2 hR2).mono ?_
    rintro e w3 ⟨rfl, hR3, hg3⟩
    go_wp2
    go_ret
    exact ⟨rfl, hR3, (hg.then_non hg2).trans_same hg3⟩
 ·simp only [he, if_false]
  have HT := Lh (take_broken p 1 l er w hR he)
  have HR := Lh hR
  clear hR he
  go_enter Tryz.func260, Tryz.ntmps260
  go_wp2_with fail
  refine HT.out.mono ?_
  rintro e w1 ⟨rfl, rfl⟩
  go_wp2
  go_ret
  exact ⟨rfl, HR.out, Chg.refl _ _⟩
theorem RFlag_any (p : Nat) (l : List UInt8) (er : Int) (w : World) (hR : IsR w p l er) :
  Calls Tryz.prog 193 #[.pointer (some ⟨p, 0, none⟩)] w fun e w' => e = .returned (.bool (rdFlag l er).1) ∧ IsR w' p (rdFlag l er).2.1 (rdFlag l er).2.2 ∧ Chg (At p) w w' := by
 have HF := Lh (fieldFlag_any p l er w hR)
 clear hR
 obtain ⟨⟨x, l', er'⟩, hq⟩ : ∃ q, rdFlag l er = q := ⟨_, rfl⟩
 rw [hq] at HF ⊢
 clear hq
 go_enter Tryz.func193, Tryz.ntmps193
 go_wp2_with fail
 refine HF.out.mono ?_
 rintro e w1 ⟨rfl, hR1, hg⟩
 go_wp2
 go_ret
 exact ⟨rfl, hR1, hg⟩
end
section
open Go.RowKit
def From (B : Nat) : Nat → Prop := fun b => B ≤ b
def Upto (B : Nat) : Nat → Prop := fun b => b < B
theorem range_keepS {S : Nat → Prop} {w w' : World} {b o : Nat} {vs : List Value} (h : w.rangeAt b o vs) (hg : Chg S w w') (hn : ¬ S b) : w'.rangeAt b o vs := fun j v hv => hg.cell_some (h j v hv) hn
def RdL {α : Type} (R : World → α → List Value → Prop) (I : Nat → Prop) (sz : Nat) (w : World) (A : Option Addr) (l : List α) : Prop :=
 ∀ (i : Nat) (a : α), l[i]? = some a → ∃ b o vs, A = some ⟨b, o, none⟩ ∧ I b ∧ vs.length = sz ∧ w.rangeAt b (o + i * sz) vs ∧ R w a vs
namespace RdL
variable {α : Type} {R R' : World → α → List Value → Prop} {I I' S : Nat → Prop} {sz : Nat} {w w' : World} {A : Option Addr} {l : List α}
theorem nil (R : World → α → List Value → Prop) (I : Nat → Prop) (sz : Nat) (w : World) (A : Option Addr) : RdL R I sz w A [] := fun i a h => by simp at h
theorem keep (h : RdL R I sz w A l) (hg : Chg S w w') (hI : ∀ b, I b → ¬ S b) (hR : ∀ a vs, a ∈ l → R w a vs → R w' a vs) : RdL R I sz w' A l := by
 intro i a ha
 obtain ⟨b, o, vs, e, hb, hl, hc, hr⟩ := h i a ha
 exact ⟨b, o, vs, e, hb, hl, range_keepS hc hg (hI b hb), hR a vs (List.mem_of_getElem? ha) hr⟩
theorem non (h : RdL R I sz w A l) (hg : Chg Non w w') (hR : ∀ a vs, R w a vs → R w' a vs) : RdL R I sz w' A l := h.keep hg (fun _ _ e => e) (fun a vs _ => hR a vs)
theorem mono (h : RdL R I sz w A l) (hI : ∀ b, I b → I' b) (hR : ∀ a vs, a ∈ l → R w a vs → R' w a vs) : RdL R' I' sz w A l := by
 intro i a ha
 obtain ⟨b, o, vs, e, hb, hl, hc, hr⟩ := h i a ha
 exact ⟨b, o, vs, e, hI b hb, hl, hc, hR a vs (List.mem_of_getElem? ha) hr⟩
theorem at_ (h : RdL R I sz w A l) (h0 : 0 < l.length) : ∃ b o, A = some ⟨b, o, none⟩ ∧ I b ∧ ∀ i a, l[i]? = some a → ∃ vs, vs.length = sz ∧ w.rangeAt b (o + i * sz) vs ∧ R w a vs := by
 obtain ⟨b, o, vs, rfl, hb, _⟩ := h 0 l[0] (List.getElem?_eq_getElem h0)
 refine ⟨b, o, rfl, hb, fun i a ha => ?_⟩
 obtain ⟨b', o', vs', e, hb', hl, hc, hr⟩ := h i a ha
 injection e with e
 injection e with e1 e2 _
 subst e1 e2
 exact ⟨vs', hl, hc, hr⟩
end RdL
def BytesV (I : Nat → Prop) (w : World) (l : List UInt8) (v : Value) : Prop := ∃ A c, v = .slice A l.length c ∧ l.length ≤ c ∧ c ≤ maxLen ∧ Rd w A l ∧ ∀ b o, A = some ⟨b, o, none⟩ → l ≠ [] → I b
namespace BytesV
variable {I I' S : Nat → Prop} {w w' : World} {l : List UInt8} {v : Value}
theorem keep (h : BytesV I w l v) (hg : Chg S w w') (hI : ∀ b, I b → ¬ S b) : BytesV I w' l v := by
 obtain ⟨A, c, h1, h2, h3, h4, h5⟩ := h
 exact ⟨A, c, h1, h2, h3, h4.keep hg (fun b o e hl => hI b (h5 b o e hl)), h5⟩
theorem non (h : BytesV I w l v) (hg : Chg Non w w') : BytesV I w' l v := h.keep hg (fun _ _ e => e)
theorem mono (h : BytesV I w l v) (hI : ∀ b, I b → I' b) : BytesV I' w l v := by
 obtain ⟨A, c, h1, h2, h3, h4, h5⟩ := h
 exact ⟨A, c, h1, h2, h3, h4, fun b o e hl => hI b (h5 b o e hl)⟩
theorem nil (I : Nat → Prop) (w : World) : BytesV I w [] (.slice none 0 0) := ⟨none, 0, rfl, Nat.le_refl _, by simp, Rd.nil _ _, fun _ _ e => by cases e⟩
end BytesV
theorem own_bytes {B : Nat} {w : World} {A : Option Addr} {l : List UInt8} {c : Nat} (h : Own B w A l) (hc : l.length ≤ c) (hm : c ≤ maxLen) : BytesV (From B) w l (.slice A l.length c) :=
 ⟨A, c, rfl, hc, hm, h.rd, fun b o e hl => by subst e; exact h.ge hl⟩
end
section

end
section
def put (m : List UInt8) (at_ : Nat) (b : List UInt8) : List UInt8 := m.take at_ ++ (b ++ m.drop (at_ + b.length))
end
section
open Go.RowKit
theorem plain_add (b o k : Nat) : (⟨b, o, none⟩ : Addr).add k = ⟨b, o + k, none⟩ := by
 unfold Addr.add
 split <;> simp_all
def OwnR (B : Nat) (w : World) (v : Value) (l : List UInt8) : Prop := w.ownsRow B 5 1 v l.length (l.map bv)
theorem OwnR.ge {B : Nat} {w : World} {v : Value} {l : List UInt8} (h : OwnR B w v l) {g : Nat} (hg : v.ownBlock = some g) : B ≤ g := by
 rcases h.2 with ⟨rfl, _⟩ | ⟨g2, cap, cur, rfl, hB, _⟩
 ·simp [Value.ownBlock] at hg
 ·obtain rfl : g2 = g := by simpa [Value.ownBlock] using hg
  exact hB
end
section
open Go.RowKit
theorem set_at (w : World) (b i : Nat) (v : Value) : Chg (fun k => k = b) w (w.setCell ⟨b, i, none⟩ v) := (Chg.refl (fun k => k = b) w).setCell (p := ⟨b, i, none⟩) (.inl rfl) v
theorem setAt (w : World) (b i : Nat) (v : Value) : Chg (fun k => k = b) w (w.setCell ⟨b, i, none⟩ v) := set_at w b i v
end
section
open Go.RowKit
def I64 (n : Int) : Prop := -9223372036854775808 ≤ n ∧ n ≤ 9223372036854775807
structure Win where
 len : Int
 part : Int
structure Pn where
 id : Int
 base : Int
 size : Int
 keep : Bool
 img : List UInt8
structure Ch where
 id : Int
 src : Int
 dst : Int
 cap : Int
 size : Int
structure Cfg where
 ws : List Win
 ps : List Pn
 cs : List Ch
def Win.L (a : Win) : List Value := [.int .i64 a.len, .int .i64 a.part]
def Pn.L (a : Pn) (m : Value) : List Value := [.int .i64 a.id, .int .i64 a.base, .int .i64 a.size, .bool a.keep, m]
def Ch.L (a : Ch) : List Value := [.int .i64 a.id, .int .i64 a.src, .int .i64 a.dst, .int .i64 a.cap, .int .i64 a.size]
def Ch.Bd (a : Ch) : Prop := I64 a.id ∧ I64 a.src ∧ I64 a.dst ∧ I64 a.cap ∧ I64 a.size
def winV : World → Win → List Value → Prop := fun _ a vs => vs = a.L ∧ I64 a.len ∧ I64 a.part
def pnV (I : Nat → Prop) : World → Pn → List Value → Prop := fun w a vs => ∃ m, vs = a.L m ∧ BytesV I w a.img m ∧ (I64 a.id ∧ I64 a.base ∧ I64 a.size) ∧ a.img.length ≤ 140737488351232
def chV : World → Ch → List Value → Prop := fun _ a vs => vs = a.L ∧ a.Bd
def msgV (I : Nat → Prop) : World → List UInt8 → List Value → Prop := fun w a vs => ∃ m, vs = [m] ∧ BytesV I w a m ∧ a.length ≤ 140737488351232
section
variable {I I' S : Nat → Prop} {w w' : World}
theorem pnV.keep {a : Pn} {vs : List Value} (h : pnV I w a vs) (hg : Chg S w w') (hI : ∀ b, I b → ¬ S b) : pnV I w' a vs := by
 obtain ⟨m, h1, h2, h3⟩ := h
 exact ⟨m, h1, h2.keep hg hI, h3⟩
theorem msgV.keep {a : List UInt8} {vs : List Value} (h : msgV I w a vs) (hg : Chg S w w') (hI : ∀ b, I b → ¬ S b) : msgV I w' a vs := by
 obtain ⟨m, h1, h2, h3⟩ := h
 exact ⟨m, h1, h2.keep hg hI, h3⟩
theorem msgV.mono {a : List UInt8} {vs : List Value} (h : msgV I w a vs) (hI : ∀ b, I b → I' b) : msgV I' w a vs := by
 obtain ⟨m, h1, h2, h3⟩ := h
 exact ⟨m, h1, h2.mono hI, h3⟩
end
end
section
open Go.RowKit
def wInt (n : Int) : List UInt8 := be (u64 n) 8
def wBy (m : List UInt8) : List UInt8 := be m.length 4 ++ m
end
section
open Go.RowKit
def Puts {α : Type} (R : World → α → List Value → Prop) (V : List Value → Value) (l : List α) (wt : α → List UInt8) (N : Nat → Prop) (p bx : Nat) (K : FuncId) : Prop :=
 ∀ (W : World) (a : α) (vs : List Value) (f : List UInt8), a ∈ l → R W a vs → IsWN N W p f 0 → W.cell? ⟨bx, 0, none⟩ = some (.pointer (some ⟨p, 0, none⟩)) → f.length + (wt a).length ≤ 65536 →
  Calls Tryz.prog K #[V vs, .pointer (some ⟨bx, 0, none⟩)] W fun e W' => e = .returned (.tuple #[]) ∧ IsWN N W' p (f ++ wt a) 0 ∧ Chg (Nt N) W W'
theorem flat_snoc {α : Type} {wt : α → List UInt8} {l : List α} {k : Nat} {a : α} (h : l[k]? = some a) : (l.take (k + 1)).flatMap wt = (l.take k).flatMap wt ++ wt a := by
 obtain ⟨hk, rfl⟩ := List.getElem?_eq_some_iff.1 h
 rw [List.take_succ_eq_append_getElem hk, List.flatMap_append]
 simp
theorem flat_take_le {α : Type} (wt : α → List UInt8) (l : List α) (k : Nat) : ((l.take k).flatMap wt).length ≤ (l.flatMap wt).length := by
 have h : l.flatMap wt = (l.take k).flatMap wt ++ (l.drop k).flatMap wt := by rw [← List.flatMap_append, List.take_append_drop]
 rw [h, List.length_append]; omega
theorem wInt_len8 (n : Int) : (wInt n).length = 8 := be_length _ _
theorem IsWN.less {N M : Nat → Prop} {p : Nat} {l : List UInt8} {er : Int} {w : World} (h : IsWN M w p l er) (hN : ∀ k, N k → M k) : IsWN N w p l er := by
 obtain ⟨h1, h2, v, h3, h4, h5⟩ := h
 exact ⟨fun k hk => h1 k (hN k hk), fun hk => h2 (hN _ hk), v, h3, h4, fun g e hk => h5 g e (hN _ hk)⟩
theorem Nt.less {N M : Nat → Prop} {w w' : World} (h : Chg (Nt M) w w') (hN : ∀ k, N k → M k) : Chg (Nt N) w w' := h.mono (fun k hk hn => hk (hN k hn))
def Nb (N : Nat → Prop) (b : Nat) : Nat → Prop := fun k => N k ∨ k = b
theorem IsWN.box {N : Nat → Prop} {p : Nat} {l : List UInt8} {w : World} (h : IsWN N w p l 0) (o : Obj) : IsWN (Nb N w.heap.size) (w.alloc o) p l 0 :=
 h.more ((Chg.refl Non w).alloc o) (fun k hk => hk.imp id (fun e => by subst e; simp))
theorem hTwo {P : Program} {md : Region.Mode} {ops : Array Oper} {Q : Exit → Act → World → Prop} {S : World → Prop} {fuel : Nat} {listed : Array Bool} {a : Act} {w : World} (i j : Nat) {oi oj : Oper} (hr : Region.ready md ops listed = [i, j]) (hi : ops[i]? = some oi) (hj : ops[j]? = some oj) (hwi : Region.wanted oi (yielded ops a.tmps) = true) (hwj : Region.wanted oj (yielded ops a.tmps) = true)
  (h1 : ∀ K : Act → World → Prop, Shut (∀ a w, S w → (S w → wpAnyH P md ops Q S fuel (listed.setIfInBounds i true) a w) → K a w) → Oper.wp P oi a w K Q)
  (h2 : ∀ K : Act → World → Prop, Shut (∀ a w, S w → (S w → wpAnyH P md ops Q S fuel (listed.setIfInBounds j true) a w) → K a w) → Oper.wp P oj a w K Q) : wpAnyH P md ops Q S (fuel + 1) listed a w :=
 wpAnyH_ready hr (by simp) (AllReadyH.cons hi (fun K hK => by rw [if_pos hwi]; exact h1 K hK) (AllReadyH.cons hj (fun K hK => by rw [if_pos hwj]; exact h2 K hK) AllReadyH.nil))
theorem IsWN.cellN {N : Nat → Prop} {p : Nat} {l : List UInt8} {er : Int} {w : World} (h : IsWN N w p l er) (b i : Nat) (v : Value) (hb : N b) : IsWN N (w.setCell ⟨b, i, none⟩ v) p l er := by
 obtain ⟨h1, h2, v0, h3, h4, h5⟩ := h
 refine ⟨fun k hk => by simpa [World.setCell] using h1 k hk, h2, v0, ?_, ?_, h5⟩
 ·exact ((setAt w b i v).block p (Array.getElem?_eq_some_iff.1 h3).1 (fun e => h2 (by have e : p = b := e; rw [e]; exact hb))).trans h3
 ·exact ownsRow_setCell_other h4 (a := ⟨b, i, none⟩) (by intro e; exact h5 b e hb) v
end
section
open Go.RowKit
theorem ret_b {a b : Bool} (h : a = b) : Ending.returned (.bool a) = .returned (.bool b) := by rw [h]
theorem ret_i {k : IntKind} {a b : Int} (h : a = b) : Ending.returned (.int k a) = .returned (.int k b) := by rw [h]
theorem tmod4 (s : Int) : s.tmod 4 = 0 ↔ s % 4 = 0 := by
 rw [← Int.dvd_iff_tmod_eq_zero, Int.dvd_iff_emod_eq_zero]
def regMay (b s : Int) : Bool := decide (0 ≤ b) && decide (b ≤ 4096) && decide (b % 4 = 0) && decide (s % 4 = 0) && decide (16 ≤ s) && decide (s ≤ 512) && decide (b + s ≤ 4096)
theorem regMay_iff {b s : Int} : regMay b s = true ↔ 0 ≤ b ∧ b % 4 = 0 ∧ s % 4 = 0 ∧ 16 ≤ s ∧ s ≤ 512 ∧ b + s ≤ 4096 := by
 simp only [regMay, Bool.and_eq_true, decide_eq_true_eq]
 constructor
 ·rintro ⟨⟨⟨⟨⟨⟨a, b⟩, c⟩, d⟩, e⟩, f⟩, g⟩
  exact ⟨a, c, d, e, f, g⟩
 ·rintro ⟨a, c, d, e, f, g⟩
  exact ⟨⟨⟨⟨⟨⟨a, by omega⟩, c⟩, d⟩, e⟩, f⟩, g⟩
theorem regMay_ok (b s : Int) (w : World) :
  Calls Tryz.prog 358 #[.agg #[.int .i64 b, .int .i64 s]] w fun e w' => e = .returned (.bool (regMay b s)) ∧ Chg Non w w' := by
 have hst := Lh (tmod4 s)
 by_cases h0 : 0 ≤ b
 ·have htm : b.tmod 4 = b % 4 := Int.tmod_eq_emod_of_nonneg h0
  have hr0 : 0 ≤ b % 4 := by omega
  have hr1 : b % 4 < 4 := by omega
  have hwr : IntKind.i64.wrap (b % 4) = b % 4 := Go.IntWalk.i64_in _ (by omega)
  go_enter Tryz.func358, Tryz.ntmps358
  go_wp2
  all_goals
   go_ret
   refine ⟨ret_b ?_, (Chg.refl _ _).alloc _⟩
   have hst := hst.out
   rw [Bool.eq_iff_iff, regMay_iff]
   simp only [decide_eq_true_eq, Bool.false_eq_true, false_iff]
   omega
 ·have h0' : decide (0 ≤ b) = false := by simpa using h0
  go_enter Tryz.func358, Tryz.ntmps358
  go_wp2
  go_ret
  refine ⟨ret_b ?_, (Chg.refl _ _).alloc _⟩
  rw [Bool.eq_iff_iff, regMay_iff]
  simp only [Bool.false_eq_true, false_iff]
  omega
def regEnd (b s : Int) : Int := if regMay b s = true then b + s else 0
theorem regEnd_ok (b s : Int) (w : World) :
  Calls Tryz.prog 380 #[.agg #[.int .i64 b, .int .i64 s]] w fun e w' => e = .returned (.int .i64 (regEnd b s)) ∧ Chg Non w w' := by
 have HM := Lh (fun W => regMay_ok b s W)
 have HE : Hid (regEnd b s = if regMay b s = true then b + s else 0) := Lh rfl
 obtain ⟨m, hm⟩ : ∃ m, regMay b s = m := ⟨_, rfl⟩
 rw [hm] at HM HE
 cases m with
 | false =>
  clear hm
  go_enter Tryz.func380, Tryz.ntmps380
  go_wp2_with fail
  refine (HM.out _).mono ?_
  rintro e u ⟨rfl, hg⟩
  go_wp2_with fail
  go_ret
  exact ⟨by rw [HE.out]; rfl, ((Chg.refl Non w).alloc _).then_non hg⟩
 | true =>
  have hb := regMay_iff.1 hm
  have h1 : 0 ≤ b := hb.1
  have h2 : 16 ≤ s := hb.2.2.2.1
  have h3 : b + s ≤ 4096 := hb.2.2.2.2.2
  clear hm hb
  go_enter Tryz.func380, Tryz.ntmps380
  go_wp2_with fail
  refine (HM.out _).mono ?_
  rintro e u ⟨rfl, hg⟩
  have hb := hg.block _ (by simp) (fun e => e) |>.trans (heap_alloc_new w (.cells #[.int .i64 b, .int .i64 s] 111))
  have k0 : u.cell? ⟨w.heap.size, 0, none⟩ = some (.int .i64 b) := by rw [cell_of_row _ _ _ _ _ _ hb]; rfl
  have k1 : u.cell? ⟨w.heap.size, 1, none⟩ = some (.int .i64 s) := by rw [cell_of_row _ _ _ _ _ _ hb]; rfl
  have HB := Lh hb
  clear hb
  go_wp2_with fail
  go_ret
  exact ⟨by rw [HE.out]; rfl, ((Chg.refl Non w).alloc _).then_non hg⟩
def chPart (n : Int) : Bool := decide (1 ≤ n) && decide (n ≤ 6)
theorem chPart_ok (n : Int) (w : World) : Calls Tryz.prog 381 #[.int .i64 n] w fun e w' => e = .returned (.bool (chPart n)) ∧ w = w' := by
 go_enter Tryz.func381, Tryz.ntmps381
 go_wp2
 all_goals
  go_ret
  refine ⟨ret_b ?_, rfl⟩
  rw [Bool.eq_iff_iff]
  simp only [chPart, Bool.and_eq_true, decide_eq_true_eq, Bool.false_eq_true, false_iff]
  omega
def chMay (id src dst cap size : Int) : Bool := decide (1 ≤ id) && decide (id ≤ 8) && chPart src && chPart dst && decide (src ≠ dst) && decide (1 ≤ cap) && decide (cap ≤ 4) && decide (1 ≤ size) && decide (size ≤ 16)
theorem chMay_ok (id src dst cap size : Int) (w : World) :
  Calls Tryz.prog 374 #[.agg #[.int .i64 id, .int .i64 src, .int .i64 dst, .int .i64 cap, .int .i64 size]] w fun e w' => e = .returned (.bool (chMay id src dst cap size)) ∧ Chg Non w w' := by
 have H1 := Lh (fun W => chPart_ok src W)
 have H2 := Lh (fun W => chPart_ok dst W)
 obtain ⟨m, hm⟩ : ∃ m, chMay id src dst cap size = m := ⟨_, rfl⟩
 rw [hm]
 unfold chMay at hm
 obtain ⟨b1, h1⟩ : ∃ b, chPart src = b := ⟨_, rfl⟩
 obtain ⟨b2, h2⟩ : ∃ b, chPart dst = b := ⟨_, rfl⟩
 rw [h1, h2] at hm
 rw [h1] at H1
 rw [h2] at H2
 have HM := Lh hm
 clear h1 h2 hm
 cases b1 <;> cases b2
 all_goals
  go_enter Tryz.func374, Tryz.ntmps374
  go_wp2_with (first
    | ((with_reducible refine (H1.out _).mono ?_); rintro e u ⟨rfl, rfl⟩)
    | ((with_reducible refine (H2.out _).mono ?_); rintro e u ⟨rfl, rfl⟩))
  all_goals
   go_ret
   refine ⟨ret_b ?_, (Chg.refl _ _).alloc _⟩
   rw [← HM.out, Bool.eq_iff_iff]
   simp only [Bool.and_eq_true, decide_eq_true_eq, Bool.false_eq_true, false_iff, and_false, false_and, not_false_eq_true, and_true, true_and, bne_iff_ne, ne_eq]
   try omega
end
end Go.Proofs.YtajkajgifigmbaaGreat
