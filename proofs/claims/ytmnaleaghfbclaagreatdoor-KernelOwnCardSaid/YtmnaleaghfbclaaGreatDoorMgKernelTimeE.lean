/- KernelTime, part 5 of 28: contracts of the functions that it reaches, and the laws that they need, merged and shortened (from my texts XVmG, XCfg, XVmA, XVmB, XVmC, XVmD, XVmE, XVmF). -/
import Derived.Test.YtmnaleaghfbclaaGreatDoorMgKernelTimeA
import Derived.Test.YtmnaleaghfbclaaGreatDoorMgKernelTimeD
import Derived.Maps.AppendAt
import Derived.Lib.AppendZerosOnto
import Derived.Laws.Cover3
import Derived.Deep.RegionHeld3
import Derived.Laws.BitsAllLaws
namespace Go.Proofs.YtmnaleaghfbclaaGreatDoor
set_option linter.unusedVariables false
set_option linter.unusedSimpArgs false
set_option maxHeartbeats 8000000
section
open Go.RowKit
def partL (p : Pt) (m : Value) : List Value := .int .i64 p.id :: .int .i64 p.size :: .bool p.keep :: ((p.r.map fun n : Nat => Value.int .u32 n) ++ [.int .u32 p.pc, .int .u8 p.st, m])
def partC (p : Pt) (m : Value) : Array Value := (partL p m).toArray
theorem partC_size {p : Pt} (h : p.r.length = 8) (m : Value) : (partC p m).size = 14 := by simp [partC, partL, h]
theorem partC_reg {p : Pt} (h : p.r.length = 8) (m : Value) (a : Nat) (ha : a < 8) : (partC p m)[3 + a]? = some (.int .u32 (p.g a : Nat)) := by
 simp only [partC, partL, List.getElem?_toArray]
 rw [show 3 + a = a + 1 + 1 + 1 by omega, List.getElem?_cons_succ, List.getElem?_cons_succ, List.getElem?_cons_succ, List.getElem?_append_left (by simp [h]; omega), List.getElem?_map, List.getElem?_eq_getElem (by omega)]
 simp only [Option.map_some, Pt.g]
 rw [List.getD_eq_getElem?_getD, List.getElem?_eq_getElem (by omega)]
 rfl
theorem partC_end {p : Pt} (h : p.r.length = 8) (m : Value) (j : Nat) (hj : j < 3) : (partC p m)[11 + j]? = [Value.int .u32 (p.pc : Nat), .int .u8 (p.st : Nat), m][j]? := by
 simp only [partC, partL, List.getElem?_toArray]
 rw [show 11 + j = (8 + j) + 1 + 1 + 1 by omega, List.getElem?_cons_succ, List.getElem?_cons_succ, List.getElem?_cons_succ, List.getElem?_append_right (by simp [h])]
 congr 1
 simp [h]
theorem part_setR {p : Pt} (h : p.r.length = 8) (m : Value) (a v : Nat) (ha : a < 8) : (partC p m).setIfInBounds (3 + a) (.int .u32 (v : Nat)) = partC (p.set a v) m := by
 simp only [partC, partL, List.setIfInBounds_toArray, Pt.set]
 congr 1
 rw [show 3 + a = a + 1 + 1 + 1 by omega, List.set_cons_succ, List.set_cons_succ, List.set_cons_succ, List.set_append_left _ _ (by simp [h]; omega), List.map_set]
theorem part_set11 {p : Pt} (h : p.r.length = 8) (m : Value) (v : Nat) : (partC p m).setIfInBounds 11 (.int .u32 (v : Nat)) = partC { p with pc := v } m := by
 simp only [partC, partL, List.setIfInBounds_toArray]
 congr 1
 rw [List.set_cons_succ, List.set_cons_succ, List.set_cons_succ, List.set_append_right _ _ (by simp [h])]
 simp [h]
theorem part_set12 {p : Pt} (h : p.r.length = 8) (m : Value) (v : Nat) : (partC p m).setIfInBounds 12 (.int .u8 (v : Nat)) = partC { p with st := v } m := by
 simp only [partC, partL, List.setIfInBounds_toArray]
 congr 1
 rw [List.set_cons_succ, List.set_cons_succ, List.set_cons_succ, List.set_append_right _ _ (by simp [h])]
 simp [h]
theorem part_set13 {p : Pt} (h : p.r.length = 8) (m m' : Value) : (partC p m).setIfInBounds 13 m' = partC p m' := by
 simp only [partC, partL, List.setIfInBounds_toArray]
 congr 1
 rw [List.set_cons_succ, List.set_cons_succ, List.set_cons_succ, List.set_append_right _ _ (by simp [h])]
 simp [h]
def PartAt (W : World) (b : Nat) (p : Pt) (m : Value) : Prop := W.heap[b]? = some (.cells (partC p m) 69 (0, 0))
structure PartB (W : World) (b : Nat) (p : Pt) (m : Value) : Prop where
 out : PartAt W b p m
 len : p.r.length = 8
theorem PartB.lt {W : World} {b : Nat} {p : Pt} {m : Value} (h : PartB W b p m) : b < W.heap.size := (Array.getElem?_eq_some_iff.1 h.out).1
theorem PartB.keep {S : Nat → Prop} {W W' : World} {b : Nat} {p : Pt} {m : Value} (h : PartB W b p m) (hg : Chg S W W') (hn : ¬ S b) : PartB W' b p m := ⟨blockS h.out hg hn, h.len⟩
theorem PartB.non {W W' : World} {b : Nat} {p : Pt} {m : Value} (h : PartB W b p m) (hg : Chg Non W W') : PartB W' b p m := h.keep hg (fun e => e)
theorem PartB.frozen {W : World} {b : Nat} {p : Pt} {m : Value} (h : PartB W b p m) : ∀ i, W.frozen? ⟨b, i, none⟩ = false := by
 intro i
 simp only [World.frozen?]
 rw [show W.heap[b]? = _ from h.out]
 simp
theorem PartB.cells {W : World} {b : Nat} {p : Pt} {m : Value} (h : PartB W b p m) :
  W.cell? ⟨b, 0, none⟩ = some (.int .i64 p.id) ∧ W.cell? ⟨b, 1, none⟩ = some (.int .i64 p.size) ∧ W.cell? ⟨b, 2, none⟩ = some (.bool p.keep) ∧ W.cell? ⟨b, 11, none⟩ = some (.int .u32 (p.pc : Nat)) ∧ W.cell? ⟨b, 12, none⟩ = some (.int .u8 (p.st : Nat)) ∧ W.cell? ⟨b, 13, none⟩ = some m :=
 ⟨row_cell h.out rfl, row_cell h.out rfl, row_cell h.out rfl, row_cell h.out (partC_end h.len m 0 (by omega)), row_cell h.out (partC_end h.len m 1 (by omega)), row_cell h.out (partC_end h.len m 2 (by omega))⟩
theorem PartB.reg {W : World} {b : Nat} {p : Pt} {m : Value} (h : PartB W b p m) (a : Nat) (ha : a < 8) : W.cell? ⟨b, 3 + a, none⟩ = some (.int .u32 (p.g a : Nat)) := row_cell h.out (partC_reg h.len m a ha)
theorem PartB.setReg {W : World} {b : Nat} {p : Pt} {m : Value} (h : PartB W b p m) (a v : Nat) (ha : a < 8) : PartB (W.setCell ⟨b, 3 + a, none⟩ (.int .u32 (v : Nat))) b (p.set a v) m := by
 refine ⟨?_, by simp [Pt.set, h.len]⟩
 have := heap_setCellI (.int .u32 (v : Nat)) (i := 3 + a) h.out
 rw [part_setR h.len m a v ha] at this
 exact this
theorem PartB.setPc {W : World} {b : Nat} {p : Pt} {m : Value} (h : PartB W b p m) (v : Nat) : PartB (W.setCell ⟨b, 11, none⟩ (.int .u32 (v : Nat))) b { p with pc := v } m := by
 refine ⟨?_, h.len⟩
 have := heap_setCellI (.int .u32 (v : Nat)) (i := 11) h.out
 rw [part_set11 h.len m v] at this
 exact this
theorem PartB.setSt {W : World} {b : Nat} {p : Pt} {m : Value} (h : PartB W b p m) (v : Nat) : PartB (W.setCell ⟨b, 12, none⟩ (.int .u8 (v : Nat))) b { p with st := v } m := by
 refine ⟨?_, h.len⟩
 have := heap_setCellI (.int .u8 (v : Nat)) (i := 12) h.out
 rw [part_set12 h.len m v] at this
 exact this
theorem PartB.setMem {W : World} {b : Nat} {p : Pt} {m : Value} (h : PartB W b p m) (v : Value) : PartB (W.setCell ⟨b, 13, none⟩ v) b p v := by
 refine ⟨?_, h.len⟩
 have := heap_setCellI v (i := 13) h.out
 rw [part_set13 h.len m v] at this
 exact this
theorem info_part : (Tryz.prog.info? 69).map (·.size) = some 14 := by kernel_rfl
theorem setAt (w : World) (b i : Nat) (v : Value) : Chg (fun k => k = b) w (w.setCell ⟨b, i, none⟩ v) := set_at w b i v
end
section
open Go.RowKit
def I64 (n : Int) : Prop := -9223372036854775808 ≤ n ∧ n ≤ 9223372036854775807
structure Win where
 len : Int
 part : Int
structure Pn where
 id : Int
 base : Int
 size : Int
 keep : Bool
 img : List UInt8
structure Ch where
 id : Int
 src : Int
 dst : Int
 cap : Int
 size : Int
structure Cfg where
 ws : List Win
 ps : List Pn
 cs : List Ch
structure Qu where
 ch : Ch
 msgs : List (List UInt8)
structure Sta where
 frames : Int
 parts : List Pt
 queues : List Qu
def Win.L (a : Win) : List Value := [.int .i64 a.len, .int .i64 a.part]
def Pn.L (a : Pn) (m : Value) : List Value := [.int .i64 a.id, .int .i64 a.base, .int .i64 a.size, .bool a.keep, m]
def Ch.L (a : Ch) : List Value := [.int .i64 a.id, .int .i64 a.src, .int .i64 a.dst, .int .i64 a.cap, .int .i64 a.size]
def Qu.L (a : Qu) (m : Value) : List Value := [.int .i64 a.ch.id, .int .i64 a.ch.src, .int .i64 a.ch.dst, .int .i64 a.ch.cap, .int .i64 a.ch.size, m]
def Ch.Bd (a : Ch) : Prop := I64 a.id ∧ I64 a.src ∧ I64 a.dst ∧ I64 a.cap ∧ I64 a.size
def winV : World → Win → List Value → Prop := fun _ a vs => vs = a.L ∧ I64 a.len ∧ I64 a.part
def pnV (I : Nat → Prop) : World → Pn → List Value → Prop := fun w a vs => ∃ m, vs = a.L m ∧ BytesV I w a.img m ∧ (I64 a.id ∧ I64 a.base ∧ I64 a.size) ∧ a.img.length ≤ 140737488351232
def chV : World → Ch → List Value → Prop := fun _ a vs => vs = a.L ∧ a.Bd
def msgV (I : Nat → Prop) : World → List UInt8 → List Value → Prop := fun w a vs => ∃ m, vs = [m] ∧ BytesV I w a m ∧ a.length ≤ 140737488351232
def quV (I : Nat → Prop) : World → Qu → List Value → Prop := fun w a vs => ∃ m, vs = a.L m ∧ SlV (msgV I) I 1 w a.msgs m ∧ a.ch.Bd ∧ a.msgs.length ≤ 140737488351232
def ptV (I : Nat → Prop) : World → Pt → List Value → Prop := fun w a vs => ∃ m, vs = partL a m ∧ BytesV I w a.mem m ∧ a.Bd ∧ a.mem.length ≤ 140737488351232
structure StaV (I : Nat → Prop) (w : World) (s : Sta) (b d : Value) : Prop where
 ps : SlV (ptV I) I 14 w s.parts b
 qs : SlV (quV I) I 6 w s.queues d
section
variable {I I' S : Nat → Prop} {w w' : World}
theorem pnV.keep {a : Pn} {vs : List Value} (h : pnV I w a vs) (hg : Chg S w w') (hI : ∀ b, I b → ¬ S b) : pnV I w' a vs := by
 obtain ⟨m, h1, h2, h3⟩ := h
 exact ⟨m, h1, h2.keep hg hI, h3⟩
theorem msgV.keep {a : List UInt8} {vs : List Value} (h : msgV I w a vs) (hg : Chg S w w') (hI : ∀ b, I b → ¬ S b) : msgV I w' a vs := by
 obtain ⟨m, h1, h2, h3⟩ := h
 exact ⟨m, h1, h2.keep hg hI, h3⟩
theorem quV.keep {a : Qu} {vs : List Value} (h : quV I w a vs) (hg : Chg S w w') (hI : ∀ b, I b → ¬ S b) : quV I w' a vs := by
 obtain ⟨m, h1, h2, h3⟩ := h
 exact ⟨m, h1, h2.keep hg hI (fun a vs _ h => msgV.keep h hg hI), h3⟩
theorem ptV.keep {a : Pt} {vs : List Value} (h : ptV I w a vs) (hg : Chg S w w') (hI : ∀ b, I b → ¬ S b) : ptV I w' a vs := by
 obtain ⟨m, h1, h2, h3⟩ := h
 exact ⟨m, h1, h2.keep hg hI, h3⟩
theorem StaV.keep {s : Sta} {b d : Value} (h : StaV I w s b d) (hg : Chg S w w') (hI : ∀ b, I b → ¬ S b) : StaV I w' s b d :=
 ⟨h.ps.keep hg hI (fun _ _ _ h => ptV.keep h hg hI), h.qs.keep hg hI (fun _ _ _ h => quV.keep h hg hI)⟩
theorem StaV.non {s : Sta} {b d : Value} (h : StaV I w s b d) (hg : Chg Non w w') : StaV I w' s b d := h.keep hg (fun _ _ e => e)
theorem pnV.mono {a : Pn} {vs : List Value} (h : pnV I w a vs) (hI : ∀ b, I b → I' b) : pnV I' w a vs := by
 obtain ⟨m, h1, h2, h3⟩ := h
 exact ⟨m, h1, h2.mono hI, h3⟩
theorem msgV.mono {a : List UInt8} {vs : List Value} (h : msgV I w a vs) (hI : ∀ b, I b → I' b) : msgV I' w a vs := by
 obtain ⟨m, h1, h2, h3⟩ := h
 exact ⟨m, h1, h2.mono hI, h3⟩
theorem quV.mono {a : Qu} {vs : List Value} (h : quV I w a vs) (hI : ∀ b, I b → I' b) : quV I' w a vs := by
 obtain ⟨m, h1, h2, h3⟩ := h
 exact ⟨m, h1, h2.mono hI (fun a vs _ h => msgV.mono h hI), h3⟩
theorem ptV.mono {a : Pt} {vs : List Value} (h : ptV I w a vs) (hI : ∀ b, I b → I' b) : ptV I' w a vs := by
 obtain ⟨m, h1, h2, h3⟩ := h
 exact ⟨m, h1, h2.mono hI, h3⟩
end
end
section
open Go.RowKit
structure HoleV (p : Prop) : Prop where
 out : p
theorem Vm_stop {p : Prop} (h : HoleV p) : p := h.out
set_option maxRecDepth 100000 in
theorem run_appB (w : World) (ty : TypeId) (B : Nat) (v : Value) (l : List UInt8) (hown : OwnR B w v l) (A : Option Addr) (c : Nat) (y : List UInt8) (hr : Rd w A y) (hl : l.length ≤ 1000000) (hy : y.length ≤ 140737488355328) (hB : B ≤ w.heap.size) (hly : l.length + y.length ≤ 140737488355328) :
  ∃ v' w', (Builtin.append_ #[50, 50] ty #[v, .slice A y.length c]).run Tryz.prog w = .ok v' w' ∧ OwnR B w' v' (l ++ y) ∧ w.grownBy w' v.ownBlock ∧ (v'.ownBlock = v.ownBlock ∨ v'.ownBlock = some w.heap.size) := by
 obtain ⟨i0, hi0, hz0, hs0, hb0⟩ := info_parts info_u8
 cases A with
 | none =>
  have hy0 : y = [] := by
   cases y with
   | nil => rfl
   | cons x r => obtain ⟨b, o, e, _⟩ := hr 0 x rfl; cases e
  subst hy0
  refine ⟨v, w, ?_, by simpa using hown, World.grownBy.refl w _, .inl rfl⟩
  rcases hown.2 with ⟨rfl, _⟩ | ⟨g, cap, cur, rfl, _, _, hnc, _⟩
  ·simp [Builtin.append_, run_underlying Tryz.underlying50, sizeOf, typeInfo, hi0, Builtin.lenOf, Builtin.firstCells]
  ·simp [Builtin.append_, run_underlying Tryz.underlying50, sizeOf, typeInfo, hi0, Builtin.lenOf, Builtin.firstCells, hnc, storeCells]
 | some ad =>
  obtain ⟨v', w', h1, h2, h3, _, h5⟩ := run_append_own_at (P := Tryz.prog) w B 50 ty 5 i0 _ 1 1 Tryz.underlying50 hi0 hz0 hs0 hb0 rfl (by omega) v l.length (l.map bv) hown ad y.length c (y.map bv) (by simp) (by
    intro j u hu
    rw [List.getElem?_map] at hu
    obtain ⟨z, hz, rfl⟩ := Option.map_eq_some_iff.1 hu
    obtain ⟨b, o, e, hc⟩ := hr j z hz
    injection e with e
    subst e
    rw [plain_add]
    exact hc) (by
    intro u hu
    obtain ⟨z, _, rfl⟩ := List.mem_map.1 hu
    rfl) (by unfold maxLen; omega) (by omega) hB
  exact ⟨v', w', h1, by unfold OwnR; rw [List.length_append, List.map_append]; exact h2, h3, h5⟩
theorem wpList_appB {ops : Array Oper} {rest : List Oper} {o : Oper} {a : Act} {w : World} {Q : Exit → Act → World → Prop} (hgd : o.guard = none) (s x : Operand)
  (ho : o.op = .call { callee := .builtin .append, args := #[s, x], argTypes := #[50, 50] })
  (B : Nat) (v : Value) (l : List UInt8) (hs : a.eval s = v) (hown : OwnR B w v l) (A : Option Addr) (c : Nat) (y : List UInt8) (hx : a.eval x = .slice A y.length c) (hr : Rd w A y)
  (hl : l.length ≤ 1000000) (hy : y.length ≤ 140737488355328) (hB : B ≤ w.heap.size) (hly : l.length + y.length ≤ 140737488355328)
  (h : ∀ v2 w2, OwnR B w2 v2 (l ++ y) → Chg (fun k => v.ownBlock = some k) w w2 → (v2.ownBlock = v.ownBlock ∨ v2.ownBlock = some w.heap.size) → wpList Tryz.prog ops Q rest (a.put o.dst v2) w2) : wpList Tryz.prog ops Q (o :: rest) a w := by
 obtain ⟨v', w', h1, h2, h3, h4⟩ := run_appB w o.type B v l hown A c y hr hl hy hB hly
 refine wpList_plain hgd fun K hK => ?_
 unfold Oper.wp execOp
 simp only [ho, resolve, invoke, builtin, Sem.run_bind, Sem.run_pure, Result.andThen_ok, List.map_toArray, List.map_cons, List.map_nil, hs, hx, h1]
 exact hK _ _ (h v' w' h2 ((Chg.refl _ w).grown h3 fun g' hg' => .inl hg') h4)
theorem own_emptyR (w : World) : OwnR w.heap.size (w.alloc (.cells #[] 5)) (.slice (some ⟨w.heap.size, 0, none⟩) 0 0) [] :=
 ⟨rfl, .inr ⟨w.heap.size, 0, #[], rfl, Nat.le_refl _, heap_alloc_new _ _, Nat.le_refl _, by simp, rfl, rfl⟩⟩
theorem OwnR.own {B : Nat} {w : World} {v : Value} {l : List UInt8} (h : OwnR B w v l) : ∃ A c, v = .slice A l.length c ∧ l.length ≤ c ∧ c ≤ maxLen ∧ Own B w A l := by
 rcases h.2 with ⟨rfl, h0⟩ | ⟨g, cap, cur, rfl, hB, hg, h1, h2, h3, h4⟩
 ·have : l = [] := List.eq_nil_of_length_eq_zero h0
  subst this
  exact ⟨none, 0, rfl, Nat.le_refl _, by simp, Own.nil _ _ _⟩
 ·refine ⟨_, cap, rfl, h1, h2, fun i x hx => ⟨g, 0, rfl, hB, ?_, ?_⟩⟩
  ·have := h.cells (g := g) rfl i (bv x) (by rw [List.getElem?_map, hx]; rfl)
   rw [plain_add] at this
   exact this
  ·simp only [World.frozen?]
   rw [hg]
   simp
theorem eql_nil (B : Option Addr) (n c : Nat) (W : World) : (binOp .eql 50 (.slice B n c) (.slice none 0 0)).run Tryz.prog W = .ok (.bool B.isNone) W := by
 simp only [binOp]
 simp [run_equal_slice_nil W _ _ B n c Tryz.underlying50]
set_option maxRecDepth 100000 in
theorem SlClone_ok (A : Option Addr) (l : List UInt8) (c : Nat) (w : World) (h : Rd w A l) (hl : l.length ≤ 140737488355328) :
  Calls Tryz.prog 82 #[.slice A l.length c] w (RetB w l) := by
 have HR := Lib.hid h
 have hnil : ∀ (B : Option Addr) (n c : Nat) (W : World), (binOp .eql 50 (.slice B n c) (.slice none 0 0)).run Tryz.prog W = .ok (.bool B.isNone) W := fun B n c W => eql_nil B n c W
 cases A with
 | none =>
  have hl0 : l = [] := by
   cases l with
   | nil => rfl
   | cons x r => obtain ⟨b, o, e, _⟩ := h 0 x rfl; cases e
  subst hl0
  clear h
  go_enter Tryz.func82, Tryz.ntmps82
  go_wp2_with fail
  go_ret
  exact ⟨none, 0, rfl, Nat.le_refl _, by simp, Own.nil _ _ _, Chg.refl _ _⟩
 | some ad =>
  clear h
  go_enter Tryz.func82, Tryz.ntmps82
  go_wp2_with (refine sel (some 7) (.call _) ?_; refine Vm_stop ?_)
  refine HoleV.mk ?_
  refine wpList_appB rfl (.tmp 5) (.tmp 6) rfl w.heap.size (.slice (some ⟨w.heap.size, 0, none⟩) 0 0) [] rfl (own_emptyR w) (some ad) c l rfl (HR.out.non ((Chg.refl Non _).alloc _)) (by simp) hl (by simp) (by simpa using hl) ?_
  intro v2 w2 ho hg hat
  obtain ⟨A2, c2, rfl, h1, h2, h3⟩ := OwnR.own ho
  have H3 := Lib.hid h3
  have HG := Lib.hid (((Chg.refl Non w).alloc _).then_new hg (fun x hx => (own_emptyR w).ge hx))
  clear h3 hg hat ho
  go_wp2_with fail
  go_ret
  exact ⟨A2, c2, rfl, h1, h2, H3.out, HG.out⟩
theorem info_u8z : ∃ i0, Tryz.prog.info? 5 = some i0 ∧ i0.zero = some (.int .u8 0) ∧ i0.size = 1 ∧ i0.bytes = 1 := info_parts info_u8
theorem wpList_appZ {ops : Array Oper} {rest : List Oper} {o : Oper} {a : Act} {w : World} {Q : Exit → Act → World → Prop} (hgd : o.guard = none) (s x : Operand)
  (ho : o.op = .call { callee := .builtin .append, args := #[s, x], argTypes := #[50, 3] })
  (n : Nat) (hs : a.eval s = .slice none 0 0) (hx : a.eval x = .int .i64 n) (h0 : 0 < n) (hn : n ≤ 1000000)
  (h : ∀ (G : Nat) (W : World) (cur : Array Value), n ≤ G → G ≤ maxLen → cur.size = G → Chg Non w W → W.heap[w.heap.size]? = some (.cells cur 5 (0, 0)) → wpList Tryz.prog ops Q rest (a.put o.dst (.slice (some ⟨w.heap.size, 0, none⟩) n G)) W) : wpList Tryz.prog ops Q (o :: rest) a w := by
 obtain ⟨i0, hi0, hz0, hs0, hb0⟩ := info_u8z
 have hr := Lib.run_append_grow_zeros (P := Tryz.prog) w 50 3 o.type 5 i0 (.int .u8 0) .i64 .i64 Tryz.underlying50 Tryz.underlying3 hi0 hz0 none 0 0 [] (run_firstCells_none w.drew i0.size 0 0 0) n h0 (by omega) (by omega) (by omega) (by rw [hb0]; omega) (by rw [hb0]; unfold Builtin.nextslicecap; split <;> omega)
 rw [Nat.zero_add] at hr
 refine wpList_plain hgd fun K hK => ?_
 unfold Oper.wp execOp
 simp only [ho, resolve, invoke, builtin, Sem.run_bind, Sem.run_pure, Result.andThen_ok, List.map_toArray, List.map_cons, List.map_nil, hs, hx, hr]
 refine hK _ _ (h _ _ _ ?_ ?_ ?_ (((Chg.refl Non w).drew).alloc _) (heap_alloc_new _ _))
 ·exact grownCap_ge w _ _ _
 ·exact grownCap_le_maxLen w n 0 5 (by unfold maxLen; omega)
 ·have hg := grownCap_ge w n 0 5
  simp [Builtin.zeroCells, Value.cells]
  omega
set_option maxRecDepth 100000 in
theorem SlGrow_nil (n : Nat) (w : World) (hn : n ≤ 1000000) :
  Calls Tryz.prog 90 #[.slice none 0 0, .int .i64 n] w fun e w' => ∃ v, e = .returned v ∧ OwnR w.heap.size w' v [] ∧ Chg Non w w' := by
 rcases Nat.eq_zero_or_pos n with rfl | h0
 ·go_enter Tryz.func90, Tryz.ntmps90
  go_wp2_with fail
  go_ret
  exact ⟨_, rfl, OwnR.nil _ _, Chg.refl _ _⟩
 ·have hb1 : decide ((n : Int) < 0) = false := by simp
  have hb2 : decide ((n : Int) > 0) = true := by simp; omega
  go_enter Tryz.func90, Tryz.ntmps90
  go_wp2_with (refine sel (some 22) (.call _) ?_; refine Vm_stop ?_)
  refine HoleV.mk ?_
  refine wpList_appZ rfl (.tmp 20) (.tmp 21) rfl n rfl rfl h0 hn ?_
  intro G W cur hG hGm hcur hg hb
  have HG := Lib.hid hg
  have HB := Lib.hid hb
  clear hg hb
  go_wp2_with fail
  go_ret
  exact ⟨_, rfl, ⟨rfl, .inr ⟨w.heap.size, G, cur, rfl, Nat.le_refl _, HB.out, Nat.zero_le _, hGm, by omega, rfl⟩⟩, HG.out⟩
end
section
open Go.RowKit
abbrev PtV := Option Addr × List UInt8 × Nat
def PartsV (w : World) (b : Nat) (ps : List PtV) : Prop :=
 ∀ (i : Nat) p, ps[i]? = some p → w.cell? ⟨b, i, none⟩ = some (.slice p.1 p.2.1.length p.2.2) ∧ Rd w p.1 p.2.1
def catV (ps : List PtV) : List UInt8 := (ps.map (·.2.1)).flatten
theorem catV_snoc (ps : List PtV) (p : PtV) : catV (ps ++ [p]) = catV ps ++ p.2.1 := by simp [catV]
theorem catV_take (ps : List PtV) (k : Nat) : (catV (ps.take k)).length ≤ (catV ps).length := by
 conv => rhs; rw [← List.take_append_drop k ps]
 simp only [catV, List.map_append, List.flatten_append, List.length_append]
 omega
set_option maxRecDepth 100000 in
theorem SlConcat_ok (b : Nat) (ps : List PtV) (c : Nat) (w : World) (hP : PartsV w b ps) (hl : (catV ps).length ≤ 100000) (hn : ps.length ≤ 1000) :
  Calls Tryz.prog 50 #[.slice (some ⟨b, 0, none⟩) ps.length c] w (RetB w (catV ps)) := by
 have HP := Lib.hid hP
 clear hP
 go_enter Tryz.func50, Tryz.ntmps50
 go_wp2_with fail
 go_loopw [3, 11] (fun s i wr => ∃ k : Nat, k ≤ ps.length ∧ i = .int .i64 k ∧ s = .int .i64 ((catV (ps.take k)).length : Nat) ∧ w = wr) (fun _ i _ => ps.length - (intOf i).toNat)
 case atStart => exact ⟨0, Nat.zero_le _, rfl, rfl, rfl⟩
 case round =>
  obtain ⟨k, hk, rfl, rfl, rfl⟩ := hrel
  by_cases hlt : k < ps.length
  ·have hlti : decide ((k : Int) < (ps.length : Int)) = true := by simp; omega
   obtain ⟨⟨A, l, cl⟩, hpk⟩ : ∃ p, ps[k]? = some p := ⟨_, List.getElem?_eq_getElem hlt⟩
   obtain ⟨hc, hr⟩ := HP.out k _ hpk
   simp only at hc hr
   have ht : (catV (ps.take (k + 1))).length = (catV (ps.take k)).length + l.length := by
    rw [List.take_add_one, hpk, Option.toList_some, catV_snoc, List.length_append]
   have HT := Lib.hid ht
   have hle := catV_take ps (k + 1)
   rw [ht] at hle
   clear hr hpk ht
   obtain ⟨m, hm⟩ : ∃ m, (catV (ps.take k)).length = m := ⟨_, rfl⟩
   rw [hm] at hle HT ⊢
   have hneg : decide ((m : Int) + (l.length : Int) < 0) = false := by simp; omega
   go_wp2_with fail
   go_roundw
   case rel => exact ⟨k + 1, by omega, by go_num, by rw [HT.out]; go_num, trivial⟩
   case measure => simp [intOf]; omega
  ·have hkl : k = ps.length := by omega
   have hlti : decide ((k : Int) < (ps.length : Int)) = false := by simp; omega
   have ht : ps.take k = ps := List.take_of_length_le (by omega)
   rw [ht]
   clear ht
   go_wp2_with fail
   refine (SlGrow_nil (catV ps).length w (by omega)).mono ?_
   rintro e w1 ⟨v, rfl, ho, hg⟩
   have HO := Lib.hid ho
   have HG := Lib.hid hg
   clear ho hg
   go_wp2_with fail
   go_loopw [6, 27] (fun u i wr => ∃ k : Nat, k ≤ ps.length ∧ i = .int .i64 k ∧ Chg Non w wr ∧ OwnR w.heap.size wr u (catV (ps.take k))) (fun _ i _ => ps.length - (intOf i).toNat)
   case atStart => exact ⟨0, Nat.zero_le _, rfl, HG.out, HO.out⟩
   case round =>
    rename World => wi
    obtain ⟨j, hj, rfl, hgj, hoj⟩ := hrel
    have HGj := Lib.hid hgj
    have HOj := Lib.hid hoj
    clear hgj hoj
    by_cases hlt : j < ps.length
    ·have hlti : decide ((j : Int) < (ps.length : Int)) = true := by simp; omega
     obtain ⟨⟨A, l, cl⟩, hpk⟩ : ∃ p, ps[j]? = some p := ⟨_, List.getElem?_eq_getElem hlt⟩
     obtain ⟨hc, hr⟩ := HP.out j _ hpk
     simp only at hc hr
     have hci : wi.cell? ⟨b, j, none⟩ = some (.slice A l.length cl) := HGj.out.cell_some hc (fun e => e)
     have HRi := Lib.hid (hr.non HGj.out)
     have ht : catV (ps.take (j + 1)) = catV (ps.take j) ++ l := by rw [List.take_add_one, hpk, Option.toList_some, catV_snoc]
     have HT := Lib.hid ht
     have hle := catV_take ps (j + 1)
     rw [ht, List.length_append] at hle
     clear hr hpk ht hc
     go_wp2_with (refine sel (some 33) (.call _) ?_; refine Vm_stop ?_)
     refine HoleV.mk ?_
     refine wpList_appB rfl (.tmp 31) (.tmp 32) rfl w.heap.size u6 (catV (ps.take j)) rfl HOj.out A cl l rfl HRi.out (by omega) (by omega) HGj.out.size (by omega) ?_
     intro v2 w2 ho2 hg2 hat
     have HO2 := Lib.hid ho2
     have HG2 : Hid (Chg Non w w2) := Lib.hid (HGj.out.then_new hg2 (fun x hx => HOj.out.ge hx))
     clear ho2 hg2 hat
     go_wp2_with fail
     go_roundw
     case rel => exact ⟨j + 1, by omega, by go_num, HG2.out, by rw [HT.out]; exact HO2.out⟩
     case measure => simp [intOf]; omega
    ·have hjl : j = ps.length := by omega
     have hlti : decide ((j : Int) < (ps.length : Int)) = false := by simp; omega
     have ht : ps.take j = ps := List.take_of_length_le (by omega)
     rw [ht] at HOj
     clear ht
     obtain ⟨A, c2, rfl, h1, h2, h3⟩ := HOj.out.own
     have H3 := Lib.hid h3
     clear h3
     go_wp2_with fail
     go_ret
     exact ⟨A, c2, rfl, h1, h2, H3.out, HGj.out⟩
set_option maxRecDepth 100000 in
theorem cat_ok (b : Nat) (ps : List PtV) (c : Nat) (w : World) (hP : PartsV w b ps) (hl : (catV ps).length ≤ 100000) (hn : ps.length ≤ 1000) :
  Calls Tryz.prog 93 #[.slice (some ⟨b, 0, none⟩) ps.length c] w (RetB w (catV ps)) := by
 go_enter Tryz.func93, Tryz.ntmps93
 go_wp2_with fail
 refine (SlConcat_ok b ps c w hP hl hn).mono ?_
 rintro e w' ⟨A, c', rfl, hr⟩
 go_wp2_with fail
 go_ret
 exact ⟨A, c', rfl, hr⟩
end
section
open Go.RowKit
theorem there_no {l : List UInt8} {a n : Nat} (h : there l a n = false) : 512 < l.length ∨ (l.length ≤ 512 ∧ l.length < a + n) := by
 unfold there at h
 simp at h
 omega
theorem there_yes {l : List UInt8} {a n : Nat} (h : there l a n = true) : l.length ≤ 512 ∧ a + n ≤ l.length := (there_iff _ _ _).1 h
theorem rd_cut {w : World} {b o : Nat} {l : List UInt8} (h : Rd w (some ⟨b, o, none⟩) l) (a n : Nat) : Rd w (some ⟨b, o + a, none⟩) (cut l a n) := (h.drop a).take n
theorem cut_len {l : List UInt8} {a n : Nat} (h : a + n ≤ l.length) : (cut l a n).length = n := by
 unfold cut
 rw [List.length_take, List.length_drop]
 omega
theorem u8_cell {w : World} {b o : Nat} {l : List UInt8} (h : Rd w (some ⟨b, o, none⟩) l) (i : Nat) (hi : i < l.length) : w.cell? ⟨b, o + i, none⟩ = some (.int .u8 ((l.getD i 0).toNat : Nat)) := by
 obtain ⟨b', o', e, hc⟩ := h i l[i] (List.getElem?_eq_getElem hi)
 injection e with e
 injection e with e1 e2 _
 subst e1 e2
 rw [hc, List.getD_eq_getElem?_getD, List.getElem?_eq_getElem hi]
 rfl
set_option maxRecDepth 100000 in
theorem within_read (b o : Nat) (l : List UInt8) (c a n : Nat) (w : World) (hr : Rd w (some ⟨b, o, none⟩) l) (hc : l.length ≤ c) (hcm : c ≤ maxLen) (hn : 0 < n) (ht : there l a n = true)  :
  Calls Tryz.prog 91 #[.slice (some ⟨b, o, none⟩) l.length c, .int .i64 a, .int .i64 n, .func (.func 82) #[] #[]] w fun e w' => ∃ A2 c2, e = .returned (.tuple #[.slice A2 n c2, .int .i64 0]) ∧ n ≤ c2 ∧ c2 ≤ maxLen ∧ Own w.heap.size w' A2 (cut l a n) ∧ Chg Non w w' := by
 obtain ⟨h1, h2⟩ := there_yes ht
 have HR := Lib.hid hr
 have hk := cut_len h2
 have HK := Lib.hid hk
 have b1 : decide ((l.length : Int) > 512) = false := by simp; omega
 have b2 : decide ((a : Int) > (l.length : Int)) = false := by simp; omega
 have b3 : decide ((n : Int) > (l.length : Int) - (a : Int)) = false := by simp; omega
 clear hr ht hk
 go_enter Tryz.func91, Tryz.ntmps91
 go_wp2_with fail
 have hcl := SlClone_ok (some ⟨b, o + a, none⟩) (cut l a n) n w (rd_cut HR.out a n) (by have := HK.out; omega)
 rw [HK.out] at hcl
 refine hcl.mono ?_
 rintro e w1 ⟨A2, c2, rfl, q1, q2, q3, q4⟩
 rw [HK.out] at q1 ⊢
 have Q3 := Lib.hid q3
 have Q4 := Lib.hid q4
 clear q3 q4 hcl
 go_wp2_with fail
 go_ret2
 exact ⟨A2, c2, rfl, q1, q2, Q3.out, Q4.out⟩
set_option maxRecDepth 100000 in
theorem within_write (b o : Nat) (l : List UInt8) (c a n : Nat) (w : World) (hr : Rd w (some ⟨b, o, none⟩) l) (hc : l.length ≤ c) (hcm : c ≤ maxLen) (hn : 0 < n) (ht : there l a n = true) (z : List UInt8) (p1 p2 p3 : Value) (hF : ∀ v W, Chg Non w W → Calls Tryz.prog 92 #[v, p1, p2, p3] W (RetB W z)) :
  Calls Tryz.prog 91 #[.slice (some ⟨b, o, none⟩) l.length c, .int .i64 a, .int .i64 n, .func (.func 92) #[] #[p1, p2, p3]] w fun e w' => ∃ A2 c2, e = .returned (.tuple #[.slice A2 z.length c2, .int .i64 0]) ∧ z.length ≤ c2 ∧ c2 ≤ maxLen ∧ Own w.heap.size w' A2 z ∧ Chg Non w w' := by
 obtain ⟨h1, h2⟩ := there_yes ht
 have HR := Lib.hid hr
 have hk := cut_len h2
 have HK := Lib.hid hk
 have b1 : decide ((l.length : Int) > 512) = false := by simp; omega
 have b2 : decide ((a : Int) > (l.length : Int)) = false := by simp; omega
 have b3 : decide ((n : Int) > (l.length : Int) - (a : Int)) = false := by simp; omega
 have HF := Lib.hid hF
 clear hr ht hk hF
 go_enter Tryz.func91, Tryz.ntmps91
 go_wp2_with fail
 refine (HF.out _ _ (Chg.refl _ _)).mono ?_
 rintro e w1 ⟨A2, c2, rfl, q1, q2, q3, q4⟩
 have Q3 := Lib.hid q3
 have Q4 := Lib.hid q4
 clear q3 q4
 go_wp2_with fail
 go_ret2
 exact ⟨A2, c2, rfl, q1, q2, Q3.out, Q4.out⟩
set_option maxRecDepth 100000 in
theorem within_byte (b o : Nat) (l : List UInt8) (c a n : Nat) (w : World) (hr : Rd w (some ⟨b, o, none⟩) l) (hc : l.length ≤ c) (hcm : c ≤ maxLen) (hn : 0 < n) (ht : there l a n = true) (z : Value) (hF : Calls Tryz.prog 274 #[.slice (some ⟨b, o + a, none⟩) n n] w fun e w' => e = .returned z ∧ w = w') :
  Calls Tryz.prog 273 #[.slice (some ⟨b, o, none⟩) l.length c, .int .i64 a, .int .i64 n, .func (.func 274) #[] #[]] w fun e w' => e = .returned (.tuple #[z, .int .i64 0]) ∧ w = w' := by
 obtain ⟨h1, h2⟩ := there_yes ht
 have HR := Lib.hid hr
 have hk := cut_len h2
 have HK := Lib.hid hk
 have b1 : decide ((l.length : Int) > 512) = false := by simp; omega
 have b2 : decide ((a : Int) > (l.length : Int)) = false := by simp; omega
 have b3 : decide ((n : Int) > (l.length : Int) - (a : Int)) = false := by simp; omega
 have HF := Lib.hid hF
 clear hr ht hk hF
 go_enter Tryz.func273, Tryz.ntmps273
 go_wp2_with fail
 refine HF.out.mono ?_
 rintro e w1 ⟨rfl, rfl⟩
 go_wp2_with fail
 go_ret2
 exact ⟨rfl, rfl⟩
set_option maxRecDepth 100000 in
theorem within_no_slice (A : Option Addr) (l : List UInt8) (c a n : Nat) (F : Value) (w : World) (ha : (a : Int) ≤ 4294967295 * 3) (hn : (n : Int) ≤ 4294967295 * 3) (ht : there l a n = false) :
  Calls Tryz.prog 91 #[.slice A l.length c, .int .i64 a, .int .i64 n, F] w fun e w' => ∃ er : Int, (er == 0) = false ∧ e = .returned (.tuple #[.slice none 0 0, .int .i64 er]) ∧ w = w' := by
 rcases there_no ht with h | ⟨h1, h2⟩
 ·have b1 : decide ((l.length : Int) > 512) = true := by simp; omega
  clear ht
  go_enter Tryz.func91, Tryz.ntmps91
  go_wp2_with fail
  go_ret2
  exact ⟨3, rfl, rfl, rfl⟩
 ·have b1 : decide ((l.length : Int) > 512) = false := by simp; omega
  clear ht
  by_cases hb2 : l.length < a
  ·have b2 : decide ((a : Int) > (l.length : Int)) = true := by simp; omega
   go_enter Tryz.func91, Tryz.ntmps91
   go_wp2_with fail
   go_ret2
   exact ⟨180, rfl, rfl, rfl⟩
  ·have b2 : decide ((a : Int) > (l.length : Int)) = false := by simp; omega
   have b3 : decide ((n : Int) > (l.length : Int) - (a : Int)) = true := by simp; omega
   go_enter Tryz.func91, Tryz.ntmps91
   go_wp2_with fail
   go_ret2
   exact ⟨180, rfl, rfl, rfl⟩
set_option maxRecDepth 100000 in
theorem within_no_byte (A : Option Addr) (l : List UInt8) (c a n : Nat) (F : Value) (w : World) (ha : (a : Int) ≤ 4294967295 * 3) (hn : (n : Int) ≤ 4294967295 * 3) (ht : there l a n = false) :
  Calls Tryz.prog 273 #[.slice A l.length c, .int .i64 a, .int .i64 n, F] w fun e w' => ∃ er : Int, (er == 0) = false ∧ e = .returned (.tuple #[.int .u8 0, .int .i64 er]) ∧ w = w' := by
 rcases there_no ht with h | ⟨h1, h2⟩
 ·have b1 : decide ((l.length : Int) > 512) = true := by simp; omega
  clear ht
  go_enter Tryz.func273, Tryz.ntmps273
  go_wp2_with fail
  go_ret2
  exact ⟨3, rfl, rfl, rfl⟩
 ·have b1 : decide ((l.length : Int) > 512) = false := by simp; omega
  clear ht
  by_cases hb2 : l.length < a
  ·have b2 : decide ((a : Int) > (l.length : Int)) = true := by simp; omega
   go_enter Tryz.func273, Tryz.ntmps273
   go_wp2_with fail
   go_ret2
   exact ⟨180, rfl, rfl, rfl⟩
  ·have b2 : decide ((a : Int) > (l.length : Int)) = false := by simp; omega
   have b3 : decide ((n : Int) > (l.length : Int) - (a : Int)) = true := by simp; omega
   go_enter Tryz.func273, Tryz.ntmps273
   go_wp2_with fail
   go_ret2
   exact ⟨180, rfl, rfl, rfl⟩
set_option maxRecDepth 100000 in
theorem within_no_word (A : Option Addr) (l : List UInt8) (c a n : Nat) (F : Value) (w : World) (ha : (a : Int) ≤ 4294967295 * 3) (hn : (n : Int) ≤ 4294967295 * 3) (ht : there l a n = false) :
  Calls Tryz.prog 275 #[.slice A l.length c, .int .i64 a, .int .i64 n, F] w fun e w' => ∃ er : Int, (er == 0) = false ∧ e = .returned (.tuple #[.int .u32 0, .int .i64 er]) ∧ w = w' := by
 rcases there_no ht with h | ⟨h1, h2⟩
 ·have b1 : decide ((l.length : Int) > 512) = true := by simp; omega
  clear ht
  go_enter Tryz.func275, Tryz.ntmps275
  go_wp2_with fail
  go_ret2
  exact ⟨3, rfl, rfl, rfl⟩
 ·have b1 : decide ((l.length : Int) > 512) = false := by simp; omega
  clear ht
  by_cases hb2 : l.length < a
  ·have b2 : decide ((a : Int) > (l.length : Int)) = true := by simp; omega
   go_enter Tryz.func275, Tryz.ntmps275
   go_wp2_with fail
   go_ret2
   exact ⟨180, rfl, rfl, rfl⟩
  ·have b2 : decide ((a : Int) > (l.length : Int)) = false := by simp; omega
   have b3 : decide ((n : Int) > (l.length : Int) - (a : Int)) = true := by simp; omega
   go_enter Tryz.func275, Tryz.ntmps275
   go_wp2_with fail
   go_ret2
   exact ⟨180, rfl, rfl, rfl⟩
set_option maxRecDepth 100000 in
theorem load1_ok (b o : Nat) (x : Nat) (w : World) (hc : w.cell? ⟨b, o, none⟩ = some (.int .u8 x)) :
  Calls Tryz.prog 274 #[.slice (some ⟨b, o, none⟩) 1 1] w fun e w' => e = .returned (.int .u8 x) ∧ w = w' := by
 go_enter Tryz.func274, Tryz.ntmps274
 go_wp2_with fail
 go_ret
 exact ⟨rfl, rfl⟩
set_option maxRecDepth 100000 in
theorem write1_ok (b o : Nat) (l : List UInt8) (c a : Nat) (B : Option Addr) (y : List UInt8) (cy p1 p2 p3 : Nat) (v : Value) (w : World) (hr : Rd w (some ⟨b, o, none⟩) l) (hry : Rd w B y) (hc : l.length ≤ c) (hcm : c ≤ maxLen)
  (h1 : l.length ≤ 512) (h2 : a + y.length ≤ l.length) (e1 : w.cell? ⟨p1, 0, none⟩ = some (.slice (some ⟨b, o, none⟩) l.length c)) (e2 : w.cell? ⟨p2, 0, none⟩ = some (.int .i64 a)) (e3 : w.cell? ⟨p3, 0, none⟩ = some (.slice B y.length cy)) :
  Calls Tryz.prog 92 #[v, .pointer (some ⟨p1, 0, none⟩), .pointer (some ⟨p2, 0, none⟩), .pointer (some ⟨p3, 0, none⟩)] w (RetB w (put l a y)) := by
 have HR := Lib.hid hr
 have HRy := Lib.hid hry
 clear hr hry
 have g1 : (a : Int) + (y.length : Int) ≤ (l.length : Int) := by omega
 obtain ⟨q, hq⟩ : ∃ q, a + y.length = q := ⟨_, rfl⟩
 obtain ⟨A3, hA3⟩ : ∃ A3 : Option Addr, (if c = q then some ⟨b, o, none⟩ else some ⟨b, o + q, none⟩) = A3 := ⟨_, rfl⟩
 have hql : q ≤ l.length := by omega
 have hqi : (q : Int) ≤ (l.length : Int) := by omega
 have hR3 : Hid (Rd w A3 (l.drop q)) := Lib.hid (by
   rw [← hA3]
   split
   · rw [List.drop_eq_nil_of_le (by omega)]
     exact Rd.nil _ _
   · exact HR.out.drop q)
 go_enter Tryz.func92, Tryz.ntmps92
 go_wp2_with fail
 refine wp_region_held_drew (S := fun W => W.cell? ⟨p1, 0, none⟩ = some (.slice (some ⟨b, o, none⟩) l.length c) ∧ W.cell? ⟨p2, 0, none⟩ = some (.int .i64 a) ∧ W.cell? ⟨p3, 0, none⟩ = some (.slice B y.length cy)) (by kernel_rfl) ⟨e1, e2, e3⟩ (fun hHeld => ?_)
 refine hp 0 6 (.slice (some ⟨b, o, none⟩) l.length c) rfl hHeld ?_ (he := (fun W hW => by obtain ⟨e1, e2, e3⟩ := hW; go_simp))
 refine hp 1 7 (.int .i64 a) rfl hHeld ?_ (he := (fun W hW => by obtain ⟨e1, e2, e3⟩ := hW; go_simp))
 refine hp 3 9 (.slice B y.length cy) rfl hHeld ?_ (he := (fun W hW => by obtain ⟨e1, e2, e3⟩ := hW; go_simp))
 refine hp 4 10 (.slice (some ⟨b, o, none⟩) l.length c) rfl hHeld ?_ (he := (fun W hW => by obtain ⟨e1, e2, e3⟩ := hW; go_simp))
 refine hp 5 11 (.int .i64 a) rfl hHeld ?_ (he := (fun W hW => by obtain ⟨e1, e2, e3⟩ := hW; go_simp))
 refine hp 6 12 (.slice B y.length cy) rfl hHeld ?_ (he := (fun W hW => by obtain ⟨e1, e2, e3⟩ := hW; go_simp))
 refine hp 2 8 (.slice (some ⟨b, o, none⟩) a c) rfl hHeld ?_ (he := (fun W hW => by obtain ⟨e1, e2, e3⟩ := hW; go_simp; intro h; omega))
 refine hp 7 13 (.int .i64 y.length) rfl hHeld ?_ (he := (fun W hW => by obtain ⟨e1, e2, e3⟩ := hW; go_simp))
 refine hp 8 14 (.int .i64 (q : Nat)) rfl hHeld ?_ (he := (fun W hW => by obtain ⟨e1, e2, e3⟩ := hW; go_simp; rw [Go.IntWalk.i64_in _ (by omega)]; omega))
 refine hp 9 15 (.slice A3 (l.length - q) (c - q)) rfl hHeld ?_ (he := (fun W hW => by rw [← hA3]; go_simp))
 refine h_one 10 (by kernel_rfl) rfl (by kernel_rfl) ?_
 intro K hK
 go_simp
 have hps : PartsV (w.drew.alloc (.cells #[.slice (some ⟨b, o, none⟩) a c, .slice B y.length cy, .slice A3 (l.length - q) (c - q)] 50)) w.heap.size [(some ⟨b, o, none⟩, l.take a, c), (B, y, cy), (A3, l.drop q, c - q)] := by
  have hg : Chg Non w (w.drew.alloc (.cells #[.slice (some ⟨b, o, none⟩) a c, .slice B y.length cy, .slice A3 (l.length - q) (c - q)] 50)) := ((Chg.refl Non w).drew).alloc _
  have hb := heap_alloc_new w.drew (.cells #[.slice (some ⟨b, o, none⟩) a c, .slice B y.length cy, .slice A3 (l.length - q) (c - q)] 50)
  intro i p hp
  have hi : i = 0 ∨ i = 1 ∨ i = 2 := by have := (List.getElem?_eq_some_iff.1 hp).1; simp at this; omega
  rcases hi with rfl | rfl | rfl
  ·simp at hp
   subst hp
   refine ⟨row_cell hb ?_, (HR.out.take a).non hg⟩
   simp
   omega
  ·simp at hp
   subst hp
   exact ⟨row_cell hb (by simp), HRy.out.non hg⟩
  ·simp at hp
   subst hp
   exact ⟨row_cell hb (by simp), hR3.out.non hg⟩
 have HPs := Lib.hid hps
 have hcv : catV [(some ⟨b, o, none⟩, l.take a, c), (B, y, cy), (A3, l.drop q, c - q)] = put l a y := by simp [catV, put, hq]
 have HCv := Lib.hid hcv
 have hS2 : (w.drew.alloc (.cells #[.slice (some ⟨b, o, none⟩) a c, .slice B y.length cy, .slice A3 (l.length - q) (c - q)] 50)).cell? ⟨p1, 0, none⟩ = some (.slice (some ⟨b, o, none⟩) l.length c) ∧ (w.drew.alloc (.cells #[.slice (some ⟨b, o, none⟩) a c, .slice B y.length cy, .slice A3 (l.length - q) (c - q)] 50)).cell? ⟨p2, 0, none⟩ = some (.int .i64 a) ∧ (w.drew.alloc (.cells #[.slice (some ⟨b, o, none⟩) a c, .slice B y.length cy, .slice A3 (l.length - q) (c - q)] 50)).cell? ⟨p3, 0, none⟩ = some (.slice B y.length cy) := ⟨(((Chg.refl Non w).drew).alloc _).cell_some e1 (fun e => e), (((Chg.refl Non w).drew).alloc _).cell_some e2 (fun e => e), (((Chg.refl Non w).drew).alloc _).cell_some e3 (fun e => e)⟩
 refine hK.out _ _ hS2 (fun _ => ?_)
 clear hK K hps hcv
 refine h_one 11 (by kernel_rfl) rfl (by kernel_rfl) ?_
 intro K hK
 go_simp
 have hpl : (put l a y).length = l.length := put_len (by omega)
 refine (cat_ok w.heap.size [(some ⟨b, o, none⟩, l.take a, c), (B, y, cy), (A3, l.drop q, c - q)] 3 _ HPs.out (by rw [HCv.out, hpl]; omega) (by simp)).mono ?_
 rintro e w1 ⟨A4, c4, rfl, q1, q2, q3, q4⟩
 rw [HCv.out] at q1 q3 ⊢
 have Q3 := Lib.hid (q3.mono (show w.heap.size ≤ _ by simp))
 have Q4 := Lib.hid ((((Chg.refl Non w).drew).alloc _).then_non q4)
 refine hK.out _ _ ⟨Q4.out.cell_some e1 (fun e => e), Q4.out.cell_some e2 (fun e => e), Q4.out.cell_some e3 (fun e => e)⟩ (fun _ => ?_)
 clear hK K q3 q4
 refine h_one 12 (by kernel_rfl) rfl (by kernel_rfl) ?_
 intro K hK
 go_simp
 refine hK.out _ _ ⟨Q4.out.cell_some e1 (fun e => e), Q4.out.cell_some e2 (fun e => e), Q4.out.cell_some e3 (fun e => e)⟩ (fun _ => ?_)
 clear hK K
 refine wpAnyH_done (by kernel_rfl) ?_ _
 go_wp2_with fail
 go_ret
 exact ⟨A4, c4, by rw [hpl]; rfl, q1, q2, Q3.out, Q4.out⟩
end
section
open Go.RowKit
theorem or_ok (a b m i : Nat) (ha : a = 2 ^ i * m) (hb : b < 2 ^ i) (hs : a + b < 4294967296) : bits .or .u32 (a : Int) (b : Int) = (a : Int) + (b : Int) := by
 rw [u32_or_nat a b (by omega) (by omega), ha, ← Nat.two_pow_add_eq_or_of_lt hb]
 simp
set_option maxRecDepth 100000 in
theorem load32_1_ok (b o : Nat) (x0 x1 x2 x3 : Nat) (w : World) (h0 : x0 < 256) (h1 : x1 < 256) (h2 : x2 < 256) (h3 : x3 < 256) (c0 : w.cell? ⟨b, o, none⟩ = some (.int .u8 x0)) (c1 : w.cell? ⟨b, o + 1, none⟩ = some (.int .u8 x1)) (c2 : w.cell? ⟨b, o + 2, none⟩ = some (.int .u8 x2)) (c3 : w.cell? ⟨b, o + 3, none⟩ = some (.int .u8 x3)) :
  Calls Tryz.prog 276 #[.slice (some ⟨b, o, none⟩) 4 4] w fun e w' => e = .returned (.int .u32 ((x0 * 16777216 + x1 * 65536 + x2 * 256 + x3 : Nat) : Int)) ∧ Chg Non w w' := by
 go_enter Tryz.func276, Tryz.ntmps276
 go_wp2_with fail
 refine wp_region_held_drew (S := fun W => W.cell? ⟨b, o, none⟩ = some (.int .u8 x0) ∧ W.cell? ⟨b, o + 1, none⟩ = some (.int .u8 x1) ∧ W.cell? ⟨b, o + 2, none⟩ = some (.int .u8 x2) ∧ W.cell? ⟨b, o + 3, none⟩ = some (.int .u8 x3)) (by kernel_rfl) ⟨c0, c1, c2, c3⟩ (fun hHeld => ?_)
 refine hp 0 3 (.slice (some ⟨b, o, none⟩) 4 4) rfl hHeld ?_ (he := (fun W hW => by obtain ⟨e0, e1, e2, e3⟩ := hW; go_simp))
 refine hp 1 4 (.pointer (some ⟨b, o, none⟩)) rfl hHeld ?_ (he := (fun W hW => by obtain ⟨e0, e1, e2, e3⟩ := hW; go_simp))
 refine hp 2 5 (.int .u8 x0) rfl hHeld ?_ (he := (fun W hW => by obtain ⟨e0, e1, e2, e3⟩ := hW; go_simp))
 refine hp 3 6 (.int .u32 ((x0 : Nat) : Int)) rfl hHeld ?_ (he := (fun W hW => by obtain ⟨e0, e1, e2, e3⟩ := hW; go_simp; exact Go.IntWalk.u32_in _ (by omega)))
 refine hp 4 7 (.int .u32 ((x0 * 16777216 : Nat) : Int)) rfl hHeld ?_ (he := (fun W hW => by go_simp; exact Go.IntWalk.u32_in _ (by omega)))
 refine hp 5 8 (.slice (some ⟨b, o, none⟩) 4 4) rfl hHeld ?_ (he := (fun W hW => by obtain ⟨e0, e1, e2, e3⟩ := hW; go_simp))
 refine hp 6 9 (.pointer (some ⟨b, o + 1, none⟩)) rfl hHeld ?_ (he := (fun W hW => by obtain ⟨e0, e1, e2, e3⟩ := hW; go_simp))
 refine hp 7 10 (.int .u8 x1) rfl hHeld ?_ (he := (fun W hW => by obtain ⟨e0, e1, e2, e3⟩ := hW; go_simp))
 refine hp 8 11 (.int .u32 ((x1 : Nat) : Int)) rfl hHeld ?_ (he := (fun W hW => by obtain ⟨e0, e1, e2, e3⟩ := hW; go_simp; exact Go.IntWalk.u32_in _ (by omega)))
 refine hp 9 12 (.int .u32 ((x1 * 65536 : Nat) : Int)) rfl hHeld ?_ (he := (fun W hW => by go_simp; exact Go.IntWalk.u32_in _ (by omega)))
 refine hp 10 13 (.int .u32 ((x0 * 16777216 + x1 * 65536 : Nat) : Int)) rfl hHeld ?_ (he := (fun W hW => by go_simp; have h := or_ok (x0 * 16777216) (x1 * 65536) x0 24 (by omega) (by omega) (by omega); simpa using h))
 refine hp 11 14 (.slice (some ⟨b, o, none⟩) 4 4) rfl hHeld ?_ (he := (fun W hW => by obtain ⟨e0, e1, e2, e3⟩ := hW; go_simp))
 refine hp 12 15 (.pointer (some ⟨b, o + 2, none⟩)) rfl hHeld ?_ (he := (fun W hW => by obtain ⟨e0, e1, e2, e3⟩ := hW; go_simp))
 refine hp 13 16 (.int .u8 x2) rfl hHeld ?_ (he := (fun W hW => by obtain ⟨e0, e1, e2, e3⟩ := hW; go_simp))
 refine hp 14 17 (.int .u32 ((x2 : Nat) : Int)) rfl hHeld ?_ (he := (fun W hW => by obtain ⟨e0, e1, e2, e3⟩ := hW; go_simp; exact Go.IntWalk.u32_in _ (by omega)))
 refine hp 15 18 (.int .u32 ((x2 * 256 : Nat) : Int)) rfl hHeld ?_ (he := (fun W hW => by go_simp; exact Go.IntWalk.u32_in _ (by omega)))
 refine hp 16 19 (.int .u32 ((x0 * 16777216 + x1 * 65536 + x2 * 256 : Nat) : Int)) rfl hHeld ?_ (he := (fun W hW => by go_simp; have h := or_ok (x0 * 16777216 + x1 * 65536) (x2 * 256) (x0 * 256 + x1) 16 (by omega) (by omega) (by omega); simpa using h))
 refine hp 17 20 (.slice (some ⟨b, o, none⟩) 4 4) rfl hHeld ?_ (he := (fun W hW => by obtain ⟨e0, e1, e2, e3⟩ := hW; go_simp))
 refine hp 18 21 (.pointer (some ⟨b, o + 3, none⟩)) rfl hHeld ?_ (he := (fun W hW => by obtain ⟨e0, e1, e2, e3⟩ := hW; go_simp))
 refine hp 19 22 (.int .u8 x3) rfl hHeld ?_ (he := (fun W hW => by obtain ⟨e0, e1, e2, e3⟩ := hW; go_simp))
 refine hp 20 23 (.int .u32 ((x3 : Nat) : Int)) rfl hHeld ?_ (he := (fun W hW => by obtain ⟨e0, e1, e2, e3⟩ := hW; go_simp; exact Go.IntWalk.u32_in _ (by omega)))
 refine hp 21 24 (.int .u32 ((x0 * 16777216 + x1 * 65536 + x2 * 256 + x3 : Nat) : Int)) rfl hHeld ?_ (he := (fun W hW => by go_simp; have h := or_ok (x0 * 16777216 + x1 * 65536 + x2 * 256) x3 (x0 * 65536 + x1 * 256 + x2) 8 (by omega) (by omega) (by omega); simpa using h))
 refine hp 22 2 (.int .u32 ((x0 * 16777216 + x1 * 65536 + x2 * 256 + x3 : Nat) : Int)) rfl hHeld ?_ (he := (fun W hW => by obtain ⟨e0, e1, e2, e3⟩ := hW; go_simp))
 refine wpAnyH_done (by kernel_rfl) ?_ _
 go_wp2_with fail
 go_ret
 exact ⟨rfl, (Chg.refl Non _).drew⟩
set_option maxRecDepth 100000 in
theorem within_load32 (b o : Nat) (l : List UInt8) (c a : Nat) (w : World) (hr : Rd w (some ⟨b, o, none⟩) l) (hc : l.length ≤ c) (hcm : c ≤ maxLen) (ht : there l a 4 = true) (q r s t : Nat) (hq : q < 256) (hrr : r < 256) (hs : s < 256) (htt : t < 256) (hcut : (cut l a 4).map UInt8.toNat = [q, r, s, t]) :
  Calls Tryz.prog 275 #[.slice (some ⟨b, o, none⟩) l.length c, .int .i64 a, .int .i64 (4 : Nat), .func (.func 276) #[] #[]] w fun e w' => e = .returned (.tuple #[.int .u32 ((q * 16777216 + r * 65536 + s * 256 + t : Nat) : Int), .int .i64 0]) ∧ Chg Non w w' := by
 obtain ⟨h1, h2⟩ := there_yes ht
 have hk := cut_len h2
 have b1 : decide ((l.length : Int) > 512) = false := by simp; omega
 have b2 : decide ((a : Int) > (l.length : Int)) = false := by simp; omega
 have b3 : decide ((4 : Int) > (l.length : Int) - (a : Int)) = false := by simp; omega
 have hrc := rd_cut hr a 4
 have hcell : ∀ i, i < 4 → w.cell? ⟨b, o + a + i, none⟩ = some (.int .u8 (([q, r, s, t].getD i 0 : Nat))) := by
  intro i hi
  rw [u8_cell hrc i (by omega), ← hcut]
  congr 3
  rw [List.getD_eq_getElem?_getD, List.getD_eq_getElem?_getD, List.getElem?_map, List.getElem?_eq_getElem (by omega)]
  rfl
 have c0 := hcell 0 (by omega)
 have c1 := hcell 1 (by omega)
 have c2 := hcell 2 (by omega)
 have c3 := hcell 3 (by omega)
 simp only [Nat.add_zero] at c0
 have HL := Lib.hid (load32_1_ok b (o + a) q r s t w hq hrr hs htt c0 c1 c2 c3)
 have g1 : (a : Int) + 4 ≤ (l.length : Int) := by omega
 clear hr ht hk hrc hcell c0 c1 c2 c3 hcut
 go_enter Tryz.func275, Tryz.ntmps275
 go_wp2_with fail
 refine HL.out.mono ?_
 rintro e w1 ⟨rfl, hg⟩
 have HG := Lib.hid hg
 clear hg
 go_wp2_with fail
 go_ret2
 exact ⟨rfl, HG.out⟩
theorem cut_four (l : List UInt8) (a : Nat) (h : a + 4 ≤ l.length) : ∃ q r s t : Nat, q < 256 ∧ r < 256 ∧ s < 256 ∧ t < 256 ∧ (cut l a 4).map UInt8.toNat = [q, r, s, t] ∧ num32 (cut l a 4) = q * 16777216 + r * 65536 + s * 256 + t := by
 have hl := cut_len h
 match hq : cut l a 4, hl with
 | [x0, x1, x2, x3], _ =>
  refine ⟨x0.toNat, x1.toNat, x2.toNat, x3.toNat, x0.toNat_lt, x1.toNat_lt, x2.toNat_lt, x3.toNat_lt, rfl, ?_⟩
  simp only [num32, List.foldl]
  omega
theorem cut_one (l : List UInt8) (a : Nat) (h : a + 1 ≤ l.length) : ∃ x : UInt8, cut l a 1 = [x] := by
 have hl := cut_len h
 match hq : cut l a 1, hl with
 | [x], _ => exact ⟨x, rfl⟩
set_option maxRecDepth 100000 in
theorem Read_yes (A : Option Addr) (l : List UInt8) (c a n : Nat) (w : World) (hr : Rd w A l) (hc : l.length ≤ c) (hcm : c ≤ maxLen) (hn : 0 < n) (ht : there l a n = true) :
  Calls Tryz.prog 232 #[.slice A l.length c, .int .i64 a, .int .i64 n] w fun e w' => ∃ A2 c2, e = .returned (.tuple #[.slice A2 n c2, .int .i64 0]) ∧ n ≤ c2 ∧ c2 ≤ maxLen ∧ Own w.heap.size w' A2 (cut l a n) ∧ Chg Non w w' := by
 obtain ⟨b, o, rfl, _⟩ := hr.at_ (by have := (there_yes ht).2; omega)
 have HW := Lib.hid (within_read b o l c a n w hr hc hcm hn ht)
 clear hr ht
 go_enter Tryz.func232, Tryz.ntmps232
 go_wp2_with fail
 refine HW.out.mono ?_
 rintro e w1 ⟨A2, c2, rfl, q1, q2, q3, q4⟩
 have Q3 := Lib.hid q3
 have Q4 := Lib.hid q4
 clear q3 q4
 go_wp2_with fail
 go_ret2
 exact ⟨A2, c2, rfl, q1, q2, Q3.out, Q4.out⟩
set_option maxRecDepth 100000 in
theorem Read_no (A : Option Addr) (l : List UInt8) (c a n : Nat) (w : World) (ha : (a : Int) ≤ 4294967295 * 3) (hn : (n : Int) ≤ 4294967295 * 3) (ht : there l a n = false) :
  Calls Tryz.prog 232 #[.slice A l.length c, .int .i64 a, .int .i64 n] w fun e w' => ∃ er : Int, (er == 0) = false ∧ e = .returned (.tuple #[.slice none 0 0, .int .i64 er]) ∧ w = w' := by
 have HW := Lib.hid (fun F => within_no_slice A l c a n F w ha hn ht)
 clear ht
 go_enter Tryz.func232, Tryz.ntmps232
 go_wp2_with fail
 refine (HW.out _).mono ?_
 rintro e w1 ⟨er, he, rfl, rfl⟩
 go_wp2_with fail
 go_ret2
 exact ⟨er, he, rfl, rfl⟩
set_option maxRecDepth 100000 in
theorem Load_no (A : Option Addr) (l : List UInt8) (c a : Nat) (w : World) (ha : (a : Int) ≤ 4294967295 * 3) (ht : there l a 1 = false) :
  Calls Tryz.prog 265 #[.slice A l.length c, .int .i64 a] w fun e w' => ∃ er : Int, (er == 0) = false ∧ e = .returned (.tuple #[.int .u8 0, .int .i64 er]) ∧ w = w' := by
 have HW := Lib.hid (fun F => within_no_byte A l c a 1 F w ha (by omega) ht)
 clear ht
 go_enter Tryz.func265, Tryz.ntmps265
 go_wp2_with fail
 refine (HW.out _).mono ?_
 rintro e w1 ⟨er, he, rfl, rfl⟩
 go_wp2_with fail
 go_ret2
 exact ⟨er, he, rfl, rfl⟩
set_option maxRecDepth 100000 in
theorem Load32_no (A : Option Addr) (l : List UInt8) (c a : Nat) (w : World) (ha : (a : Int) ≤ 4294967295 * 3) (ht : there l a 4 = false) :
  Calls Tryz.prog 268 #[.slice A l.length c, .int .i64 a] w fun e w' => ∃ er : Int, (er == 0) = false ∧ e = .returned (.tuple #[.int .u32 0, .int .i64 er]) ∧ w = w' := by
 have HW := Lib.hid (fun F => within_no_word A l c a 4 F w ha (by omega) ht)
 clear ht
 go_enter Tryz.func268, Tryz.ntmps268
 go_wp2_with fail
 refine (HW.out _).mono ?_
 rintro e w1 ⟨er, he, rfl, rfl⟩
 go_wp2_with fail
 go_ret2
 exact ⟨er, he, rfl, rfl⟩
set_option maxRecDepth 100000 in
theorem Load_yes (A : Option Addr) (l : List UInt8) (c a : Nat) (x : UInt8) (w : World) (hr : Rd w A l) (hc : l.length ≤ c) (hcm : c ≤ maxLen) (ht : there l a 1 = true) (hx : cut l a 1 = [x]) :
  Calls Tryz.prog 265 #[.slice A l.length c, .int .i64 a] w fun e w' => e = .returned (.tuple #[.int .u8 x.toNat, .int .i64 0]) ∧ w = w' := by
 obtain ⟨b, o, rfl, _⟩ := hr.at_ (by have := (there_yes ht).2; omega)
 have hcell := u8_cell (rd_cut hr a 1) 0 (by rw [hx]; simp)
 rw [hx, Nat.add_zero] at hcell
 have HW := Lib.hid (within_byte b o l c a 1 w hr hc hcm (by omega) ht (.int .u8 x.toNat) (load1_ok b (o + a) x.toNat w hcell))
 clear hr ht hcell
 go_enter Tryz.func265, Tryz.ntmps265
 go_wp2_with fail
 refine HW.out.mono ?_
 rintro e w1 ⟨rfl, rfl⟩
 go_wp2_with fail
 go_ret2
 exact ⟨rfl, rfl⟩
set_option maxRecDepth 100000 in
theorem Load32_yes (A : Option Addr) (l : List UInt8) (c a : Nat) (w : World) (hr : Rd w A l) (hc : l.length ≤ c) (hcm : c ≤ maxLen) (ht : there l a 4 = true) :
  Calls Tryz.prog 268 #[.slice A l.length c, .int .i64 a] w fun e w' => e = .returned (.tuple #[.int .u32 ((num32 (cut l a 4) : Nat) : Int), .int .i64 0]) ∧ Chg Non w w' := by
 obtain ⟨b, o, rfl, _⟩ := hr.at_ (by have := (there_yes ht).2; omega)
 obtain ⟨q, r, s, t, hq, hrr, hs, htt, hcut, hnum⟩ := cut_four l a (there_yes ht).2
 rw [hnum]
 have HW := Lib.hid (within_load32 b o l c a w hr hc hcm ht q r s t hq hrr hs htt hcut)
 clear hr ht hcut hnum
 go_enter Tryz.func268, Tryz.ntmps268
 go_wp2_with fail
 refine HW.out.mono ?_
 rintro e w1 ⟨rfl, hg⟩
 have HG := Lib.hid hg
 clear hg
 go_wp2_with fail
 go_ret2
 exact ⟨rfl, HG.out⟩
end
section
open Go.RowKit
set_option maxRecDepth 100000 in
theorem Write_yes (A : Option Addr) (l : List UInt8) (c a : Nat) (B : Option Addr) (y : List UInt8) (cy : Nat) (w : World) (hr : Rd w A l) (hry : Rd w B y) (hc : l.length ≤ c) (hcm : c ≤ maxLen) (hn : 0 < y.length) (ht : there l a y.length = true) :
  Calls Tryz.prog 52 #[.slice A l.length c, .int .i64 a, .slice B y.length cy] w fun e w' => ∃ A2 c2, e = .returned (.tuple #[.slice A2 l.length c2, .int .i64 0]) ∧ l.length ≤ c2 ∧ c2 ≤ maxLen ∧ Own w.heap.size w' A2 (put l a y) ∧ Chg Non w w' := by
 obtain ⟨h1, h2⟩ := there_yes ht
 obtain ⟨b, o, rfl, _⟩ := hr.at_ (by omega)
 have HR := Lib.hid hr
 have HRy := Lib.hid hry
 have hpl : (put l a y).length = l.length := put_len h2
 have HPl := Lib.hid hpl
 have HT := Lib.hid ht
 clear hr hry ht hpl
 go_enter Tryz.func52, Tryz.ntmps52
 go_wp2_with fail
 have hg0 : Chg Non w (((w.alloc (.cells #[.slice (some ⟨b, o, none⟩) l.length c] 50)).alloc (.cells #[.int .i64 a] 3)).alloc (.cells #[.slice B y.length cy] 50)) := (((Chg.refl Non w).alloc _).alloc _).alloc _
 have HG0 := Lib.hid hg0
 have hw := within_write b o l c a y.length _ (HR.out.non hg0) hc hcm hn HT.out (put l a y) (.pointer (some ⟨w.heap.size, 0, none⟩)) (.pointer (some ⟨w.heap.size + 1, 0, none⟩)) (.pointer (some ⟨w.heap.size + 1 + 1, 0, none⟩)) (fun v W hg => write1_ok b o l c a B y cy w.heap.size (w.heap.size + 1) (w.heap.size + 1 + 1) v W ((HR.out.non HG0.out).non hg) ((HRy.out.non HG0.out).non hg) hc hcm h1 h2 (hg.cell_some (row_cell (al_3_0 w _ _ _) rfl) (fun e => e)) (hg.cell_some (row_cell (al_3_1 w _ _ _) rfl) (fun e => e)) (hg.cell_some (row_cell (al_3_2 w _ _ _) rfl) (fun e => e)))
 rw [HPl.out] at hw
 have HW := Lib.hid hw
 clear hg0 hw
 refine HW.out.mono ?_
 rintro e w1 ⟨A2, c2, rfl, q1, q2, q3, q4⟩
 have Q3 := Lib.hid (q3.mono (show w.heap.size ≤ _ by simp; omega))
 have Q4 := Lib.hid (HG0.out.then_non q4)
 clear q3 q4
 go_wp2_with fail
 go_ret2
 exact ⟨A2, c2, rfl, q1, q2, Q3.out, Q4.out⟩
set_option maxRecDepth 100000 in
theorem Write_no (A : Option Addr) (l : List UInt8) (c a : Nat) (B : Option Addr) (n cy : Nat) (w : World) (ha : (a : Int) ≤ 4294967295 * 3) (hn : (n : Int) ≤ 4294967295 * 3) (ht : there l a n = false) :
  Calls Tryz.prog 52 #[.slice A l.length c, .int .i64 a, .slice B n cy] w fun e w' => ∃ er : Int, (er == 0) = false ∧ e = .returned (.tuple #[.slice none 0 0, .int .i64 er]) ∧ Chg Non w w' := by
 have HW := Lib.hid (fun F W => within_no_slice A l c a n F W ha hn ht)
 clear ht
 go_enter Tryz.func52, Tryz.ntmps52
 go_wp2_with fail
 refine (HW.out _ _).mono ?_
 rintro e w1 ⟨er, he, rfl, rfl⟩
 go_wp2_with fail
 go_ret2
 exact ⟨er, he, rfl, (((Chg.refl Non w).alloc _).alloc _).alloc _⟩
set_option maxRecDepth 100000 in
theorem Store_yes (A : Option Addr) (l : List UInt8) (c a x : Nat) (w : World) (hx : x < 256) (hr : Rd w A l) (hc : l.length ≤ c) (hcm : c ≤ maxLen) (ht : there l a 1 = true) :
  Calls Tryz.prog 267 #[.slice A l.length c, .int .i64 a, .int .u8 x] w fun e w' => ∃ A2 c2, e = .returned (.tuple #[.slice A2 l.length c2, .int .i64 0]) ∧ l.length ≤ c2 ∧ c2 ≤ maxLen ∧ Own w.heap.size w' A2 (put l a [UInt8.ofNat x]) ∧ Chg Non w w' := by
 have hb : Rd (w.alloc (.cells #[.int .u8 x] 5)) (some ⟨w.heap.size, 0, none⟩) [UInt8.ofNat x] := by
  intro i y hy
  refine ⟨_, _, rfl, ?_⟩
  have hi : i = 0 := by have := (List.getElem?_eq_some_iff.1 hy).1; simp at this; omega
  subst hi
  simp at hy
  subst hy
  rw [cell_of_one (heap_alloc_new _ _), UInt8.toNat_ofNat']
  congr 2
  omega
 have HW := Lib.hid (Write_yes A l c a (some ⟨w.heap.size, 0, none⟩) [UInt8.ofNat x] 1 (w.alloc (.cells #[.int .u8 x] 5)) (hr.non ((Chg.refl Non w).alloc _)) hb hc hcm (by simp) ht)
 clear hr hb ht
 go_enter Tryz.func267, Tryz.ntmps267
 go_wp2_with fail
 refine HW.out.mono ?_
 rintro e w1 ⟨A2, c2, rfl, q1, q2, q3, q4⟩
 have Q3 := Lib.hid (q3.mono (show w.heap.size ≤ _ by simp))
 have Q4 := Lib.hid (((Chg.refl Non w).alloc _).then_non q4)
 clear q3 q4
 go_wp2_with fail
 go_ret2
 exact ⟨A2, c2, rfl, q1, q2, Q3.out, Q4.out⟩
set_option maxRecDepth 100000 in
theorem Store_no (A : Option Addr) (l : List UInt8) (c a x : Nat) (w : World) (ha : (a : Int) ≤ 4294967295 * 3) (ht : there l a 1 = false) :
  Calls Tryz.prog 267 #[.slice A l.length c, .int .i64 a, .int .u8 x] w fun e w' => ∃ er : Int, (er == 0) = false ∧ e = .returned (.tuple #[.slice none 0 0, .int .i64 er]) ∧ Chg Non w w' := by
 have HW := Lib.hid (fun B cy W => Write_no A l c a B 1 cy W ha (by omega) ht)
 clear ht
 go_enter Tryz.func267, Tryz.ntmps267
 go_wp2_with fail
 refine (HW.out _ _ _).mono ?_
 rintro e w1 ⟨er, he, rfl, q4⟩
 have Q4 := Lib.hid (((Chg.refl Non w).alloc _).then_non q4)
 clear q4
 go_wp2_with fail
 go_ret2
 exact ⟨er, he, rfl, Q4.out⟩
end
section
open Go.RowKit
def wcells (x : Nat) : Array Value := #[.int .u8 ((x : Int) / 16777216), .int .u8 ((x : Int) / 65536 % 256), .int .u8 ((x : Int) / 256 % 256), .int .u8 ((x : Int) % 256)]
theorem rd_word32 (w : World) (x : Nat) (hx : x < 4294967296) : Rd (w.alloc (.cells (wcells x) 5)) (some ⟨w.heap.size, 0, none⟩) (word32 x) := by
 intro i y hy
 refine ⟨_, _, rfl, ?_⟩
 have hi : i = 0 ∨ i = 1 ∨ i = 2 ∨ i = 3 := by have := (List.getElem?_eq_some_iff.1 hy).1; simp [word32] at this; omega
 rw [Nat.zero_add]
 refine row_cell (heap_alloc_new _ _) ?_
 rcases hi with rfl | rfl | rfl | rfl
 all_goals
  simp [word32] at hy
  subst hy
  simp only [wcells, UInt8.toNat_ofNat']
  first
   | (show some (Value.int .u8 ((x : Int) / 16777216)) = _; congr 2; omega)
   | (show some (Value.int .u8 ((x : Int) / 65536 % 256)) = _; congr 2)
   | (show some (Value.int .u8 ((x : Int) / 256 % 256)) = _; congr 2)
   | (show some (Value.int .u8 ((x : Int) % 256)) = _; congr 2)
set_option maxRecDepth 100000 in
theorem Store32_yes (A : Option Addr) (l : List UInt8) (c a x : Nat) (w : World) (hx : x < 4294967296) (hr : Rd w A l) (hc : l.length ≤ c) (hcm : c ≤ maxLen) (ht : there l a 4 = true) :
  Calls Tryz.prog 269 #[.slice A l.length c, .int .i64 a, .int .u32 x] w fun e w' => ∃ A2 c2, e = .returned (.tuple #[.slice A2 l.length c2, .int .i64 0]) ∧ l.length ≤ c2 ∧ c2 ≤ maxLen ∧ Own w.heap.size w' A2 (put l a (word32 x)) ∧ Chg Non w w' := by
 have HW := Lib.hid (Write_yes A l c a (some ⟨w.heap.size, 0, none⟩) (word32 x) 4 (w.alloc (.cells (wcells x) 5)) (hr.non ((Chg.refl Non w).alloc _)) (rd_word32 w x hx) hc hcm (by simp [word32]) ht)
 clear hr ht
 go_enter Tryz.func269, Tryz.ntmps269
 go_wp2_with fail
 refine HW.out.mono ?_
 rintro e w1 ⟨A2, c2, rfl, q1, q2, q3, q4⟩
 have Q3 := Lib.hid (q3.mono (show w.heap.size ≤ _ by simp))
 have Q4 := Lib.hid (((Chg.refl Non w).alloc _).then_non q4)
 clear q3 q4
 go_wp2_with fail
 go_ret2
 exact ⟨A2, c2, rfl, q1, q2, Q3.out, Q4.out⟩
set_option maxRecDepth 100000 in
theorem Store32_no (A : Option Addr) (l : List UInt8) (c a x : Nat) (w : World) (hx : x < 4294967296) (ha : (a : Int) ≤ 4294967295 * 3) (ht : there l a 4 = false) :
  Calls Tryz.prog 269 #[.slice A l.length c, .int .i64 a, .int .u32 x] w fun e w' => ∃ er : Int, (er == 0) = false ∧ e = .returned (.tuple #[.slice none 0 0, .int .i64 er]) ∧ Chg Non w w' := by
 have HW := Lib.hid (fun B cy W => Write_no A l c a B 4 cy W ha (by omega) ht)
 clear ht
 go_enter Tryz.func269, Tryz.ntmps269
 go_wp2_with fail
 refine (HW.out _ _ _).mono ?_
 rintro e w1 ⟨er, he, rfl, q4⟩
 have Q4 := Lib.hid (((Chg.refl Non w).alloc _).then_non q4)
 clear q4
 go_wp2_with fail
 go_ret2
 exact ⟨er, he, rfl, Q4.out⟩
end
end Go.Proofs.YtmnaleaghfbclaaGreatDoor
