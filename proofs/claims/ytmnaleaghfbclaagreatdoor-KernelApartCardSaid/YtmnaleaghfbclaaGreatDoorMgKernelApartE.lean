/- KernelApart, part 5 of 27: contracts of the functions that it reaches, and the laws that they need, merged and shortened (from my texts XVmG, XCfg, XLeads, XValA, XIdx). -/
import Derived.Test.YtmnaleaghfbclaaGreatDoorMgKernelApartA
import Derived.Test.YtmnaleaghfbclaaGreatDoorMgKernelApartD
namespace Go.Proofs.YtmnaleaghfbclaaGreatDoor
set_option linter.unusedVariables false
set_option linter.unusedSimpArgs false
set_option maxHeartbeats 8000000
section
open Go.RowKit
def partL (p : Pt) (m : Value) : List Value := .int .i64 p.id :: .int .i64 p.size :: .bool p.keep :: ((p.r.map fun n : Nat => Value.int .u32 n) ++ [.int .u32 p.pc, .int .u8 p.st, m])
def partC (p : Pt) (m : Value) : Array Value := (partL p m).toArray
theorem partC_size {p : Pt} (h : p.r.length = 8) (m : Value) : (partC p m).size = 14 := by simp [partC, partL, h]
theorem partC_reg {p : Pt} (h : p.r.length = 8) (m : Value) (a : Nat) (ha : a < 8) : (partC p m)[3 + a]? = some (.int .u32 (p.g a : Nat)) := by
 simp only [partC, partL, List.getElem?_toArray]
 rw [show 3 + a = a + 1 + 1 + 1 by omega, List.getElem?_cons_succ, List.getElem?_cons_succ, List.getElem?_cons_succ, List.getElem?_append_left (by simp [h]; omega), List.getElem?_map, List.getElem?_eq_getElem (by omega)]
 simp only [Option.map_some, Pt.g]
 rw [List.getD_eq_getElem?_getD, List.getElem?_eq_getElem (by omega)]
 rfl
theorem partC_end {p : Pt} (h : p.r.length = 8) (m : Value) (j : Nat) (hj : j < 3) : (partC p m)[11 + j]? = [Value.int .u32 (p.pc : Nat), .int .u8 (p.st : Nat), m][j]? := by
 simp only [partC, partL, List.getElem?_toArray]
 rw [show 11 + j = (8 + j) + 1 + 1 + 1 by omega, List.getElem?_cons_succ, List.getElem?_cons_succ, List.getElem?_cons_succ, List.getElem?_append_right (by simp [h])]
 congr 1
 simp [h]
theorem part_setR {p : Pt} (h : p.r.length = 8) (m : Value) (a v : Nat) (ha : a < 8) : (partC p m).setIfInBounds (3 + a) (.int .u32 (v : Nat)) = partC (p.set a v) m := by
 simp only [partC, partL, List.setIfInBounds_toArray, Pt.set]
 congr 1
 rw [show 3 + a = a + 1 + 1 + 1 by omega, List.set_cons_succ, List.set_cons_succ, List.set_cons_succ, List.set_append_left _ _ (by simp [h]; omega), List.map_set]
theorem part_set11 {p : Pt} (h : p.r.length = 8) (m : Value) (v : Nat) : (partC p m).setIfInBounds 11 (.int .u32 (v : Nat)) = partC { p with pc := v } m := by
 simp only [partC, partL, List.setIfInBounds_toArray]
 congr 1
 rw [List.set_cons_succ, List.set_cons_succ, List.set_cons_succ, List.set_append_right _ _ (by simp [h])]
 simp [h]
theorem part_set12 {p : Pt} (h : p.r.length = 8) (m : Value) (v : Nat) : (partC p m).setIfInBounds 12 (.int .u8 (v : Nat)) = partC { p with st := v } m := by
 simp only [partC, partL, List.setIfInBounds_toArray]
 congr 1
 rw [List.set_cons_succ, List.set_cons_succ, List.set_cons_succ, List.set_append_right _ _ (by simp [h])]
 simp [h]
theorem part_set13 {p : Pt} (h : p.r.length = 8) (m m' : Value) : (partC p m).setIfInBounds 13 m' = partC p m' := by
 simp only [partC, partL, List.setIfInBounds_toArray]
 congr 1
 rw [List.set_cons_succ, List.set_cons_succ, List.set_cons_succ, List.set_append_right _ _ (by simp [h])]
 simp [h]
def PartAt (W : World) (b : Nat) (p : Pt) (m : Value) : Prop := W.heap[b]? = some (.cells (partC p m) 69 (0, 0))
structure PartB (W : World) (b : Nat) (p : Pt) (m : Value) : Prop where
 out : PartAt W b p m
 len : p.r.length = 8
theorem PartB.lt {W : World} {b : Nat} {p : Pt} {m : Value} (h : PartB W b p m) : b < W.heap.size := (Array.getElem?_eq_some_iff.1 h.out).1
theorem PartB.keep {S : Nat → Prop} {W W' : World} {b : Nat} {p : Pt} {m : Value} (h : PartB W b p m) (hg : Chg S W W') (hn : ¬ S b) : PartB W' b p m := ⟨blockS h.out hg hn, h.len⟩
theorem PartB.non {W W' : World} {b : Nat} {p : Pt} {m : Value} (h : PartB W b p m) (hg : Chg Non W W') : PartB W' b p m := h.keep hg (fun e => e)
theorem PartB.frozen {W : World} {b : Nat} {p : Pt} {m : Value} (h : PartB W b p m) : ∀ i, W.frozen? ⟨b, i, none⟩ = false := by
 intro i
 simp only [World.frozen?]
 rw [show W.heap[b]? = _ from h.out]
 simp
theorem PartB.cells {W : World} {b : Nat} {p : Pt} {m : Value} (h : PartB W b p m) :
  W.cell? ⟨b, 0, none⟩ = some (.int .i64 p.id) ∧ W.cell? ⟨b, 1, none⟩ = some (.int .i64 p.size) ∧ W.cell? ⟨b, 2, none⟩ = some (.bool p.keep) ∧ W.cell? ⟨b, 11, none⟩ = some (.int .u32 (p.pc : Nat)) ∧ W.cell? ⟨b, 12, none⟩ = some (.int .u8 (p.st : Nat)) ∧ W.cell? ⟨b, 13, none⟩ = some m :=
 ⟨row_cell h.out rfl, row_cell h.out rfl, row_cell h.out rfl, row_cell h.out (partC_end h.len m 0 (by omega)), row_cell h.out (partC_end h.len m 1 (by omega)), row_cell h.out (partC_end h.len m 2 (by omega))⟩
theorem PartB.reg {W : World} {b : Nat} {p : Pt} {m : Value} (h : PartB W b p m) (a : Nat) (ha : a < 8) : W.cell? ⟨b, 3 + a, none⟩ = some (.int .u32 (p.g a : Nat)) := row_cell h.out (partC_reg h.len m a ha)
theorem PartB.setReg {W : World} {b : Nat} {p : Pt} {m : Value} (h : PartB W b p m) (a v : Nat) (ha : a < 8) : PartB (W.setCell ⟨b, 3 + a, none⟩ (.int .u32 (v : Nat))) b (p.set a v) m := by
 refine ⟨?_, by simp [Pt.set, h.len]⟩
 have := heap_setCellI (.int .u32 (v : Nat)) (i := 3 + a) h.out
 rw [part_setR h.len m a v ha] at this
 exact this
theorem PartB.setPc {W : World} {b : Nat} {p : Pt} {m : Value} (h : PartB W b p m) (v : Nat) : PartB (W.setCell ⟨b, 11, none⟩ (.int .u32 (v : Nat))) b { p with pc := v } m := by
 refine ⟨?_, h.len⟩
 have := heap_setCellI (.int .u32 (v : Nat)) (i := 11) h.out
 rw [part_set11 h.len m v] at this
 exact this
theorem PartB.setSt {W : World} {b : Nat} {p : Pt} {m : Value} (h : PartB W b p m) (v : Nat) : PartB (W.setCell ⟨b, 12, none⟩ (.int .u8 (v : Nat))) b { p with st := v } m := by
 refine ⟨?_, h.len⟩
 have := heap_setCellI (.int .u8 (v : Nat)) (i := 12) h.out
 rw [part_set12 h.len m v] at this
 exact this
theorem PartB.setMem {W : World} {b : Nat} {p : Pt} {m : Value} (h : PartB W b p m) (v : Value) : PartB (W.setCell ⟨b, 13, none⟩ v) b p v := by
 refine ⟨?_, h.len⟩
 have := heap_setCellI v (i := 13) h.out
 rw [part_set13 h.len m v] at this
 exact this
theorem info_part : (Tryz.prog.info? 69).map (·.size) = some 14 := by kernel_rfl
theorem setAt (w : World) (b i : Nat) (v : Value) : Chg (fun k => k = b) w (w.setCell ⟨b, i, none⟩ v) := set_at w b i v
end
section
open Go.RowKit
def I64 (n : Int) : Prop := -9223372036854775808 ≤ n ∧ n ≤ 9223372036854775807
structure Win where
 len : Int
 part : Int
structure Pn where
 id : Int
 base : Int
 size : Int
 keep : Bool
 img : List UInt8
structure Ch where
 id : Int
 src : Int
 dst : Int
 cap : Int
 size : Int
structure Cfg where
 ws : List Win
 ps : List Pn
 cs : List Ch
structure Qu where
 ch : Ch
 msgs : List (List UInt8)
structure Sta where
 frames : Int
 parts : List Pt
 queues : List Qu
def Win.L (a : Win) : List Value := [.int .i64 a.len, .int .i64 a.part]
def Pn.L (a : Pn) (m : Value) : List Value := [.int .i64 a.id, .int .i64 a.base, .int .i64 a.size, .bool a.keep, m]
def Ch.L (a : Ch) : List Value := [.int .i64 a.id, .int .i64 a.src, .int .i64 a.dst, .int .i64 a.cap, .int .i64 a.size]
def Qu.L (a : Qu) (m : Value) : List Value := [.int .i64 a.ch.id, .int .i64 a.ch.src, .int .i64 a.ch.dst, .int .i64 a.ch.cap, .int .i64 a.ch.size, m]
def Ch.Bd (a : Ch) : Prop := I64 a.id ∧ I64 a.src ∧ I64 a.dst ∧ I64 a.cap ∧ I64 a.size
def winV : World → Win → List Value → Prop := fun _ a vs => vs = a.L ∧ I64 a.len ∧ I64 a.part
def pnV (I : Nat → Prop) : World → Pn → List Value → Prop := fun w a vs => ∃ m, vs = a.L m ∧ BytesV I w a.img m ∧ (I64 a.id ∧ I64 a.base ∧ I64 a.size) ∧ a.img.length ≤ 140737488351232
def chV : World → Ch → List Value → Prop := fun _ a vs => vs = a.L ∧ a.Bd
def msgV (I : Nat → Prop) : World → List UInt8 → List Value → Prop := fun w a vs => ∃ m, vs = [m] ∧ BytesV I w a m ∧ a.length ≤ 140737488351232
def quV (I : Nat → Prop) : World → Qu → List Value → Prop := fun w a vs => ∃ m, vs = a.L m ∧ SlV (msgV I) I 1 w a.msgs m ∧ a.ch.Bd ∧ a.msgs.length ≤ 140737488351232
def ptV (I : Nat → Prop) : World → Pt → List Value → Prop := fun w a vs => ∃ m, vs = partL a m ∧ BytesV I w a.mem m ∧ a.Bd ∧ a.mem.length ≤ 140737488351232
structure StaV (I : Nat → Prop) (w : World) (s : Sta) (b d : Value) : Prop where
 ps : SlV (ptV I) I 14 w s.parts b
 qs : SlV (quV I) I 6 w s.queues d
section
variable {I I' S : Nat → Prop} {w w' : World}
theorem pnV.keep {a : Pn} {vs : List Value} (h : pnV I w a vs) (hg : Chg S w w') (hI : ∀ b, I b → ¬ S b) : pnV I w' a vs := by
 obtain ⟨m, h1, h2, h3⟩ := h
 exact ⟨m, h1, h2.keep hg hI, h3⟩
theorem msgV.keep {a : List UInt8} {vs : List Value} (h : msgV I w a vs) (hg : Chg S w w') (hI : ∀ b, I b → ¬ S b) : msgV I w' a vs := by
 obtain ⟨m, h1, h2, h3⟩ := h
 exact ⟨m, h1, h2.keep hg hI, h3⟩
theorem quV.keep {a : Qu} {vs : List Value} (h : quV I w a vs) (hg : Chg S w w') (hI : ∀ b, I b → ¬ S b) : quV I w' a vs := by
 obtain ⟨m, h1, h2, h3⟩ := h
 exact ⟨m, h1, h2.keep hg hI (fun a vs _ h => msgV.keep h hg hI), h3⟩
theorem ptV.keep {a : Pt} {vs : List Value} (h : ptV I w a vs) (hg : Chg S w w') (hI : ∀ b, I b → ¬ S b) : ptV I w' a vs := by
 obtain ⟨m, h1, h2, h3⟩ := h
 exact ⟨m, h1, h2.keep hg hI, h3⟩
theorem StaV.keep {s : Sta} {b d : Value} (h : StaV I w s b d) (hg : Chg S w w') (hI : ∀ b, I b → ¬ S b) : StaV I w' s b d :=
 ⟨h.ps.keep hg hI (fun _ _ _ h => ptV.keep h hg hI), h.qs.keep hg hI (fun _ _ _ h => quV.keep h hg hI)⟩
theorem StaV.non {s : Sta} {b d : Value} (h : StaV I w s b d) (hg : Chg Non w w') : StaV I w' s b d := h.keep hg (fun _ _ e => e)
theorem pnV.mono {a : Pn} {vs : List Value} (h : pnV I w a vs) (hI : ∀ b, I b → I' b) : pnV I' w a vs := by
 obtain ⟨m, h1, h2, h3⟩ := h
 exact ⟨m, h1, h2.mono hI, h3⟩
theorem msgV.mono {a : List UInt8} {vs : List Value} (h : msgV I w a vs) (hI : ∀ b, I b → I' b) : msgV I' w a vs := by
 obtain ⟨m, h1, h2, h3⟩ := h
 exact ⟨m, h1, h2.mono hI, h3⟩
theorem quV.mono {a : Qu} {vs : List Value} (h : quV I w a vs) (hI : ∀ b, I b → I' b) : quV I' w a vs := by
 obtain ⟨m, h1, h2, h3⟩ := h
 exact ⟨m, h1, h2.mono hI (fun a vs _ h => msgV.mono h hI), h3⟩
theorem ptV.mono {a : Pt} {vs : List Value} (h : ptV I w a vs) (hI : ∀ b, I b → I' b) : ptV I' w a vs := by
 obtain ⟨m, h1, h2, h3⟩ := h
 exact ⟨m, h1, h2.mono hI, h3⟩
end
end
section
def Ch.edge (x : Ch) : Bool := decide (0 ≤ x.src) && decide (x.src ≤ 6) && decide (0 ≤ x.dst) && decide (x.dst ≤ 6)
def relax1 (s : List Bool) (x : Ch) : List Bool := if (x.edge && s.getD x.src.toNat false) = true then s.set x.dst.toNat true else s
def relax (cs : List Ch) (s : List Bool) : List Bool := cs.foldl relax1 s
def rounds : Nat → List Ch → List Bool → List Bool
 | 0, cs, s => s
 | n + 1, cs, s => relax cs (rounds n cs s)
def seen0 (src : Int) : List Bool := (List.replicate 7 false).set src.toNat true
def leadsV (cs : List Ch) (src dst : Int) : Bool := decide (0 ≤ src) && decide (src ≤ 6) && decide (0 ≤ dst) && decide (dst ≤ 6) && (rounds 6 cs (seen0 src)).getD dst.toNat false
def Sub (s t : List Bool) : Prop := ∀ i, s.getD i false = true → t.getD i false = true
def Closed (cs : List Ch) (s : List Bool) : Prop := ∀ x ∈ cs, x.edge = true → s.getD x.src.toNat false = true → s.getD x.dst.toNat false = true
theorem getD_set (s : List Bool) (k i : Nat) : (s.set k true).getD i false = if k = i ∧ k < s.length then true else s.getD i false := by
 rw [List.getD_eq_getElem?_getD, List.getD_eq_getElem?_getD, List.getElem?_set]
 by_cases h : k = i
 ·subst h
  by_cases hl : k < s.length
  ·simp [hl]
  ·simp [hl, List.getElem?_eq_none (Nat.le_of_not_lt hl)]
 ·simp [h]
theorem relax1_len (s : List Bool) (x : Ch) : (relax1 s x).length = s.length := by unfold relax1; split <;> simp
theorem relax1_sub (s : List Bool) (x : Ch) : Sub s (relax1 s x) := by
 intro i h
 unfold relax1
 split
 ·rw [getD_set]; split
  ·rfl
  ·exact h
 ·exact h
theorem relax_len (cs : List Ch) : ∀ s, (relax cs s).length = s.length := by
 induction cs with
 | nil => intro s; rfl
 | cons x r ih => intro s; show (relax r (relax1 s x)).length = _; rw [ih, relax1_len]
theorem relax_sub (cs : List Ch) : ∀ s, Sub s (relax cs s) := by
 induction cs with
 | nil => intro s i h; exact h
 | cons x r ih => intro s i h; exact ih _ i (relax1_sub s x i h)
theorem relax_edge {cs : List Ch} {x : Ch} : ∀ {s : List Bool}, s.length = 7 → x ∈ cs → x.edge = true → s.getD x.src.toNat false = true → (relax cs s).getD x.dst.toNat false = true := by
 induction cs with
 | nil => intro s _ h; cases h
 | cons y r ih =>
  intro s hl hx he hs
  rcases List.mem_cons.1 hx with rfl | hx
  ·refine relax_sub r _ _ ?_
   unfold relax1
   rw [he, hs]
   simp only [Bool.and_self, if_true]
   rw [getD_set, if_pos]
   refine ⟨rfl, ?_⟩
   simp only [Ch.edge, Bool.and_eq_true, decide_eq_true_eq] at he
   omega
  ·exact ih (by rw [relax1_len]; exact hl) hx he (relax1_sub s y _ hs)
theorem rounds_len (cs : List Ch) (s : List Bool) : ∀ n, (rounds n cs s).length = s.length
 | 0 => rfl
 | n + 1 => by rw [rounds, relax_len, rounds_len cs s n]
theorem rounds_sub (cs : List Ch) (s : List Bool) : ∀ n, Sub s (rounds n cs s)
 | 0 => fun i h => h
 | n + 1 => fun i h => relax_sub cs _ i (rounds_sub cs s n i h)
theorem closed_of_eq {cs : List Ch} {s : List Bool} (hl : s.length = 7) (h : relax cs s = s) : Closed cs s := fun x hx he hs => by
 have := relax_edge hl hx he hs
 rwa [h] at this
def cnt (s : List Bool) : Nat := s.count true
theorem sub_tail {a b : Bool} {s t : List Bool} (h : Sub (a :: s) (b :: t)) : Sub s t := fun i hi => by
 have := h (i + 1) (by simpa using hi)
 simpa using this
theorem cnt_le : ∀ {s t : List Bool}, s.length = t.length → Sub s t → cnt s ≤ cnt t
 | [], [], _, _ => Nat.le_refl _
 | [], b :: t, h, _ => by simp at h
 | a :: s, [], h, _ => by simp at h
 | a :: s, b :: t, h, hs => by
  have h0 : a = true → b = true := fun e => by have := hs 0 (by simpa using e); simpa using this
  have ih := cnt_le (s := s) (t := t) (by simpa using h) (sub_tail hs)
  unfold cnt at ih ⊢
  rw [List.count_cons, List.count_cons]
  cases a <;> cases b <;> simp at h0 ⊢ <;> omega
theorem cnt_lt : ∀ {s t : List Bool}, s.length = t.length → Sub s t → t ≠ s → cnt s < cnt t
 | [], [], _, _, hne => absurd rfl hne
 | [], b :: t, h, _, _ => by simp at h
 | a :: s, [], h, _, _ => by simp at h
 | a :: s, b :: t, h, hs, hne => by
  have h0 : a = true → b = true := fun e => by have := hs 0 (by simpa using e); simpa using this
  have hl : s.length = t.length := by simpa using h
  have hle := cnt_le hl (sub_tail hs)
  by_cases he : t = s
  ·subst he
   have hab : b ≠ a := fun e => hne (by rw [e])
   unfold cnt at hle ⊢
   rw [List.count_cons, List.count_cons]
   cases a <;> cases b <;> simp at h0 hab ⊢
  ·have ih := cnt_lt hl (sub_tail hs) he
   unfold cnt at ih ⊢
   rw [List.count_cons, List.count_cons]
   cases a <;> cases b <;> simp at h0 ⊢ <;> omega
theorem cnt_full {s : List Bool} (h : s.length ≤ cnt s) : ∀ i, i < s.length → s.getD i false = true := by
 have hall : ∀ b ∈ s, true = b := List.count_eq_length.1 (Nat.le_antisymm List.count_le_length h)
 intro i hi
 rw [List.getD_eq_getElem?_getD, List.getElem?_eq_getElem hi]
 exact (hall _ (List.getElem_mem hi)).symm
theorem rounds_closed {cs : List Ch} {s : List Bool} (hl : s.length = 7) (h0 : 1 ≤ cnt s) : ∀ n, Closed cs (rounds n cs s) ∨ n + 1 ≤ cnt (rounds n cs s)
 | 0 => .inr h0
 | n + 1 => by
  have hln : (rounds n cs s).length = 7 := by rw [rounds_len]; exact hl
  by_cases he : relax cs (rounds n cs s) = rounds n cs s
  ·left
   rw [rounds, he]
   exact closed_of_eq hln he
  ·have hlt := cnt_lt (relax_len cs _).symm (relax_sub cs _) he
   rcases rounds_closed hl h0 n with hc | hc
   ·exfalso
    apply he
    -- a closed one stays as it is
    have hst : ∀ (l : List Ch) (t : List Bool), t.length = 7 → (∀ x ∈ l, x.edge = true → t.getD x.src.toNat false = true → t.getD x.dst.toNat false = true) → relax l t = t := by
     intro l
     induction l with
     | nil => intro t _ _; rfl
     | cons x r ih =>
      intro t ht hx
      have h1 : relax1 t x = t := by
       unfold relax1
       split
       ·rename_i hc
        rw [Bool.and_eq_true] at hc
        have hd := hx x (List.mem_cons_self ..) hc.1 hc.2
        have hlt : x.dst.toNat < t.length := by
         have := hc.1
         simp only [Ch.edge, Bool.and_eq_true, decide_eq_true_eq] at this
         omega
        rw [List.getD_eq_getElem?_getD, List.getElem?_eq_getElem hlt] at hd
        have hd' : t[x.dst.toNat] = true := hd
        rw [← hd', List.set_getElem_self]
       ·rfl
      show relax r (relax1 t x) = t
      rw [h1]
      exact ih t ht (fun y hy => hx y (List.mem_cons_of_mem _ hy))
    exact hst cs _ hln hc
   ·right
    rw [rounds]
    omega
theorem seen0_len (a : Int) : (seen0 a).length = 7 := by simp [seen0]
theorem seen0_self {a : Int} (h0 : 0 ≤ a) (h1 : a ≤ 6) : (seen0 a).getD a.toNat false = true := by
 unfold seen0
 rw [getD_set, if_pos]
 exact ⟨rfl, by simp; omega⟩
theorem cnt_pos {s : List Bool} {i : Nat} (h : s.getD i false = true) : 1 ≤ cnt s := by
 unfold cnt
 rw [List.getD_eq_getElem?_getD] at h
 cases hs : s[i]? with
 | none => rw [hs] at h; simp at h
 | some b =>
  rw [hs] at h
  have : b = true := h
  subst this
  exact List.count_pos_iff.2 (List.mem_of_getElem? hs)
theorem seen_closed {cs : List Ch} {a : Int} (h0 : 0 ≤ a) (h1 : a ≤ 6) : Closed cs (rounds 6 cs (seen0 a)) := by
 rcases rounds_closed (cs := cs) (seen0_len a) (cnt_pos (seen0_self h0 h1)) 6 with h | h
 ·exact h
 ·have hl : (rounds 6 cs (seen0 a)).length = 7 := by rw [rounds_len, seen0_len]
  intro x hx he _
  refine cnt_full (by omega) _ ?_
  simp only [Ch.edge, Bool.and_eq_true, decide_eq_true_eq] at he
  omega
theorem relax_in {cs l : List Ch} {t : List Bool} (ht : Closed cs t) (hl : ∀ x ∈ l, x ∈ cs) : ∀ {s : List Bool}, Sub s t → Sub (relax l s) t := by
 induction l with
 | nil => intro s h; exact h
 | cons x r ih =>
  intro s h
  refine ih (fun y hy => hl y (List.mem_cons_of_mem _ hy)) ?_
  intro i hi
  unfold relax1 at hi
  split at hi
  ·rename_i hc
   rw [Bool.and_eq_true] at hc
   rw [getD_set] at hi
   split at hi
   ·rename_i hk
    rw [← hk.1]
    exact ht x (hl x (List.mem_cons_self ..)) hc.1 (h _ hc.2)
   ·exact h i hi
  ·exact h i hi
theorem rounds_in {cs : List Ch} {t s : List Bool} (ht : Closed cs t) (h : Sub s t) : ∀ n, Sub (rounds n cs s) t
 | 0 => h
 | n + 1 => relax_in ht (fun _ h => h) (rounds_in ht h n)
theorem leads_self {cs : List Ch} {a : Int} (h0 : 0 ≤ a) (h1 : a ≤ 6) : leadsV cs a a = true := by
 simp only [leadsV, Bool.and_eq_true, decide_eq_true_eq]
 exact ⟨⟨⟨⟨h0, h1⟩, h0⟩, h1⟩, rounds_sub cs _ 6 _ (seen0_self h0 h1)⟩
theorem leads_back {cs : List Ch} {x : Ch} {who : Int} (hx : x ∈ cs) (he : x.edge = true) (h : leadsV cs x.dst who = true) : leadsV cs x.src who = true := by
 have he' := he
 simp only [Ch.edge, Bool.and_eq_true, decide_eq_true_eq] at he'
 simp only [leadsV, Bool.and_eq_true, decide_eq_true_eq] at h ⊢
 refine ⟨⟨⟨⟨he'.1.1.1, he'.1.1.2⟩, h.1.1.2⟩, h.1.2⟩, ?_⟩
 have hcl := seen_closed (cs := cs) he'.1.1.1 he'.1.1.2
 have hd := hcl x hx he (rounds_sub cs _ 6 _ (seen0_self he'.1.1.1 he'.1.1.2))
 refine rounds_in hcl (fun i hi => ?_) 6 _ h.2
 unfold seen0 at hi
 rw [getD_set] at hi
 split at hi
 ·rename_i hk
  rw [← hk.1]; exact hd
 ·rw [List.getD_eq_getElem?_getD, List.getElem?_replicate] at hi
  split at hi <;> simp at hi
end
section
open Go.RowKit
theorem ret_b {a b : Bool} (h : a = b) : Ending.returned (.bool a) = .returned (.bool b) := by rw [h]
theorem ret_i {k : IntKind} {a b : Int} (h : a = b) : Ending.returned (.int k a) = .returned (.int k b) := by rw [h]
theorem tmod4 (s : Int) : s.tmod 4 = 0 ↔ s % 4 = 0 := by
 rw [← Int.dvd_iff_tmod_eq_zero, Int.dvd_iff_emod_eq_zero]
def regMay (b s : Int) : Bool := decide (0 ≤ b) && decide (b ≤ 4096) && decide (b % 4 = 0) && decide (s % 4 = 0) && decide (16 ≤ s) && decide (s ≤ 512) && decide (b + s ≤ 4096)
theorem regMay_iff {b s : Int} : regMay b s = true ↔ 0 ≤ b ∧ b % 4 = 0 ∧ s % 4 = 0 ∧ 16 ≤ s ∧ s ≤ 512 ∧ b + s ≤ 4096 := by
 simp only [regMay, Bool.and_eq_true, decide_eq_true_eq]
 constructor
 ·rintro ⟨⟨⟨⟨⟨⟨a, b⟩, c⟩, d⟩, e⟩, f⟩, g⟩
  exact ⟨a, c, d, e, f, g⟩
 ·rintro ⟨a, c, d, e, f, g⟩
  exact ⟨⟨⟨⟨⟨⟨a, by omega⟩, c⟩, d⟩, e⟩, f⟩, g⟩
set_option maxRecDepth 100000 in
theorem regMay_ok (b s : Int) (w : World) :
  Calls Tryz.prog 109 #[.agg #[.int .i64 b, .int .i64 s]] w fun e w' => e = .returned (.bool (regMay b s)) ∧ Chg Non w w' := by
 have hst := Lib.hid (tmod4 s)
 by_cases h0 : 0 ≤ b
 ·have htm : b.tmod 4 = b % 4 := Int.tmod_eq_emod_of_nonneg h0
  have hr0 : 0 ≤ b % 4 := by omega
  have hr1 : b % 4 < 4 := by omega
  have hwr : IntKind.i64.wrap (b % 4) = b % 4 := Go.IntWalk.i64_in _ (by omega)
  go_enter Tryz.func109, Tryz.ntmps109
  go_wp2
  all_goals
   go_ret
   refine ⟨ret_b ?_, (Chg.refl _ _).alloc _⟩
   have hst := hst.out
   rw [Bool.eq_iff_iff, regMay_iff]
   simp only [decide_eq_true_eq, Bool.false_eq_true, false_iff]
   omega
 ·have h0' : decide (0 ≤ b) = false := by simpa using h0
  go_enter Tryz.func109, Tryz.ntmps109
  go_wp2
  go_ret
  refine ⟨ret_b ?_, (Chg.refl _ _).alloc _⟩
  rw [Bool.eq_iff_iff, regMay_iff]
  simp only [Bool.false_eq_true, false_iff]
  omega
def regEnd (b s : Int) : Int := if regMay b s = true then b + s else 0
set_option maxRecDepth 100000 in
theorem regEnd_ok (b s : Int) (w : World) :
  Calls Tryz.prog 148 #[.agg #[.int .i64 b, .int .i64 s]] w fun e w' => e = .returned (.int .i64 (regEnd b s)) ∧ Chg Non w w' := by
 have HM := Lib.hid (fun W => regMay_ok b s W)
 have HE : Hid (regEnd b s = if regMay b s = true then b + s else 0) := Lib.hid rfl
 obtain ⟨m, hm⟩ : ∃ m, regMay b s = m := ⟨_, rfl⟩
 rw [hm] at HM HE
 cases m with
 | false =>
  clear hm
  go_enter Tryz.func148, Tryz.ntmps148
  go_wp2_with fail
  refine (HM.out _).mono ?_
  rintro e u ⟨rfl, hg⟩
  go_wp2_with fail
  go_ret
  exact ⟨by rw [HE.out]; rfl, ((Chg.refl Non w).alloc _).then_non hg⟩
 | true =>
  have hb := regMay_iff.1 hm
  have h1 : 0 ≤ b := hb.1
  have h2 : 16 ≤ s := hb.2.2.2.1
  have h3 : b + s ≤ 4096 := hb.2.2.2.2.2
  clear hm hb
  go_enter Tryz.func148, Tryz.ntmps148
  go_wp2_with fail
  refine (HM.out _).mono ?_
  rintro e u ⟨rfl, hg⟩
  have hb := hg.block _ (by simp) (fun e => e) |>.trans (heap_alloc_new w (.cells #[.int .i64 b, .int .i64 s] 81))
  have k0 : u.cell? ⟨w.heap.size, 0, none⟩ = some (.int .i64 b) := by rw [cell_of_row _ _ _ _ _ _ hb]; rfl
  have k1 : u.cell? ⟨w.heap.size, 1, none⟩ = some (.int .i64 s) := by rw [cell_of_row _ _ _ _ _ _ hb]; rfl
  have HB := Lib.hid hb
  clear hb
  go_wp2_with fail
  go_ret
  exact ⟨by rw [HE.out]; rfl, ((Chg.refl Non w).alloc _).then_non hg⟩
def chPart (n : Int) : Bool := decide (1 ≤ n) && decide (n ≤ 6)
theorem chPart_ok (n : Int) (w : World) : Calls Tryz.prog 166 #[.int .i64 n] w fun e w' => e = .returned (.bool (chPart n)) ∧ w = w' := by
 go_enter Tryz.func166, Tryz.ntmps166
 go_wp2
 all_goals
  go_ret
  refine ⟨ret_b ?_, rfl⟩
  rw [Bool.eq_iff_iff]
  simp only [chPart, Bool.and_eq_true, decide_eq_true_eq, Bool.false_eq_true, false_iff]
  omega
def chMay (id src dst cap size : Int) : Bool := decide (1 ≤ id) && decide (id ≤ 8) && chPart src && chPart dst && decide (src ≠ dst) && decide (1 ≤ cap) && decide (cap ≤ 4) && decide (1 ≤ size) && decide (size ≤ 16)
set_option maxRecDepth 100000 in
theorem chMay_ok (id src dst cap size : Int) (w : World) :
  Calls Tryz.prog 143 #[.agg #[.int .i64 id, .int .i64 src, .int .i64 dst, .int .i64 cap, .int .i64 size]] w fun e w' => e = .returned (.bool (chMay id src dst cap size)) ∧ Chg Non w w' := by
 have H1 := Lib.hid (fun W => chPart_ok src W)
 have H2 := Lib.hid (fun W => chPart_ok dst W)
 obtain ⟨m, hm⟩ : ∃ m, chMay id src dst cap size = m := ⟨_, rfl⟩
 rw [hm]
 unfold chMay at hm
 obtain ⟨b1, h1⟩ : ∃ b, chPart src = b := ⟨_, rfl⟩
 obtain ⟨b2, h2⟩ : ∃ b, chPart dst = b := ⟨_, rfl⟩
 rw [h1, h2] at hm
 rw [h1] at H1
 rw [h2] at H2
 have HM := Lib.hid hm
 clear h1 h2 hm
 cases b1 <;> cases b2
 all_goals
  go_enter Tryz.func143, Tryz.ntmps143
  go_wp2_with (first
    | ((with_reducible refine (H1.out _).mono ?_); rintro e u ⟨rfl, rfl⟩)
    | ((with_reducible refine (H2.out _).mono ?_); rintro e u ⟨rfl, rfl⟩))
  all_goals
   go_ret
   refine ⟨ret_b ?_, (Chg.refl _ _).alloc _⟩
   rw [← HM.out, Bool.eq_iff_iff]
   simp only [Bool.and_eq_true, decide_eq_true_eq, Bool.false_eq_true, false_iff, and_false, false_and, not_false_eq_true, and_true, true_and, bne_iff_ne, ne_eq]
   try omega
end
section
open Go.RowKit
def idxOf {α : Type} (p : α → Bool) (l : List α) : Int := match l.findIdx? p with | some i => (i : Int) | none => -1
theorem idx_some {α : Type} {p : α → Bool} {l : List α} {k : Nat} {a : α} (ha : l[k]? = some a) (hp : p a = true) (hn : ∀ i b, i < k → l[i]? = some b → p b = false) : idxOf p l = k := by
 have h : l.findIdx? p = some k := by
  obtain ⟨hk, e⟩ := List.getElem?_eq_some_iff.1 ha
  rw [List.findIdx?_eq_some_iff_getElem]
  exact ⟨hk, by rw [e]; exact hp, fun j hj => by simp [hn j _ hj (List.getElem?_eq_getElem (by omega))]⟩
 rw [idxOf, h]
theorem idx_none {α : Type} {p : α → Bool} {l : List α} (hn : ∀ i b, i < l.length → l[i]? = some b → p b = false) : idxOf p l = -1 := by
 have h : l.findIdx? p = none := by
  rw [List.findIdx?_eq_none_iff]
  intro x hx
  obtain ⟨i, hi⟩ := List.getElem?_of_mem hx
  exact hn i x (List.getElem?_eq_some_iff.1 hi).1 hi
 rw [idxOf, h]
theorem idx_ge {α : Type} (p : α → Bool) (l : List α) : decide (0 ≤ idxOf p l) = l.any p := by
 rw [Bool.eq_iff_iff, decide_eq_true_eq, List.any_eq_true]
 unfold idxOf
 constructor
 ·intro h
  cases hf : l.findIdx? p with
  | none => rw [hf] at h; simp at h
  | some i =>
   obtain ⟨hi, hp, _⟩ := List.findIdx?_eq_some_iff_getElem.1 hf
   exact ⟨l[i], List.getElem_mem hi, hp⟩
 ·rintro ⟨x, hx, hp⟩
  cases hf : l.findIdx? p with
  | none => rw [List.findIdx?_eq_none_iff] at hf; rw [hf x hx] at hp; cases hp
  | some i => simp
def Asks {α : Type} (R : World → α → List Value → Prop) (V : List Value → Value) (l : List α) (p : α → Bool) (w : World) (K : Nat) (cap : List Value) : Prop :=
 ∀ W a vs, Chg Non w W → a ∈ l → R W a vs → Calls Tryz.prog K (V vs :: cap).toArray W fun e W' => e = .returned (.bool (p a)) ∧ Chg Non W W'
def aggV (vs : List Value) : Value := .agg vs.toArray
def oneV : List Value → Value
 | [v] => v
 | _ => undef
theorem idx_bd {α : Type} (p : α → Bool) (l : List α) : -1 ≤ idxOf p l := by
 unfold idxOf
 split <;> omega
set_option maxRecDepth 100000 in
theorem idxWindows {α : Type} (R : World → α → List Value → Prop) (I : Nat → Prop) (hm : ∀ W W' a vs, Chg Non W W' → R W a vs → R W' a vs) (p : α → Bool) (x : Value) (A : Option Addr) (l : List α) (c : Nat) (w : World)
  (hr : RdL R I 2 w A l) (hf : Asks R aggV l p w 169 [x]) (hc : l.length ≤ c) (hcm : c ≤ maxLen) :
  Calls Tryz.prog 186 #[.slice A l.length c, .func (.func 169) #[] #[x]] w fun e w' => e = .returned (.int .i64 (idxOf p l)) ∧ Chg Non w w' := by
 unfold maxLen at hcm
 have HR := Lib.hid hr
 have HF := Lib.hid hf
 clear hr hf
 go_enter Tryz.func186, Tryz.ntmps186
 go_wp2_with fail
 go_loopw [8] (fun iv wr => ∃ k : Nat, k ≤ l.length ∧ iv = .int .i64 k ∧ Hid (∀ i b, i < k → l[i]? = some b → p b = false) ∧ Hid (Chg Non w wr)) (fun iv _ => l.length - (intOf iv).toNat)
 case atStart => exact ⟨0, Nat.zero_le _, rfl, Lib.hid (fun i b h => by omega), Lib.hid (Chg.refl _ _)⟩
 case round =>
  obtain ⟨k, hk, rfl, HN, HG⟩ := hrel
  by_cases hlt : k < l.length
  ·obtain ⟨a, ha⟩ : ∃ a, l[k]? = some a := ⟨_, List.getElem?_eq_getElem hlt⟩
   obtain ⟨b, o, vs, rfl, _, hlen, hcell0, hR⟩ := HR.out k a ha
   have hcell := range_keepS hcell0 HG.out (fun e => e)
   have HK := Lib.hid (HF.out wr a vs HG.out (List.mem_of_getElem? ha) (hm _ _ _ _ HG.out hR))
   have hltd : decide ((k : Int) < (l.length : Int)) = true := by simpa using hlt
   have HA := Lib.hid ha
   clear ha hR hcell0
   have HC := Lib.hid hcell
   have HL := Lib.hid hlen
   clear hcell hlen
   go_wp2_with (refine sel (some 15) (.load 49 (.tmp 14)) ?_; refine wpList_load_mid rfl 49 (.tmp 14) rfl b (o + k * 2) rfl vs _ HC.out Tryz.underlying49 rfl (by rw [HL.out]; kernel_rfl) ?_)
   refine HK.out.mono ?_
   rintro e u ⟨rfl, hg⟩
   have HG2 := Lib.hid (HG.out.then_non hg)
   clear hg
   cases hp : p a with
   | true =>
    go_wp2_with fail
    go_ret
    exact ⟨ret_i (idx_some HA.out hp HN.out).symm, HG2.out⟩
   | false =>
    have HN2 : Hid (∀ i b, i < k + 1 → l[i]? = some b → p b = false) := Lib.hid (fun i b hi hb => by
      by_cases e : i = k
      · subst e
        rw [HA.out] at hb
        injection hb with hb
        subst hb
        exact hp
      · exact HN.out i b (by omega) hb)
    have HP := Lib.hid hp
    clear hp
    go_wp2_with fail
    exact ⟨⟨k + 1, by omega, by simp, HN2, HG2⟩, by simp [intOf]; omega⟩
  ·obtain rfl : k = l.length := by omega
   have hltd : decide ((l.length : Int) < (l.length : Int)) = false := by simp
   go_wp2_with fail
   go_ret
   exact ⟨ret_i (idx_none HN.out).symm, HG.out⟩
set_option maxRecDepth 100000 in
theorem anyWindows {α : Type} (R : World → α → List Value → Prop) (I : Nat → Prop) (hm : ∀ W W' a vs, Chg Non W W' → R W a vs → R W' a vs) (p : α → Bool) (x : Value) (A : Option Addr) (l : List α) (c : Nat) (w : World)
  (hr : RdL R I 2 w A l) (hf : Asks R aggV l p w 169 [x]) (hc : l.length ≤ c) (hcm : c ≤ maxLen) :
  Calls Tryz.prog 168 #[.slice A l.length c, .func (.func 169) #[] #[x]] w fun e w' => e = .returned (.bool (l.any p)) ∧ Chg Non w w' := by
 have HI := Lib.hid (idxWindows R I hm p x A l c w hr hf hc hcm)
 have HB := Lib.hid (idx_ge p l)
 obtain ⟨j, hj⟩ : ∃ j, idxOf p l = j := ⟨_, rfl⟩
 rw [hj] at HI HB
 clear hr hf hj
 go_enter Tryz.func168, Tryz.ntmps168
 go_wp2_with fail
 refine HI.out.mono ?_
 rintro e u ⟨rfl, hg⟩
 go_wp2_with fail
 go_ret
 exact ⟨ret_b HB.out, hg⟩
set_option maxRecDepth 100000 in
theorem idxPart {α : Type} (R : World → α → List Value → Prop) (I : Nat → Prop) (hm : ∀ W W' a vs, Chg Non W W' → R W a vs → R W' a vs) (p : α → Bool) (x : Value) (A : Option Addr) (l : List α) (c : Nat) (w : World)
  (hr : RdL R I 5 w A l) (hf : Asks R aggV l p w 203 [x]) (hc : l.length ≤ c) (hcm : c ≤ maxLen) :
  Calls Tryz.prog 188 #[.slice A l.length c, .func (.func 203) #[] #[x]] w fun e w' => e = .returned (.int .i64 (idxOf p l)) ∧ Chg Non w w' := by
 unfold maxLen at hcm
 have HR := Lib.hid hr
 have HF := Lib.hid hf
 clear hr hf
 go_enter Tryz.func188, Tryz.ntmps188
 go_wp2_with fail
 go_loopw [8] (fun iv wr => ∃ k : Nat, k ≤ l.length ∧ iv = .int .i64 k ∧ Hid (∀ i b, i < k → l[i]? = some b → p b = false) ∧ Hid (Chg Non w wr)) (fun iv _ => l.length - (intOf iv).toNat)
 case atStart => exact ⟨0, Nat.zero_le _, rfl, Lib.hid (fun i b h => by omega), Lib.hid (Chg.refl _ _)⟩
 case round =>
  obtain ⟨k, hk, rfl, HN, HG⟩ := hrel
  by_cases hlt : k < l.length
  ·obtain ⟨a, ha⟩ : ∃ a, l[k]? = some a := ⟨_, List.getElem?_eq_getElem hlt⟩
   obtain ⟨b, o, vs, rfl, _, hlen, hcell0, hR⟩ := HR.out k a ha
   have hcell := range_keepS hcell0 HG.out (fun e => e)
   have HK := Lib.hid (HF.out wr a vs HG.out (List.mem_of_getElem? ha) (hm _ _ _ _ HG.out hR))
   have hltd : decide ((k : Int) < (l.length : Int)) = true := by simpa using hlt
   have HA := Lib.hid ha
   clear ha hR hcell0
   have HC := Lib.hid hcell
   have HL := Lib.hid hlen
   clear hcell hlen
   go_wp2_with (refine sel (some 15) (.load 83 (.tmp 14)) ?_; refine wpList_load_mid rfl 83 (.tmp 14) rfl b (o + k * 5) rfl vs _ HC.out Tryz.underlying83 rfl (by rw [HL.out]; kernel_rfl) ?_)
   refine HK.out.mono ?_
   rintro e u ⟨rfl, hg⟩
   have HG2 := Lib.hid (HG.out.then_non hg)
   clear hg
   cases hp : p a with
   | true =>
    go_wp2_with fail
    go_ret
    exact ⟨ret_i (idx_some HA.out hp HN.out).symm, HG2.out⟩
   | false =>
    have HN2 : Hid (∀ i b, i < k + 1 → l[i]? = some b → p b = false) := Lib.hid (fun i b hi hb => by
      by_cases e : i = k
      · subst e
        rw [HA.out] at hb
        injection hb with hb
        subst hb
        exact hp
      · exact HN.out i b (by omega) hb)
    have HP := Lib.hid hp
    clear hp
    go_wp2_with fail
    exact ⟨⟨k + 1, by omega, by simp, HN2, HG2⟩, by simp [intOf]; omega⟩
  ·obtain rfl : k = l.length := by omega
   have hltd : decide ((l.length : Int) < (l.length : Int)) = false := by simp
   go_wp2_with fail
   go_ret
   exact ⟨ret_i (idx_none HN.out).symm, HG.out⟩
set_option maxRecDepth 100000 in
theorem idxRegions {α : Type} (R : World → α → List Value → Prop) (I : Nat → Prop) (hm : ∀ W W' a vs, Chg Non W W' → R W a vs → R W' a vs) (p : α → Bool) (A : Option Addr) (l : List α) (c : Nat) (w : World)
  (hr : RdL R I 5 w A l) (hf : Asks R aggV l p w 172 []) (hc : l.length ≤ c) (hcm : c ≤ maxLen) :
  Calls Tryz.prog 188 #[.slice A l.length c, .func (.func 172) #[] #[]] w fun e w' => e = .returned (.int .i64 (idxOf p l)) ∧ Chg Non w w' := by
 unfold maxLen at hcm
 have HR := Lib.hid hr
 have HF := Lib.hid hf
 clear hr hf
 go_enter Tryz.func188, Tryz.ntmps188
 go_wp2_with fail
 go_loopw [8] (fun iv wr => ∃ k : Nat, k ≤ l.length ∧ iv = .int .i64 k ∧ Hid (∀ i b, i < k → l[i]? = some b → p b = false) ∧ Hid (Chg Non w wr)) (fun iv _ => l.length - (intOf iv).toNat)
 case atStart => exact ⟨0, Nat.zero_le _, rfl, Lib.hid (fun i b h => by omega), Lib.hid (Chg.refl _ _)⟩
 case round =>
  obtain ⟨k, hk, rfl, HN, HG⟩ := hrel
  by_cases hlt : k < l.length
  ·obtain ⟨a, ha⟩ : ∃ a, l[k]? = some a := ⟨_, List.getElem?_eq_getElem hlt⟩
   obtain ⟨b, o, vs, rfl, _, hlen, hcell0, hR⟩ := HR.out k a ha
   have hcell := range_keepS hcell0 HG.out (fun e => e)
   have HK := Lib.hid (HF.out wr a vs HG.out (List.mem_of_getElem? ha) (hm _ _ _ _ HG.out hR))
   have hltd : decide ((k : Int) < (l.length : Int)) = true := by simpa using hlt
   have HA := Lib.hid ha
   clear ha hR hcell0
   have HC := Lib.hid hcell
   have HL := Lib.hid hlen
   clear hcell hlen
   go_wp2_with (refine sel (some 15) (.load 83 (.tmp 14)) ?_; refine wpList_load_mid rfl 83 (.tmp 14) rfl b (o + k * 5) rfl vs _ HC.out Tryz.underlying83 rfl (by rw [HL.out]; kernel_rfl) ?_)
   refine HK.out.mono ?_
   rintro e u ⟨rfl, hg⟩
   have HG2 := Lib.hid (HG.out.then_non hg)
   clear hg
   cases hp : p a with
   | true =>
    go_wp2_with fail
    go_ret
    exact ⟨ret_i (idx_some HA.out hp HN.out).symm, HG2.out⟩
   | false =>
    have HN2 : Hid (∀ i b, i < k + 1 → l[i]? = some b → p b = false) := Lib.hid (fun i b hi hb => by
      by_cases e : i = k
      · subst e
        rw [HA.out] at hb
        injection hb with hb
        subst hb
        exact hp
      · exact HN.out i b (by omega) hb)
    have HP := Lib.hid hp
    clear hp
    go_wp2_with fail
    exact ⟨⟨k + 1, by omega, by simp, HN2, HG2⟩, by simp [intOf]; omega⟩
  ·obtain rfl : k = l.length := by omega
   have hltd : decide ((l.length : Int) < (l.length : Int)) = false := by simp
   go_wp2_with fail
   go_ret
   exact ⟨ret_i (idx_none HN.out).symm, HG.out⟩
set_option maxRecDepth 100000 in
theorem anyRegions {α : Type} (R : World → α → List Value → Prop) (I : Nat → Prop) (hm : ∀ W W' a vs, Chg Non W W' → R W a vs → R W' a vs) (p : α → Bool) (A : Option Addr) (l : List α) (c : Nat) (w : World)
  (hr : RdL R I 5 w A l) (hf : Asks R aggV l p w 172 []) (hc : l.length ≤ c) (hcm : c ≤ maxLen) :
  Calls Tryz.prog 171 #[.slice A l.length c, .func (.func 172) #[] #[]] w fun e w' => e = .returned (.bool (l.any p)) ∧ Chg Non w w' := by
 have HI := Lib.hid (idxRegions R I hm p A l c w hr hf hc hcm)
 have HB := Lib.hid (idx_ge p l)
 obtain ⟨j, hj⟩ : ∃ j, idxOf p l = j := ⟨_, rfl⟩
 rw [hj] at HI HB
 clear hr hf hj
 go_enter Tryz.func171, Tryz.ntmps171
 go_wp2_with fail
 refine HI.out.mono ?_
 rintro e u ⟨rfl, hg⟩
 go_wp2_with fail
 go_ret
 exact ⟨ret_b HB.out, hg⟩
set_option maxRecDepth 100000 in
theorem idxChannels {α : Type} (R : World → α → List Value → Prop) (I : Nat → Prop) (hm : ∀ W W' a vs, Chg Non W W' → R W a vs → R W' a vs) (p : α → Bool) (x : Value) (A : Option Addr) (l : List α) (c : Nat) (w : World)
  (hr : RdL R I 5 w A l) (hf : Asks R aggV l p w 175 [x]) (hc : l.length ≤ c) (hcm : c ≤ maxLen) :
  Calls Tryz.prog 189 #[.slice A l.length c, .func (.func 175) #[] #[x]] w fun e w' => e = .returned (.int .i64 (idxOf p l)) ∧ Chg Non w w' := by
 unfold maxLen at hcm
 have HR := Lib.hid hr
 have HF := Lib.hid hf
 clear hr hf
 go_enter Tryz.func189, Tryz.ntmps189
 go_wp2_with fail
 go_loopw [8] (fun iv wr => ∃ k : Nat, k ≤ l.length ∧ iv = .int .i64 k ∧ Hid (∀ i b, i < k → l[i]? = some b → p b = false) ∧ Hid (Chg Non w wr)) (fun iv _ => l.length - (intOf iv).toNat)
 case atStart => exact ⟨0, Nat.zero_le _, rfl, Lib.hid (fun i b h => by omega), Lib.hid (Chg.refl _ _)⟩
 case round =>
  obtain ⟨k, hk, rfl, HN, HG⟩ := hrel
  by_cases hlt : k < l.length
  ·obtain ⟨a, ha⟩ : ∃ a, l[k]? = some a := ⟨_, List.getElem?_eq_getElem hlt⟩
   obtain ⟨b, o, vs, rfl, _, hlen, hcell0, hR⟩ := HR.out k a ha
   have hcell := range_keepS hcell0 HG.out (fun e => e)
   have HK := Lib.hid (HF.out wr a vs HG.out (List.mem_of_getElem? ha) (hm _ _ _ _ HG.out hR))
   have hltd : decide ((k : Int) < (l.length : Int)) = true := by simpa using hlt
   have HA := Lib.hid ha
   clear ha hR hcell0
   have HC := Lib.hid hcell
   have HL := Lib.hid hlen
   clear hcell hlen
   go_wp2_with (refine sel (some 15) (.load 93 (.tmp 14)) ?_; refine wpList_load_mid rfl 93 (.tmp 14) rfl b (o + k * 5) rfl vs _ HC.out Tryz.underlying93 rfl (by rw [HL.out]; kernel_rfl) ?_)
   refine HK.out.mono ?_
   rintro e u ⟨rfl, hg⟩
   have HG2 := Lib.hid (HG.out.then_non hg)
   clear hg
   cases hp : p a with
   | true =>
    go_wp2_with fail
    go_ret
    exact ⟨ret_i (idx_some HA.out hp HN.out).symm, HG2.out⟩
   | false =>
    have HN2 : Hid (∀ i b, i < k + 1 → l[i]? = some b → p b = false) := Lib.hid (fun i b hi hb => by
      by_cases e : i = k
      · subst e
        rw [HA.out] at hb
        injection hb with hb
        subst hb
        exact hp
      · exact HN.out i b (by omega) hb)
    have HP := Lib.hid hp
    clear hp
    go_wp2_with fail
    exact ⟨⟨k + 1, by omega, by simp, HN2, HG2⟩, by simp [intOf]; omega⟩
  ·obtain rfl : k = l.length := by omega
   have hltd : decide ((l.length : Int) < (l.length : Int)) = false := by simp
   go_wp2_with fail
   go_ret
   exact ⟨ret_i (idx_none HN.out).symm, HG.out⟩
set_option maxRecDepth 100000 in
theorem anyChannels {α : Type} (R : World → α → List Value → Prop) (I : Nat → Prop) (hm : ∀ W W' a vs, Chg Non W W' → R W a vs → R W' a vs) (p : α → Bool) (x : Value) (A : Option Addr) (l : List α) (c : Nat) (w : World)
  (hr : RdL R I 5 w A l) (hf : Asks R aggV l p w 175 [x]) (hc : l.length ≤ c) (hcm : c ≤ maxLen) :
  Calls Tryz.prog 174 #[.slice A l.length c, .func (.func 175) #[] #[x]] w fun e w' => e = .returned (.bool (l.any p)) ∧ Chg Non w w' := by
 have HI := Lib.hid (idxChannels R I hm p x A l c w hr hf hc hcm)
 have HB := Lib.hid (idx_ge p l)
 obtain ⟨j, hj⟩ : ∃ j, idxOf p l = j := ⟨_, rfl⟩
 rw [hj] at HI HB
 clear hr hf hj
 go_enter Tryz.func174, Tryz.ntmps174
 go_wp2_with fail
 refine HI.out.mono ?_
 rintro e u ⟨rfl, hg⟩
 go_wp2_with fail
 go_ret
 exact ⟨ret_b HB.out, hg⟩
set_option maxRecDepth 100000 in
theorem idxKAt {α : Type} (R : World → α → List Value → Prop) (I : Nat → Prop) (hm : ∀ W W' a vs, Chg Non W W' → R W a vs → R W' a vs) (p : α → Bool) (x : Value) (A : Option Addr) (l : List α) (c : Nat) (w : World)
  (hr : RdL R I 14 w A l) (hf : Asks R aggV l p w 89 [x]) (hc : l.length ≤ c) (hcm : c ≤ maxLen) :
  Calls Tryz.prog 88 #[.slice A l.length c, .func (.func 89) #[] #[x]] w fun e w' => e = .returned (.int .i64 (idxOf p l)) ∧ Chg Non w w' := by
 unfold maxLen at hcm
 have HR := Lib.hid hr
 have HF := Lib.hid hf
 clear hr hf
 go_enter Tryz.func88, Tryz.ntmps88
 go_wp2_with fail
 go_loopw [8] (fun iv wr => ∃ k : Nat, k ≤ l.length ∧ iv = .int .i64 k ∧ Hid (∀ i b, i < k → l[i]? = some b → p b = false) ∧ Hid (Chg Non w wr)) (fun iv _ => l.length - (intOf iv).toNat)
 case atStart => exact ⟨0, Nat.zero_le _, rfl, Lib.hid (fun i b h => by omega), Lib.hid (Chg.refl _ _)⟩
 case round =>
  obtain ⟨k, hk, rfl, HN, HG⟩ := hrel
  by_cases hlt : k < l.length
  ·obtain ⟨a, ha⟩ : ∃ a, l[k]? = some a := ⟨_, List.getElem?_eq_getElem hlt⟩
   obtain ⟨b, o, vs, rfl, _, hlen, hcell0, hR⟩ := HR.out k a ha
   have hcell := range_keepS hcell0 HG.out (fun e => e)
   have HK := Lib.hid (HF.out wr a vs HG.out (List.mem_of_getElem? ha) (hm _ _ _ _ HG.out hR))
   have hltd : decide ((k : Int) < (l.length : Int)) = true := by simpa using hlt
   have HA := Lib.hid ha
   clear ha hR hcell0
   have HC := Lib.hid hcell
   have HL := Lib.hid hlen
   clear hcell hlen
   go_wp2_with (refine sel (some 15) (.load 69 (.tmp 14)) ?_; refine wpList_load_mid rfl 69 (.tmp 14) rfl b (o + k * 14) rfl vs _ HC.out Tryz.underlying69 rfl (by rw [HL.out]; kernel_rfl) ?_)
   refine HK.out.mono ?_
   rintro e u ⟨rfl, hg⟩
   have HG2 := Lib.hid (HG.out.then_non hg)
   clear hg
   cases hp : p a with
   | true =>
    go_wp2_with fail
    go_ret
    exact ⟨ret_i (idx_some HA.out hp HN.out).symm, HG2.out⟩
   | false =>
    have HN2 : Hid (∀ i b, i < k + 1 → l[i]? = some b → p b = false) := Lib.hid (fun i b hi hb => by
      by_cases e : i = k
      · subst e
        rw [HA.out] at hb
        injection hb with hb
        subst hb
        exact hp
      · exact HN.out i b (by omega) hb)
    have HP := Lib.hid hp
    clear hp
    go_wp2_with fail
    exact ⟨⟨k + 1, by omega, by simp, HN2, HG2⟩, by simp [intOf]; omega⟩
  ·obtain rfl : k = l.length := by omega
   have hltd : decide ((l.length : Int) < (l.length : Int)) = false := by simp
   go_wp2_with fail
   go_ret
   exact ⟨ret_i (idx_none HN.out).symm, HG.out⟩
set_option maxRecDepth 100000 in
theorem idxSPart {α : Type} (R : World → α → List Value → Prop) (I : Nat → Prop) (hm : ∀ W W' a vs, Chg Non W W' → R W a vs → R W' a vs) (p : α → Bool) (x : Value) (A : Option Addr) (l : List α) (c : Nat) (w : World)
  (hr : RdL R I 14 w A l) (hf : Asks R aggV l p w 108 [x]) (hc : l.length ≤ c) (hcm : c ≤ maxLen) :
  Calls Tryz.prog 88 #[.slice A l.length c, .func (.func 108) #[] #[x]] w fun e w' => e = .returned (.int .i64 (idxOf p l)) ∧ Chg Non w w' := by
 unfold maxLen at hcm
 have HR := Lib.hid hr
 have HF := Lib.hid hf
 clear hr hf
 go_enter Tryz.func88, Tryz.ntmps88
 go_wp2_with fail
 go_loopw [8] (fun iv wr => ∃ k : Nat, k ≤ l.length ∧ iv = .int .i64 k ∧ Hid (∀ i b, i < k → l[i]? = some b → p b = false) ∧ Hid (Chg Non w wr)) (fun iv _ => l.length - (intOf iv).toNat)
 case atStart => exact ⟨0, Nat.zero_le _, rfl, Lib.hid (fun i b h => by omega), Lib.hid (Chg.refl _ _)⟩
 case round =>
  obtain ⟨k, hk, rfl, HN, HG⟩ := hrel
  by_cases hlt : k < l.length
  ·obtain ⟨a, ha⟩ : ∃ a, l[k]? = some a := ⟨_, List.getElem?_eq_getElem hlt⟩
   obtain ⟨b, o, vs, rfl, _, hlen, hcell0, hR⟩ := HR.out k a ha
   have hcell := range_keepS hcell0 HG.out (fun e => e)
   have HK := Lib.hid (HF.out wr a vs HG.out (List.mem_of_getElem? ha) (hm _ _ _ _ HG.out hR))
   have hltd : decide ((k : Int) < (l.length : Int)) = true := by simpa using hlt
   have HA := Lib.hid ha
   clear ha hR hcell0
   have HC := Lib.hid hcell
   have HL := Lib.hid hlen
   clear hcell hlen
   go_wp2_with (refine sel (some 15) (.load 69 (.tmp 14)) ?_; refine wpList_load_mid rfl 69 (.tmp 14) rfl b (o + k * 14) rfl vs _ HC.out Tryz.underlying69 rfl (by rw [HL.out]; kernel_rfl) ?_)
   refine HK.out.mono ?_
   rintro e u ⟨rfl, hg⟩
   have HG2 := Lib.hid (HG.out.then_non hg)
   clear hg
   cases hp : p a with
   | true =>
    go_wp2_with fail
    go_ret
    exact ⟨ret_i (idx_some HA.out hp HN.out).symm, HG2.out⟩
   | false =>
    have HN2 : Hid (∀ i b, i < k + 1 → l[i]? = some b → p b = false) := Lib.hid (fun i b hi hb => by
      by_cases e : i = k
      · subst e
        rw [HA.out] at hb
        injection hb with hb
        subst hb
        exact hp
      · exact HN.out i b (by omega) hb)
    have HP := Lib.hid hp
    clear hp
    go_wp2_with fail
    exact ⟨⟨k + 1, by omega, by simp, HN2, HG2⟩, by simp [intOf]; omega⟩
  ·obtain rfl : k = l.length := by omega
   have hltd : decide ((l.length : Int) < (l.length : Int)) = false := by simp
   go_wp2_with fail
   go_ret
   exact ⟨ret_i (idx_none HN.out).symm, HG.out⟩
set_option maxRecDepth 100000 in
theorem idxQueue {α : Type} (R : World → α → List Value → Prop) (I : Nat → Prop) (hm : ∀ W W' a vs, Chg Non W W' → R W a vs → R W' a vs) (p : α → Bool) (x : Value) (A : Option Addr) (l : List α) (c : Nat) (w : World)
  (hr : RdL R I 6 w A l) (hf : Asks R aggV l p w 277 [x]) (hc : l.length ≤ c) (hcm : c ≤ maxLen) :
  Calls Tryz.prog 257 #[.slice A l.length c, .func (.func 277) #[] #[x]] w fun e w' => e = .returned (.int .i64 (idxOf p l)) ∧ Chg Non w w' := by
 unfold maxLen at hcm
 have HR := Lib.hid hr
 have HF := Lib.hid hf
 clear hr hf
 go_enter Tryz.func257, Tryz.ntmps257
 go_wp2_with fail
 go_loopw [8] (fun iv wr => ∃ k : Nat, k ≤ l.length ∧ iv = .int .i64 k ∧ Hid (∀ i b, i < k → l[i]? = some b → p b = false) ∧ Hid (Chg Non w wr)) (fun iv _ => l.length - (intOf iv).toNat)
 case atStart => exact ⟨0, Nat.zero_le _, rfl, Lib.hid (fun i b h => by omega), Lib.hid (Chg.refl _ _)⟩
 case round =>
  obtain ⟨k, hk, rfl, HN, HG⟩ := hrel
  by_cases hlt : k < l.length
  ·obtain ⟨a, ha⟩ : ∃ a, l[k]? = some a := ⟨_, List.getElem?_eq_getElem hlt⟩
   obtain ⟨b, o, vs, rfl, _, hlen, hcell0, hR⟩ := HR.out k a ha
   have hcell := range_keepS hcell0 HG.out (fun e => e)
   have HK := Lib.hid (HF.out wr a vs HG.out (List.mem_of_getElem? ha) (hm _ _ _ _ HG.out hR))
   have hltd : decide ((k : Int) < (l.length : Int)) = true := by simpa using hlt
   have HA := Lib.hid ha
   clear ha hR hcell0
   have HC := Lib.hid hcell
   have HL := Lib.hid hlen
   clear hcell hlen
   go_wp2_with (refine sel (some 15) (.load 95 (.tmp 14)) ?_; refine wpList_load_mid rfl 95 (.tmp 14) rfl b (o + k * 6) rfl vs _ HC.out Tryz.underlying95 rfl (by rw [HL.out]; kernel_rfl) ?_)
   refine HK.out.mono ?_
   rintro e u ⟨rfl, hg⟩
   have HG2 := Lib.hid (HG.out.then_non hg)
   clear hg
   cases hp : p a with
   | true =>
    go_wp2_with fail
    go_ret
    exact ⟨ret_i (idx_some HA.out hp HN.out).symm, HG2.out⟩
   | false =>
    have HN2 : Hid (∀ i b, i < k + 1 → l[i]? = some b → p b = false) := Lib.hid (fun i b hi hb => by
      by_cases e : i = k
      · subst e
        rw [HA.out] at hb
        injection hb with hb
        subst hb
        exact hp
      · exact HN.out i b (by omega) hb)
    have HP := Lib.hid hp
    clear hp
    go_wp2_with fail
    exact ⟨⟨k + 1, by omega, by simp, HN2, HG2⟩, by simp [intOf]; omega⟩
  ·obtain rfl : k = l.length := by omega
   have hltd : decide ((l.length : Int) < (l.length : Int)) = false := by simp
   go_wp2_with fail
   go_ret
   exact ⟨ret_i (idx_none HN.out).symm, HG.out⟩
set_option maxRecDepth 100000 in
theorem idxDo {α : Type} (R : World → α → List Value → Prop) (I : Nat → Prop) (hm : ∀ W W' a vs, Chg Non W W' → R W a vs → R W' a vs) (p : α → Bool) (A : Option Addr) (l : List α) (c : Nat) (w : World)
  (hr : RdL R I 6 w A l) (hf : Asks R aggV l p w 237 []) (hc : l.length ≤ c) (hcm : c ≤ maxLen) :
  Calls Tryz.prog 257 #[.slice A l.length c, .func (.func 237) #[] #[]] w fun e w' => e = .returned (.int .i64 (idxOf p l)) ∧ Chg Non w w' := by
 unfold maxLen at hcm
 have HR := Lib.hid hr
 have HF := Lib.hid hf
 clear hr hf
 go_enter Tryz.func257, Tryz.ntmps257
 go_wp2_with fail
 go_loopw [8] (fun iv wr => ∃ k : Nat, k ≤ l.length ∧ iv = .int .i64 k ∧ Hid (∀ i b, i < k → l[i]? = some b → p b = false) ∧ Hid (Chg Non w wr)) (fun iv _ => l.length - (intOf iv).toNat)
 case atStart => exact ⟨0, Nat.zero_le _, rfl, Lib.hid (fun i b h => by omega), Lib.hid (Chg.refl _ _)⟩
 case round =>
  obtain ⟨k, hk, rfl, HN, HG⟩ := hrel
  by_cases hlt : k < l.length
  ·obtain ⟨a, ha⟩ : ∃ a, l[k]? = some a := ⟨_, List.getElem?_eq_getElem hlt⟩
   obtain ⟨b, o, vs, rfl, _, hlen, hcell0, hR⟩ := HR.out k a ha
   have hcell := range_keepS hcell0 HG.out (fun e => e)
   have HK := Lib.hid (HF.out wr a vs HG.out (List.mem_of_getElem? ha) (hm _ _ _ _ HG.out hR))
   have hltd : decide ((k : Int) < (l.length : Int)) = true := by simpa using hlt
   have HA := Lib.hid ha
   clear ha hR hcell0
   have HC := Lib.hid hcell
   have HL := Lib.hid hlen
   clear hcell hlen
   go_wp2_with (refine sel (some 15) (.load 95 (.tmp 14)) ?_; refine wpList_load_mid rfl 95 (.tmp 14) rfl b (o + k * 6) rfl vs _ HC.out Tryz.underlying95 rfl (by rw [HL.out]; kernel_rfl) ?_)
   refine HK.out.mono ?_
   rintro e u ⟨rfl, hg⟩
   have HG2 := Lib.hid (HG.out.then_non hg)
   clear hg
   cases hp : p a with
   | true =>
    go_wp2_with fail
    go_ret
    exact ⟨ret_i (idx_some HA.out hp HN.out).symm, HG2.out⟩
   | false =>
    have HN2 : Hid (∀ i b, i < k + 1 → l[i]? = some b → p b = false) := Lib.hid (fun i b hi hb => by
      by_cases e : i = k
      · subst e
        rw [HA.out] at hb
        injection hb with hb
        subst hb
        exact hp
      · exact HN.out i b (by omega) hb)
    have HP := Lib.hid hp
    clear hp
    go_wp2_with fail
    exact ⟨⟨k + 1, by omega, by simp, HN2, HG2⟩, by simp [intOf]; omega⟩
  ·obtain rfl : k = l.length := by omega
   have hltd : decide ((l.length : Int) < (l.length : Int)) = false := by simp
   go_wp2_with fail
   go_ret
   exact ⟨ret_i (idx_none HN.out).symm, HG.out⟩
set_option maxRecDepth 100000 in
theorem anyDo {α : Type} (R : World → α → List Value → Prop) (I : Nat → Prop) (hm : ∀ W W' a vs, Chg Non W W' → R W a vs → R W' a vs) (p : α → Bool) (A : Option Addr) (l : List α) (c : Nat) (w : World)
  (hr : RdL R I 6 w A l) (hf : Asks R aggV l p w 237 []) (hc : l.length ≤ c) (hcm : c ≤ maxLen) :
  Calls Tryz.prog 238 #[.slice A l.length c, .func (.func 237) #[] #[]] w fun e w' => e = .returned (.bool (l.any p)) ∧ Chg Non w w' := by
 have HI := Lib.hid (idxDo R I hm p A l c w hr hf hc hcm)
 have HB := Lib.hid (idx_ge p l)
 obtain ⟨j, hj⟩ : ∃ j, idxOf p l = j := ⟨_, rfl⟩
 rw [hj] at HI HB
 clear hr hf hj
 go_enter Tryz.func238, Tryz.ntmps238
 go_wp2_with fail
 refine HI.out.mono ?_
 rintro e u ⟨rfl, hg⟩
 go_wp2_with fail
 go_ret
 exact ⟨ret_b HB.out, hg⟩
set_option maxRecDepth 100000 in
theorem idxMay {α : Type} (R : World → α → List Value → Prop) (I : Nat → Prop) (hm : ∀ W W' a vs, Chg Non W W' → R W a vs → R W' a vs) (p : α → Bool) (x : Value) (A : Option Addr) (l : List α) (c : Nat) (w : World)
  (hr : RdL R I 1 w A l) (hf : Asks R oneV l p w 142 [x]) (hc : l.length ≤ c) (hcm : c ≤ maxLen) :
  Calls Tryz.prog 167 #[.slice A l.length c, .func (.func 142) #[] #[x]] w fun e w' => e = .returned (.int .i64 (idxOf p l)) ∧ Chg Non w w' := by
 unfold maxLen at hcm
 have HR := Lib.hid hr
 have HF := Lib.hid hf
 clear hr hf
 go_enter Tryz.func167, Tryz.ntmps167
 go_wp2_with fail
 go_loopw [8] (fun iv wr => ∃ k : Nat, k ≤ l.length ∧ iv = .int .i64 k ∧ Hid (∀ i b, i < k → l[i]? = some b → p b = false) ∧ Hid (Chg Non w wr)) (fun iv _ => l.length - (intOf iv).toNat)
 case atStart => exact ⟨0, Nat.zero_le _, rfl, Lib.hid (fun i b h => by omega), Lib.hid (Chg.refl _ _)⟩
 case round =>
  obtain ⟨k, hk, rfl, HN, HG⟩ := hrel
  by_cases hlt : k < l.length
  ·obtain ⟨a, ha⟩ : ∃ a, l[k]? = some a := ⟨_, List.getElem?_eq_getElem hlt⟩
   obtain ⟨b, o, vs, rfl, _, hlen, hcell0, hR⟩ := HR.out k a ha
   have hcell := range_keepS hcell0 HG.out (fun e => e)
   have HK := Lib.hid (HF.out wr a vs HG.out (List.mem_of_getElem? ha) (hm _ _ _ _ HG.out hR))
   have hltd : decide ((k : Int) < (l.length : Int)) = true := by simpa using hlt
   have HA := Lib.hid ha
   clear ha hR hcell0
   simp only [Nat.mul_one] at hcell
   obtain ⟨v, rfl⟩ : ∃ v, vs = [v] := by
    match vs, hlen with
    | [v], _ => exact ⟨v, rfl⟩
   have k0 : wr.cell? ⟨b, o + k, none⟩ = some v := by have := hcell 0 v rfl; simpa using this
   clear hcell hlen
   go_wp2_with fail
   refine HK.out.mono ?_
   rintro e u ⟨rfl, hg⟩
   have HG2 := Lib.hid (HG.out.then_non hg)
   clear hg
   cases hp : p a with
   | true =>
    go_wp2_with fail
    go_ret
    exact ⟨ret_i (idx_some HA.out hp HN.out).symm, HG2.out⟩
   | false =>
    have HN2 : Hid (∀ i b, i < k + 1 → l[i]? = some b → p b = false) := Lib.hid (fun i b hi hb => by
      by_cases e : i = k
      · subst e
        rw [HA.out] at hb
        injection hb with hb
        subst hb
        exact hp
      · exact HN.out i b (by omega) hb)
    have HP := Lib.hid hp
    clear hp
    go_wp2_with fail
    exact ⟨⟨k + 1, by omega, by simp, HN2, HG2⟩, by simp [intOf]; omega⟩
  ·obtain rfl : k = l.length := by omega
   have hltd : decide ((l.length : Int) < (l.length : Int)) = false := by simp
   go_wp2_with fail
   go_ret
   exact ⟨ret_i (idx_none HN.out).symm, HG.out⟩
set_option maxRecDepth 100000 in
theorem anyMay {α : Type} (R : World → α → List Value → Prop) (I : Nat → Prop) (hm : ∀ W W' a vs, Chg Non W W' → R W a vs → R W' a vs) (p : α → Bool) (x : Value) (A : Option Addr) (l : List α) (c : Nat) (w : World)
  (hr : RdL R I 1 w A l) (hf : Asks R oneV l p w 142 [x]) (hc : l.length ≤ c) (hcm : c ≤ maxLen) :
  Calls Tryz.prog 144 #[.slice A l.length c, .func (.func 142) #[] #[x]] w fun e w' => e = .returned (.bool (l.any p)) ∧ Chg Non w w' := by
 have HI := Lib.hid (idxMay R I hm p x A l c w hr hf hc hcm)
 have HB := Lib.hid (idx_ge p l)
 obtain ⟨j, hj⟩ : ∃ j, idxOf p l = j := ⟨_, rfl⟩
 rw [hj] at HI HB
 clear hr hf hj
 go_enter Tryz.func144, Tryz.ntmps144
 go_wp2_with fail
 refine HI.out.mono ?_
 rintro e u ⟨rfl, hg⟩
 go_wp2_with fail
 go_ret
 exact ⟨ret_b HB.out, hg⟩
end
end Go.Proofs.YtmnaleaghfbclaaGreatDoor
