/- Walks of the disk: Read, New, Start, Arm. -/
import Derived.Test.YthhbdejagglgbaaGreatDisk
import Derived.Test.YthhbdejagglgbaaGreatFrame2
import Derived.Test.YthhbdejagglgbaaGreatWriter
namespace Go.Proofs.YthhbdejagglgbaaGreat
open Go.RowKit
set_option linter.unusedVariables false

theorem flat_at {sec : List (List UInt8)} (h : ∀ s ∈ sec, s.length = 64) (i : Nat) (hi : i < sec.length) (j : Nat) (hj : j < 64) : sec.flatten[i * 64 + j]? = (sec[i]'hi)[j]? := by
  induction sec generalizing i with
  | nil => simp at hi
  | cons s r ih =>
    have hs := h s (List.mem_cons_self)
    rw [List.flatten_cons]
    cases i with
    | zero => rw [List.getElem?_append_left (by omega)]; simp
    | succ i =>
      rw [List.getElem?_append_right (by omega), hs]
      have := ih (fun t ht => h t (List.mem_cons_of_mem _ ht)) i (by simpa using hi)
      rw [show (i + 1) * 64 + j - 64 = i * 64 + j from by omega, this]
      simp

theorem flat_len {sec : List (List UInt8)} (h : ∀ s ∈ sec, s.length = 64) : sec.flatten.length = sec.length * 64 := by
  induction sec with
  | nil => rfl
  | cons s r ih => rw [List.flatten_cons, List.length_append, h s List.mem_cons_self, ih (fun t ht => h t (List.mem_cons_of_mem _ ht)), List.length_cons]; omega

theorem sec_range {w : World} {ps : Nat} {t : TypeId} {sec : List (List UInt8)} (hb : w.heap[ps]? = some (.cells (sec.flatten.map bv).toArray t (0, 0))) (h : ∀ s ∈ sec, s.length = 64) (i : Nat) (hi : i < sec.length) :
    w.rangeAt ps (i * 64) ((sec[i]'hi).map bv) := by
  intro j v hv
  rw [List.getElem?_map] at hv
  obtain ⟨x, hx, rfl⟩ := Option.map_eq_some_iff.1 hv
  have hl := h _ (List.getElem_mem hi)
  have hj : j < 64 := by rw [← hl]; exact (List.getElem?_eq_some_iff.1 hx).1
  rw [cell_of_row _ _ _ _ _ _ hb]
  simp only [List.getElem?_toArray, List.getElem?_map, flat_at h i hi j hj, hx]
  rfl

theorem secV_size (l : List UInt8) (h : l.length = 64) : (l.map bv).toArray.size = 64 := by simp [h]
theorem secV_one (l : List UInt8) : ((l.map bv).toArray).all (·.oneCell') = true := all_oneCell_toArray (bv_one l)
theorem zSec_one : zSec.all (·.oneCell') = true := by
  have : zSec = ((List.replicate 64 (0 : UInt8)).map bv).toArray := rfl
  rw [this]; exact secV_one _
theorem info_sec : (Tryz.prog.info? 78).map (·.size) = some 64 := by kernel_rfl

/-- which operation: a cheap look ahead of a dear law -/
theorem sel {P : Program} {ops : Array Oper} {rest : List Oper} {a : Act} {w : World} {Q : Exit → Act → World → Prop} (d : Option Tmp) (op : Op) {ty : TypeId} {pos : String} {af : Array Edge} {g : Option (Nat × Bool)}
    (h : wpList P ops Q (⟨d, op, ty, pos, af, g⟩ :: rest) a w) : wpList P ops Q (⟨d, op, ty, pos, af, g⟩ :: rest) a w := h

/-- a whole row stored: the world behind it is a letter -/
theorem wpList_store_rowA {P : Program} {w : World} {ops : Array Oper} {rest : List Oper} {o : Oper} {a : Act} {Q : Exit → Act → World → Prop} (hgd : o.guard = none) (ty : TypeId) (x y : Operand) (ho : o.op = .store ty x y)
    (g : Nat) (cells : Array Value) (hx : a.eval x = .pointer (some ⟨g, 0, none⟩)) (hy : a.eval y = .agg cells)
    (t : TypeId) (old : Array Value) (hg : w.heap[g]? = some (.cells old t (0, 0))) (hi : (P.info? ty).map (·.size) = some cells.size)
    (hold : old.size = cells.size) (h1 : cells.all (·.oneCell') = true)
    (h : ∀ W, Chg (fun k => k = g) w W → W.heap[g]? = some (.cells cells t (0, 0)) → wpList P ops Q rest (a.put o.dst undef) W) : wpList P ops Q (o :: rest) a w :=
  wpList_store_row hgd ty x y ho g cells hx hy t old hg hi hold h1 (h _ ((Chg.refl (fun k => k = g) _).setRow (.inl rfl) _) (setRow_heap _ _ _ _ _ _ hg))

/-- a sector's cells, behind a name -/
def secA (l : List UInt8) : Array Value := (l.map bv).toArray
theorem secA_size (l : List UInt8) (h : l.length = 64) : (secA l).size = 64 := secV_size l h
theorem secA_one (l : List UInt8) : (secA l).all (·.oneCell') = true := secV_one l
theorem wpList_load_sec {w : World} {ops : Array Oper} {rest : List Oper} {op : Oper} {a : Act} {Q : Exit → Act → World → Prop} (hgd : op.guard = none) (x : Operand) (ho : op.op = .load 78 x)
    (b o : Nat) (hx : a.eval x = .pointer (some ⟨b, o, none⟩)) (l : List UInt8) (hc : w.rangeAt b o (l.map bv)) (hl : l.length = 64)
    (h : wpList Tryz.prog ops Q rest (a.put op.dst (.agg (secA l))) w) : wpList Tryz.prog ops Q (op :: rest) a w :=
  wpList_load_mid hgd 78 x ho b o hx (l.map bv) _ hc Tryz.underlying78 rfl (by rw [List.length_map, hl]; exact info_sec) h

theorem own_of_block {W : World} {B g : Nat} {t : TypeId} {l : List UInt8} (h : W.heap[g]? = some (.cells (l.map bv).toArray t (0, 0))) (hB : B ≤ g) : Own B W (some ⟨g, 0, none⟩) l := by
  intro i x hx
  refine ⟨g, 0, rfl, hB, ?_, frozen_of_row _ _ _ _ _ h⟩
  rw [cell_of_row _ _ _ _ _ _ h, Nat.zero_add]
  simp [hx, bv]

set_option maxRecDepth 100000 in
set_option maxHeartbeats 2000000 in
theorem Read_any (pd ps pm : Nat) (D : Dk) (i : Nat) (w : World) (h : IsD w pd ps pm D) (hup : D.up = true) (hi : i < D.sec.length) :
    Calls Tryz.prog 15 #[.pointer (some ⟨pd, 0, none⟩), .int .i64 (i : Int)] w (RetB2 w (D.at_ i) (.int .i64 0)) := by
  obtain ⟨A, c, _, h1, h2, _⟩ := h.cells
  have hok := h.1
  have hrd := ready_ok pd ps pm D w h
  have hr1 : D.ready = 0 := by unfold Dk.ready; rw [hup]; rfl
  rw [hr1] at hrd
  have hhas := has_ok pd ps pm D i w h
  rw [decide_eq_true (show (0 : Int) ≤ i ∧ (i : Int) < D.sec.length from ⟨by omega, by omega⟩)] at hhas
  have HR := Lib.hid hrd
  have HH := Lib.hid hhas
  clear hrd hhas hr1
  have hlen : D.sec.length ≤ 1024 := hok.most
  have hlk := run_lookup h.2.choose_spec.choose_spec.2.2.1 (fun p hp => by have := (hok.keys p hp).1; omega) i (by omega) w rfl true
  have hrg := sec_range h.2.choose_spec.choose_spec.2.1 hok.secs i hi
  have hsl := hok.secs _ (List.getElem_mem hi)
  unfold Dk.at_
  have hcl : ∀ l, look D.cache i = some l → l.length = 64 := by
    intro l hl
    unfold look at hl
    obtain ⟨p, hp, rfl⟩ := Option.map_eq_some_iff.1 hl
    exact (hok.keys p (List.mem_of_find?_eq_some hp)).2
  cases hl : look D.cache i with
  | some l =>
    rw [hl] at hlk
    have hl64 := hcl l hl
    have HL := Lib.hid hl64
    clear hcl hl64 hl
    have HG := Lib.hid hrg
    have HS := Lib.hid hsl
    clear hrg hsl
    simp only [Option.isSome_some, if_true, Option.getD_some] at hlk ⊢
    go_enter Tryz.func15, Tryz.ntmps15
    go_wp2_with fail
    refine HR.out.mono ?_
    rintro e w' ⟨rfl, rfl⟩
    go_wp2_with fail
    refine HH.out.mono ?_
    rintro e w' ⟨rfl, rfl⟩
    go_wp2_with (refine sel none (.store 78 (.tmp 7) (.tmp 25)) ?_; refine wpList_store_row rfl 78 (.tmp 7) (.tmp 25) rfl w.heap.size (l.map bv).toArray rfl rfl 78 _ (heap_alloc_new _ _) (by rw [secV_size l HL.out]; exact info_sec) (by rw [secV_size l HL.out]; rfl) (secV_one l) ?_)
    have hb := setRow_heap (w.alloc (.cells zSec 78)) w.heap.size _ (l.map bv).toArray _ _ (heap_alloc_new _ _)
    have hg : Chg Non w ((w.alloc (.cells zSec 78)).setRow w.heap.size (l.map bv).toArray) := ((Chg.refl _ _).alloc _).setRow (.inr (Nat.le_refl _)) _
    go_ret2
    exact ⟨some ⟨w.heap.size, 0, none⟩, 64, by rw [HL.out]; rfl, by rw [HL.out]; omega, by unfold maxLen; omega, own_of_block hb (Nat.le_refl _), hg⟩
  | none =>
    rw [hl] at hlk
    clear hcl hl
    have HG := Lib.hid hrg
    have HS := Lib.hid hsl
    clear hrg hsl
    have hgd : D.sec.getD i [] = D.sec[i]'hi := by simp [List.getD, List.getElem?_eq_getElem hi]
    simp only [Option.isSome_none, if_true, Option.getD_none, hgd] at hlk ⊢
    clear hgd
    obtain ⟨s, hs⟩ : ∃ s, D.sec[i]'hi = s := ⟨_, rfl⟩
    rw [hs] at HG HS ⊢
    clear hs
    go_enter Tryz.func15, Tryz.ntmps15
    go_wp2_with fail
    refine HR.out.mono ?_
    rintro e w' ⟨rfl, rfl⟩
    go_wp2_with fail
    refine HH.out.mono ?_
    rintro e w' ⟨rfl, rfl⟩
    have hlt := h.lt
    go_wp2_with (first
      | (refine sel none (.store 78 (.tmp 7) (.tmp 25)) ?_
         refine wpList_store_rowA rfl 78 (.tmp 7) (.tmp 25) rfl w.heap.size zSec rfl rfl 78 _ (heap_alloc_new _ _) info_sec rfl zSec_one ?_
         intro W hgW hbW
         have hg1 : Chg Non w W := ((Chg.refl Non w).alloc _).then_new hgW (fun x e => by rw [e]; exact Nat.le_refl _)
         have HBW := Lib.hid hbW
         have HGW := Lib.hid (show W.rangeAt ps (i * 64) (s.map bv) from fun j v hv => hg1.cell_some (HG.out j v hv) (fun e => e))
         have k1 : W.cell? ⟨pd, 1, none⟩ = some (.slice (some ⟨ps, 0, none⟩) D.sec.length D.sec.length) := hg1.cell_some h1 (fun e => e)
         clear hbW hgW)
      | (refine sel (some 35) (.load 78 (.tmp 34)) ?_
         refine wpList_load_sec rfl (.tmp 34) rfl ps (i * 64) rfl s HGW.out HS.out ?_)
      | (refine sel none (.store 78 (.tmp 7) (.tmp 35)) ?_
         refine wpList_store_rowA rfl 78 (.tmp 7) (.tmp 35) rfl w.heap.size (secA s) rfl rfl 78 zSec HBW.out (by rw [secA_size _ HS.out]; exact info_sec) (by rw [secA_size _ HS.out]; rfl) (secA_one _) ?_
         intro W2 hgW2 hbW2
         have hg2 : Chg Non w W2 := hg1.then_new hgW2 (fun x e => by rw [e]; exact Nat.le_refl _)
         have HB2 := Lib.hid hbW2
         clear hbW2 hgW2))
    go_ret2
    exact ⟨some ⟨w.heap.size, 0, none⟩, 64, by rw [HS.out]; rfl, by rw [HS.out]; omega, by unfold maxLen; omega, own_of_block HB2.out (Nat.le_refl _), hg2⟩

set_option maxRecDepth 100000 in
set_option maxHeartbeats 2000000 in
theorem Read_down (pd ps pm : Nat) (D : Dk) (i : Int) (w : World) (h : IsD w pd ps pm D) (hup : D.up = false) :
    Calls Tryz.prog 15 #[.pointer (some ⟨pd, 0, none⟩), .int .i64 i] w fun e w' => e = .returned (.tuple #[.slice none 0 0, .int .i64 60]) ∧ w = w' := by
  have hrd := ready_ok pd ps pm D w h
  have hr1 : D.ready = 60 := by unfold Dk.ready; rw [hup]; rfl
  rw [hr1] at hrd
  have HR := Lib.hid hrd
  clear hrd hr1
  go_enter Tryz.func15, Tryz.ntmps15
  go_wp2_with fail
  refine HR.out.mono ?_
  rintro e w' ⟨rfl, rfl⟩
  go_wp2
  go_ret2
  exact ⟨rfl, rfl⟩

set_option maxRecDepth 100000 in
set_option maxHeartbeats 2000000 in
theorem Read_no_sector (pd ps pm : Nat) (D : Dk) (i : Int) (w : World) (h : IsD w pd ps pm D) (hup : D.up = true) (hi : ¬ (0 ≤ i ∧ i < D.sec.length)) :
    Calls Tryz.prog 15 #[.pointer (some ⟨pd, 0, none⟩), .int .i64 i] w fun e w' => e = .returned (.tuple #[.slice none 0 0, .int .i64 61]) ∧ w = w' := by
  have hrd := ready_ok pd ps pm D w h
  have hr1 : D.ready = 0 := by unfold Dk.ready; rw [hup]; rfl
  rw [hr1] at hrd
  have hh := has_ok pd ps pm D i w h
  rw [decide_eq_false hi] at hh
  have HR := Lib.hid hrd
  have HH := Lib.hid hh
  clear hrd hr1 hh hi
  go_enter Tryz.func15, Tryz.ntmps15
  go_wp2_with fail
  refine HR.out.mono ?_
  rintro e w' ⟨rfl, rfl⟩
  go_wp2_with fail
  refine HH.out.mono ?_
  rintro e w' ⟨rfl, rfl⟩
  go_wp2
  go_ret2
  exact ⟨rfl, rfl⟩

theorem info_sec3 : (Tryz.prog.info? 78).map (fun i => (i.zero, i.size, i.bytes)) = some (some (.agg zSec), 64, 64) := by kernel_rfl

theorem madeSec (n : Nat) : madeCells zSec (n * 64) = ((List.replicate n (List.replicate 64 (0 : UInt8))).flatten.map bv).toArray := by
  apply Array.ext_getElem?
  intro i
  by_cases hi : i < n * 64
  · have hz : ∀ k, k < 64 → zSec[k]? = some (.int .u8 0) := by intro k hk; simp [zSec, hk]
    have h1 : (madeCells zSec (n * 64))[i]? = some (.int .u8 0) := by
      simp only [madeCells, Array.getElem?_map]
      rw [Array.getElem?_range, if_pos hi, Option.map_some, getElem!_def]
      have := hz (i % 64) (Nat.mod_lt _ (by omega))
      have hs : zSec.size = 64 := rfl
      rw [hs, this]
    have h2 : (List.replicate n (List.replicate 64 (0 : UInt8))).flatten[i]? = some 0 := by
      rw [List.flatten_replicate_replicate]
      simp [hi]
    rw [h1, List.getElem?_toArray, List.getElem?_map, h2]
    rfl
  · have h1 : (madeCells zSec (n * 64))[i]? = none := Array.getElem?_eq_none (by rw [size_madeCells]; omega)
    have h2 : ((List.replicate n (List.replicate 64 (0 : UInt8))).flatten.map bv).toArray[i]? = none := Array.getElem?_eq_none (by
      rw [List.flatten_replicate_replicate]; simp; omega)
    rw [h1, h2]

theorem new_ok (n : Nat) (h1 : n ≤ 1024) : (Dk.new n).Ok :=
  ⟨fun s hs => by rw [(List.mem_replicate.1 hs).2, List.length_replicate], fun p hp => (by cases hp), List.nodup_nil, (by simpa [Dk.new] using h1), Int.le_refl _⟩

set_option maxRecDepth 100000 in
set_option maxHeartbeats 2000000 in
theorem New_ok (n : Nat) (w : World) (h1 : 1 ≤ n) (h2 : n ≤ 1024) :
    Calls Tryz.prog 14 #[.int .i64 (n : Int)] w fun e w' => ∃ pd ps pm, e = .returned (.tuple #[.pointer (some ⟨pd, 0, none⟩), .int .i64 0]) ∧ IsD w' pd ps pm (Dk.new n) ∧ w.heap.size ≤ pd ∧ w.heap.size ≤ ps ∧ w.heap.size ≤ pm ∧ Chg Non w w' := by
  obtain ⟨i0, hi0, hz0, hs0, hb0⟩ := info_parts info_sec3
  have hmk : ∀ W : World, (Instr.makeSlice 27 (.int .i64 (n : Int)) (.int .i64 (n : Int))).run Tryz.prog W = .ok (.slice (some ⟨W.heap.size, 0, none⟩) n n) (W.alloc (.cells (((Dk.new n).sec.flatten.map bv).toArray) 78)) := fun W => by
    have h := run_make (P := Tryz.prog) W 27 78 i0 (.agg zSec) Tryz.underlying27 hi0 hz0 .i64 .i64 n n (by omega) (Int.le_refl _) (by rw [hb0]; omega) (by omega)
    rw [h, hs0]
    show Result.ok _ (W.alloc (.cells (madeCells zSec (n * 64)) _)) = _
    rw [madeSec]
    rfl
  have hmm := @run_makeMap Tryz.prog
  obtain ⟨X, hX⟩ : ∃ X, ((Dk.new n).sec.flatten.map bv).toArray = X := ⟨_, rfl⟩
  rw [hX] at hmk
  have HX := Lib.hid hX
  clear hX hi0 hz0 hs0 hb0
  go_enter Tryz.func14, Tryz.ntmps14
  go_wp2
  go_ret2
  have a1 := fun o o' o'' => heap_alloc2_new ((w.alloc o)) o' o''
  have e1 : ∀ o : Obj, (w.alloc o).heap.size = w.heap.size + 1 := fun o => by simp
  have e2 : ∀ o o' : Obj, ((w.alloc o).alloc o').heap.size = w.heap.size + 1 + 1 := fun o o' => by simp
  have b3 : ∀ o o' o'' : Obj, (((w.alloc o).alloc o').alloc o'').heap[w.heap.size + 1 + 1]? = some o'' := fun o o' o'' => by
    have := heap_alloc_new ((w.alloc o).alloc o') o''
    rw [e2] at this
    exact this
  have b2 : ∀ o o' o'' : Obj, (((w.alloc o).alloc o').alloc o'').heap[w.heap.size + 1]? = some o' := fun o o' o'' => by
    rw [Below.heap_alloc ((w.alloc o).alloc o') o'' _ (by rw [e2]; omega)]
    exact heap_alloc2_new w o o'
  have b1 : ∀ o o' o'' : Obj, (((w.alloc o).alloc o').alloc o'').heap[w.heap.size]? = some o := fun o o' o'' => by
    rw [Below.heap_alloc ((w.alloc o).alloc o') o'' _ (by rw [e2]; omega)]
    exact heap_alloc2_old w o o'
  refine ⟨w.heap.size + 1 + 1, w.heap.size, w.heap.size + 1, rfl, ⟨new_ok n h2, none, 0, ?_, ?_, ⟨#[], 0, b2 _ _ _, ⟨by simp, by simp, by simp⟩, rfl⟩, Rd.nil _ _, (fun b o e => by cases e), Nat.le_refl _, by simp⟩, by omega, Nat.le_refl _, by omega, (((Chg.refl _ _).alloc _).alloc _).alloc _⟩
  · rw [b3]
    simp only [dCells, Dk.new, List.length_replicate]
    rfl
  · rw [b1, HX.out]
end Go.Proofs.YthhbdejagglgbaaGreat
