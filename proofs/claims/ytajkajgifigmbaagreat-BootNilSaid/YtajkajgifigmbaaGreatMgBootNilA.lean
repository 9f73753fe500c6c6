/- BootNil, part 1 of 14: contracts of the functions that it reaches, and the laws that they need, merged and shortened (from my texts XBase, XTypes, XBytes, XNum, XWords, XWriter, XWireW, XWrN, XCrc). -/
import Derived.WalkKit
import Derived.WalkSpells
import Derived.WalkLawsBesides
import Derived.Deep.Draws
import Derived.Lib.Hide
import Derived.Deep.QuietTactic
import Derived.BigQuiet
import Derived.IntWalk
import Derived.Test.YtajkajgifigmbaaGreatRows
import Derived.Test.YtajkajgifigmbaaGreatMgBootNilShelf
import Derived.Deep.DeepFit
import Derived.Deep.RegionHeld3
import Derived.Deep.AppendLies
import Derived.OneCell
import Derived.Laws.BitsAllLaws
namespace Go.Proofs.YtajkajgifigmbaaGreat
set_option linter.unusedVariables false
set_option linter.unusedSimpArgs false
set_option maxHeartbeats 8000000
set_option maxRecDepth 100000
section
open Go.RowKit
structure Chg (S : Nat → Prop) (w w' : World) : Prop where
 os : w'.os = w.os
 tape : w'.tape = w.tape
 output : w'.output = w.output
 size : w.heap.size ≤ w'.heap.size
 block : ∀ k, k < w.heap.size → ¬ S k → w'.heap[k]? = w.heap[k]?
def Non : Nat → Prop := fun _ => False
namespace Chg
variable {S T U : Nat → Prop} {a b c w w' : World}
theorem refl (S : Nat → Prop) (w : World) : Chg S w w := ⟨rfl, rfl, rfl, Nat.le_refl _, fun _ _ _ => rfl⟩
theorem trans (h : Chg S a b) (k : Chg T b c) (hS : ∀ x, S x → U x) (hT : ∀ x, x < a.heap.size → T x → U x) : Chg U a c :=
 ⟨k.os.trans h.os, k.tape.trans h.tape, k.output.trans h.output, Nat.le_trans h.size k.size, fun i hi hn =>
   (k.block i (Nat.lt_of_lt_of_le hi h.size) (fun e => hn (hT i hi e))).trans (h.block i hi (fun e => hn (hS i e)))⟩
theorem trans_same (h : Chg S a b) (k : Chg S b c) : Chg S a c := h.trans k (fun _ h => h) (fun _ _ h => h)
theorem then_non (h : Chg S a b) (k : Chg Non b c) : Chg S a c := h.trans k (fun _ h => h) (fun _ _ h => h.elim)
theorem non_then (h : Chg Non a b) (k : Chg S b c) : Chg S a c := h.trans k (fun _ h => h.elim) (fun _ _ h => h)
theorem then_new (h : Chg S a b) (k : Chg T b c) (hT : ∀ x, T x → a.heap.size ≤ x) : Chg S a c := h.trans k (fun _ h => h) (fun x hx h => absurd (hT x h) (by omega))
theorem mono (h : Chg S a b) (hS : ∀ x, S x → T x) : Chg T a b := ⟨h.os, h.tape, h.output, h.size, fun i hi hn => h.block i hi (fun e => hn (hS i e))⟩
theorem of_non (h : Chg Non a b) : Chg S a b := h.mono fun _ e => e.elim
theorem drew (h : Chg S a w) : Chg S a w.drew := ⟨h.os, h.tape, h.output, h.size, h.block⟩
theorem drewN (h : Chg S a w) (n : Nat) : Chg S a (w.drewN n) := ⟨h.os, h.tape, h.output, h.size, h.block⟩
theorem alloc (h : Chg S a w) (o : Obj) : Chg S a (w.alloc o) :=
 ⟨h.os, h.tape, h.output, Nat.le_trans h.size (by simp), fun i hi hn => (Below.heap_alloc w o i (Nat.lt_of_lt_of_le hi h.size)).trans (h.block i hi hn)⟩
theorem setCell (h : Chg S a w) {p : Addr} (hp : S p.block ∨ a.heap.size ≤ p.block) (u : Value) : Chg S a (w.setCell p u) :=
 ⟨h.os, h.tape, h.output, by simpa [World.setCell] using h.size, fun i hi hn => (Below.heap_setCell w p u i (by
   rintro rfl
   rcases hp with hp | hp
   · exact hn hp
   · omega)).trans (h.block i hi hn)⟩
theorem setRow (h : Chg S a w) {g : Nat} (hp : S g ∨ a.heap.size ≤ g) (cs : Array Value) : Chg S a (w.setRow g cs) :=
 ⟨h.os, h.tape, h.output, by simpa [World.setRow] using h.size, fun i hi hn => (setRow_other w g i cs (by
   rintro rfl
   rcases hp with hp | hp
   · exact hn hp
   · omega)).trans (h.block i hi hn)⟩
theorem of_below {B : Nat} (h : Below B w w') (hB : w.heap.size ≤ B) : Chg S w w' := ⟨h.os, h.tape, h.output, h.size, fun i hi _ => h.block i (by omega)⟩
theorem below {B : Nat} (h : Chg S w w') (hS : ∀ k, S k → B ≤ k) (hB : B ≤ w.heap.size) : Below B w w' :=
 ⟨h.os, h.tape, h.output, h.size, fun i hi => h.block i (by omega) (fun e => absurd (hS i e) (by omega))⟩
theorem below_non (h : Chg Non w w') : Below w.heap.size w w' := h.below (fun _ e => e.elim) (Nat.le_refl _)
theorem grown {row : Option Nat} (h : Chg S a w) (hg : w.grownBy w' row) (hr : ∀ g, row = some g → S g ∨ a.heap.size ≤ g) : Chg S a w' :=
 ⟨hg.os.trans h.os, hg.tape.trans h.tape, hg.output.trans h.output, Nat.le_trans h.size hg.size, fun i hi hn =>
   (hg.block i (Nat.lt_of_lt_of_le hi h.size) (fun e => by
     rcases hr i e.symm with h' | h'
     · exact hn h'
     · omega)).trans (h.block i hi hn)⟩
theorem cell (h : Chg S w w') {p : Addr} (hp : p.block < w.heap.size) (hn : ¬ S p.block) : w'.cell? p = w.cell? p := World.cell?_of_block (h.block p.block hp hn)
theorem frozen (h : Chg S w w') {p : Addr} (hp : p.block < w.heap.size) (hn : ¬ S p.block) : w'.frozen? p = w.frozen? p := World.frozen?_of_block (h.block p.block hp hn)
end Chg
theorem lt_of_cell {w : World} {p : Addr} {v : Value} (h : w.cell? p = some v) : p.block < w.heap.size := by
 rcases Nat.lt_or_ge p.block w.heap.size with hlt | hge
 ·exact hlt
 ·simp [World.cell?, Array.getElem?_eq_none hge] at h
theorem Chg.cell_some {S : Nat → Prop} {w w' : World} (h : Chg S w w') {p : Addr} {v : Value} (hc : w.cell? p = some v) (hn : ¬ S p.block) : w'.cell? p = some v :=
 (h.cell (lt_of_cell hc) hn).trans hc
def bv (x : UInt8) : Value := .int .u8 (x.toNat : Int)
def Rd (w : World) (A : Option Addr) (l : List UInt8) : Prop :=
 ∀ (i : Nat) (x : UInt8), l[i]? = some x → ∃ b o, A = some ⟨b, o, none⟩ ∧ w.cell? ⟨b, o + i, none⟩ = some (.int .u8 (x.toNat : Int))
theorem Rd.nil (w : World) (A : Option Addr) : Rd w A [] := fun i x h => by simp at h
theorem Rd.at_ {w : World} {A : Option Addr} {l : List UInt8} (h : Rd w A l) (h0 : 0 < l.length) :
  ∃ b o, A = some ⟨b, o, none⟩ ∧ b < w.heap.size ∧ ∀ i (hi : i < l.length), w.cell? ⟨b, o + i, none⟩ = some (.int .u8 (l[i].toNat : Int)) := by
 obtain ⟨b, o, rfl, hc⟩ := h 0 l[0] (List.getElem?_eq_getElem h0)
 refine ⟨b, o, rfl, lt_of_cell hc, fun i hi => ?_⟩
 obtain ⟨b', o', e, hc'⟩ := h i l[i] (List.getElem?_eq_getElem hi)
 simp only [Option.some.injEq, Addr.mk.injEq, and_true] at e
 obtain ⟨rfl, rfl⟩ := e
 exact hc'
theorem Rd.keep {S : Nat → Prop} {w w' : World} {A : Option Addr} {l : List UInt8} (h : Rd w A l) (hc : Chg S w w') (hn : ∀ b o, A = some ⟨b, o, none⟩ → l ≠ [] → ¬ S b) : Rd w' A l := by
 intro i x hx
 obtain ⟨b, o, rfl, hcell⟩ := h i x hx
 exact ⟨b, o, rfl, hc.cell_some hcell (hn b o rfl (by rintro rfl; simp at hx))⟩
theorem Rd.non {w w' : World} {A : Option Addr} {l : List UInt8} (h : Rd w A l) (hc : Chg Non w w') : Rd w' A l := h.keep hc fun _ _ _ _ e => e.elim
theorem Rd.drop {w : World} {b o : Nat} {l : List UInt8} (h : Rd w (some ⟨b, o, none⟩) l) (k : Nat) : Rd w (some ⟨b, o + k, none⟩) (l.drop k) := by
 intro i x hx
 rw [List.getElem?_drop] at hx
 obtain ⟨b', o', e, hc⟩ := h (k + i) x hx
 simp only [Option.some.injEq, Addr.mk.injEq, and_true] at e
 obtain ⟨rfl, rfl⟩ := e
 exact ⟨b, o + k, rfl, by rw [Nat.add_assoc]; exact hc⟩
theorem Rd.take {w : World} {A : Option Addr} {l : List UInt8} (h : Rd w A l) (k : Nat) : Rd w A (l.take k) := by
 intro i x hx
 have hk : i < k := by have := (List.getElem?_eq_some_iff.1 hx).1; rw [List.length_take] at this; omega
 rw [List.getElem?_take_of_lt hk] at hx
 exact h i x hx
def Own (B : Nat) (w : World) (A : Option Addr) (l : List UInt8) : Prop :=
 ∀ (i : Nat) (x : UInt8), l[i]? = some x → ∃ b o, A = some ⟨b, o, none⟩ ∧ B ≤ b ∧ w.cell? ⟨b, o + i, none⟩ = some (.int .u8 (x.toNat : Int)) ∧ w.frozen? ⟨b, o + i, none⟩ = false
theorem Own.rd {B : Nat} {w : World} {A : Option Addr} {l : List UInt8} (h : Own B w A l) : Rd w A l := fun i x hx => by
 obtain ⟨b, o, e, _, hc, _⟩ := h i x hx
 exact ⟨b, o, e, hc⟩
theorem Own.nil (B : Nat) (w : World) (A : Option Addr) : Own B w A [] := fun i x h => by simp at h
theorem Own.mono {B B' : Nat} {w : World} {A : Option Addr} {l : List UInt8} (h : Own B w A l) (hB : B' ≤ B) : Own B' w A l := fun i x hx => by
 obtain ⟨b, o, e, hb, hc, hf⟩ := h i x hx
 exact ⟨b, o, e, by omega, hc, hf⟩
theorem Own.keep {S : Nat → Prop} {B : Nat} {w w' : World} {A : Option Addr} {l : List UInt8} (h : Own B w A l) (hc : Chg S w w') (hn : ∀ b o, A = some ⟨b, o, none⟩ → B ≤ b → l ≠ [] → ¬ S b) : Own B w' A l := by
 intro i x hx
 obtain ⟨b, o, rfl, hb, hcell, hf⟩ := h i x hx
 have hne := hn b o rfl hb (by rintro rfl; simp at hx)
 exact ⟨b, o, rfl, hb, hc.cell_some hcell hne, (hc.frozen (lt_of_cell hcell) hne).trans hf⟩
theorem Own.non {B : Nat} {w w' : World} {A : Option Addr} {l : List UInt8} (h : Own B w A l) (hc : Chg Non w w') : Own B w' A l := h.keep hc fun _ _ _ _ _ e => e.elim
theorem Own.ge {B : Nat} {w : World} {b o : Nat} {l : List UInt8} (h : Own B w (some ⟨b, o, none⟩) l) (h0 : l ≠ []) : B ≤ b := by
 obtain ⟨x, r, rfl⟩ := List.exists_cons_of_ne_nil h0
 obtain ⟨b', o', e, hb, _⟩ := h 0 x rfl
 simp only [Option.some.injEq, Addr.mk.injEq, and_true] at e
 obtain ⟨rfl, rfl⟩ := e
 exact hb
theorem own_new (w : World) (t : TypeId) (cs : Array Value) (l : List UInt8) (h : cs.toList = l.map bv) : Own w.heap.size (w.alloc (.cells cs t)) (some ⟨w.heap.size, 0, none⟩) l := by
 intro i x hx
 have hb : (w.alloc (.cells cs t)).heap[w.heap.size]? = some (.cells cs t (0, 0)) := (MapKept.heap_alloc w _).1
 have hc : cs[i]? = some (bv x) := by
  rw [← Array.getElem?_toList, h, List.getElem?_map, hx]; rfl
 exact ⟨w.heap.size, 0, rfl, Nat.le_refl _, by rw [Nat.zero_add]; simp only [World.cell?]; rw [hb]; exact hc, by simp only [World.frozen?]; rw [hb]; simp⟩
def RetB (w : World) (l : List UInt8) (e : Ending) (w' : World) : Prop :=
 ∃ A c, e = .returned (.slice A l.length c) ∧ l.length ≤ c ∧ c ≤ maxLen ∧ Own w.heap.size w' A l ∧ Chg Non w w'
theorem RetB.from {w w1 w' : World} {l : List UInt8} {e : Ending} (h : RetB w1 l e w') (hg : Chg Non w w1) : RetB w l e w' := by
 obtain ⟨A, c, he, hc, hm, ho, hg'⟩ := h
 exact ⟨A, c, he, hc, hm, ho.mono hg.size, hg.then_non hg'⟩
theorem quiet_left {P : Program} {f : FuncId} {args : Array Value} {w : World} {n : Nat} {v : Value}
  (h : Calls P f args (w.drewN n) fun e w' => e = .returned v ∧ w.drewN n = w') : Calls P f args (w.drewN n) fun e w'' => e = .returned v ∧ ∃ m, w'' = w.drewN m :=
 h.mono fun _ _ ⟨he, hm⟩ => ⟨he, n, hm.symm⟩
theorem Rd.drewN {w : World} {A : Option Addr} {l : List UInt8} (h : Rd w A l) (n : Nat) : Rd (w.drewN n) A l := h
end
section
open Go.RowKit
theorem info_u8 : (Tryz.prog.info? 5).map (fun i => (i.zero, i.size, i.bytes)) = some (some (.int .u8 0), 1, 1) := by kernel_rfl
theorem madeCells_one (z : Value) (n : Nat) : madeCells #[z] n = Array.replicate n z := by
 apply Array.ext
 ·simp [madeCells]
 ·intro i h1 h2
  simp [madeCells, Nat.mod_one]
theorem mk_bytes (n : Int) (h0 : 0 ≤ n) (h1 : n ≤ 140737488355328) (W : World) :
  (Instr.makeSlice 32 (.int .i64 n) (.int .i64 n)).run Tryz.prog W = .ok (.slice (some ⟨W.heap.size, 0, none⟩) n.toNat n.toNat) (W.alloc (.cells (Array.replicate n.toNat (.int .u8 0)) 5)) := by
 obtain ⟨i, hi, hz, hs, hb⟩ := info_parts info_u8
 have h := run_make (P := Tryz.prog) W 32 5 i (.int .u8 0) Tryz.underlying32 hi hz .i64 .i64 n n h0 (Int.le_refl _) (by rw [hb]; omega) (by omega)
 rw [h, hs, Nat.mul_one]
 show Result.ok _ (W.alloc (.cells (madeCells #[.int .u8 0] n.toNat) _)) = _
 rw [madeCells_one]
end
section
open Go.RowKit
theorem rd_holds {w : World} {A : Option Addr} {l : List UInt8} {c : Nat} (h : Rd w A l) : Lib.HoldsBytes w (.slice A l.length c) l := by
 refine ⟨A, c, rfl, ?_, ?_⟩
 ·rintro rfl
  cases l with
  | nil => rfl
  | cons x r =>
   obtain ⟨b, o, e, _⟩ := h 0 x rfl
   cases e
 ·rintro a rfl i x hx
  obtain ⟨b, o, e, hc⟩ := h i x hx
  injection e with e
  subst e
  rw [show (⟨b, o, none⟩ : Addr).add i = ⟨b, o + i, none⟩ from by unfold Addr.add; split <;> simp_all]
  exact hc
theorem fresh_own {B : Nat} {w : World} {v : Value} {l : List UInt8} (h : Lib.FreshBytes B w v l) : ∃ A c, v = .slice A l.length c ∧ l.length ≤ c ∧ c ≤ maxLen ∧ Own B w A l := by
 obtain ⟨g, cap, zs, rfl, hB, hl, hm, hz, hr, hb, hc, hf⟩ := h
 refine ⟨_, _, rfl, hl, hm, ?_⟩
 intro i x hx
 have hi : i < l.length := (List.getElem?_eq_some_iff.1 hx).1
 refine ⟨g, 0, rfl, hB, ?_, by rw [Nat.zero_add]; exact hf i (by omega)⟩
 rw [Nat.zero_add, hc i (by omega)]
 have hz' : i < zs.length := by omega
 have h1 : zs.getD i 0 = zs[i] := by simp [List.getD, List.getElem?_eq_getElem hz']
 rw [h1]
 have h2 : (Lib.bytesOf (zs.take l.length))[i]? = some x := by rw [hb]; exact hx
 rw [Lib.bytesOf, List.getElem?_map, List.getElem?_take_of_lt hi, List.getElem?_eq_getElem hz'] at h2
 simp only [Option.map_some, Option.some.injEq] at h2
 have h3 := hr zs[i] (List.getElem_mem hz')
 rw [← h2, UInt8.toNat_ofNat']
 congr 2
 omega
def Parts (w : World) (b o : Nat) (ps : List (Option Addr × List UInt8 × Nat)) : Prop :=
 ∀ (i : Nat) p, ps[i]? = some p → w.cell? ⟨b, o + i, none⟩ = some (.slice p.1 p.2.1.length p.2.2) ∧ Rd w p.1 p.2.1
def cat (ps : List (Option Addr × List UInt8 × Nat)) : List UInt8 := (ps.map (·.2.1)).flatten
theorem add_plain (b o i : Nat) : (⟨b, o, none⟩ : Addr).add i = ⟨b, o + i, none⟩ := by unfold Addr.add; split <;> simp_all
theorem intercalate_nil (ls : List (List UInt8)) : Lib.join ls [] = ls.flatten := by
 unfold Lib.join
 induction ls with
 | nil => rfl
 | cons x r ih => cases r with
  | nil => simp [List.intercalate]
  | cons y s => simp only [List.intercalate, List.intersperse_cons_cons, List.flatten_cons, List.nil_append] at ih ⊢; rw [ih]
theorem lens_flatten (ls : List (List UInt8)) : Lib.lens ls = ls.flatten.length := by
 induction ls with
 | nil => rfl
 | cons x r ih => rw [Lib.lens_cons, List.flatten_cons, List.length_append, ih]
theorem RetB.of_fresh {w w' : World} {l : List UInt8} {v : Value} (h : Lib.FreshBytes w.heap.size w' v l) (hb : Below w.heap.size w w') : RetB w l (.returned v) w' := by
 obtain ⟨A, c, rfl, hc, hm, ho⟩ := fresh_own h
 exact ⟨A, c, rfl, hc, hm, ho, .of_below hb (Nat.le_refl _)⟩
theorem Join_any (b o n c : Nat) (ps : List (Option Addr × List UInt8 × Nat)) (w : World) (hn : ps.length = n) (hP : Parts w b o ps) (hcap : n ≤ c) (hlen : (cat ps).length ≤ 140737488355328) (hn47 : n ≤ 140737488355328) :
  Calls Tryz.prog 178 #[.slice (some ⟨b, o, none⟩) n c, .slice none 0 0] w (RetB w (cat ps)) := by
 subst hn
 rcases ps with _ | ⟨p, _ | ⟨q, r⟩⟩
 ·refine (Tryz.bytes_Join_none _ _ _ _).mono ?_
  rintro e w' ⟨rfl, rfl⟩
  exact ⟨some ⟨w.heap.size, 0, none⟩, 0, rfl, Nat.le_refl _, by simp, Own.nil _ _ _, (Chg.refl _ _).alloc _⟩
 ·obtain ⟨h1, h2⟩ := hP 0 p rfl
  obtain ⟨A, l, c'⟩ := p
  simp only [cat, List.map_cons, List.map_nil, List.flatten_cons, List.flatten_nil, List.append_nil, List.length_cons, List.length_nil, Nat.add_zero, Nat.zero_add] at *
  rcases Nat.eq_zero_or_pos l.length with h0 | h0
  ·obtain rfl : l = [] := List.eq_nil_of_length_eq_zero h0
   refine (Tryz.bytes_Join_one_empty b o c A c' _ w h1).mono ?_
   rintro e w' ⟨rfl, rfl⟩
   exact ⟨none, 0, rfl, Nat.le_refl _, by simp, Own.nil _ _ _, Chg.refl _ _⟩
  ·obtain ⟨b', o', rfl, hb', hc'⟩ := h2.at_ h0
   refine (Tryz.bytes_Join_one b o c ⟨b', o', none⟩ c' l _ w h1 ?_ h0 hlen).mono ?_
   ·intro i x hx
    obtain ⟨hi, rfl⟩ := List.getElem?_eq_some_iff.1 hx
    rw [add_plain]
    exact hc' i hi
   ·rintro e w' ⟨v, rfl, hf, hb⟩
    exact RetB.of_fresh hf hb
 ·have hj : Lib.join ((p :: q :: r).map (·.2.1)) [] = cat (p :: q :: r) := intercalate_nil _
  have hll : Lib.lens ((p :: q :: r).map (·.2.1)) = (cat (p :: q :: r)).length := lens_flatten _
  refine (Tryz.bytes_Join_many b o (p :: q :: r).length c ((p :: q :: r).map fun p => Value.slice p.1 p.2.1.length p.2.2) ((p :: q :: r).map (·.2.1)) _ [] w (by simp) (by simp) ?_ hcap ?_ hn47 ?_).mono ?_
  ·refine ⟨by simp, ?_, ?_⟩
   ·intro i v hv
    rw [List.getElem?_map] at hv
    obtain ⟨x, hx, rfl⟩ := Option.map_eq_some_iff.1 hv
    rw [add_plain]
    exact (hP i x hx).1
   ·intro i v l hv hl
    rw [List.getElem?_map] at hv hl
    obtain ⟨x, hx, rfl⟩ := Option.map_eq_some_iff.1 hv
    obtain ⟨y, hy, rfl⟩ := Option.map_eq_some_iff.1 hl
    rw [hx] at hy
    injection hy with hy
    subst hy
    exact rd_holds (hP i x hx).2
  ·exact ⟨none, 0, rfl, fun _ => rfl, fun a h => by cases h⟩
  ·rw [hll]; simpa using hlen
  ·rintro e w' ⟨v, rfl, hf, hb⟩
   rw [hj] at hf
   exact RetB.of_fresh hf hb
theorem Cat_any (b o n c : Nat) (ps : List (Option Addr × List UInt8 × Nat)) (w : World) (hn : ps.length = n) (hP : Parts w b o ps) (hcap : n ≤ c) (hlen : (cat ps).length ≤ 140737488355328) (hn47 : n ≤ 140737488355328) :
  Calls Tryz.prog 104 #[.slice (some ⟨b, o, none⟩) n c] w (RetB w (cat ps)) := by
 go_enter Tryz.func104, Tryz.ntmps104
 go_wp2_with fail
 refine (Join_any b o n c ps w hn hP hcap hlen hn47).mono ?_
 rintro e w' ⟨A, c', rfl, hr⟩
 go_wp2
 go_ret
 exact ⟨A, c', rfl, hr⟩
theorem parts_new (w : World) (t : TypeId) (ps : List (Option Addr × List UInt8 × Nat)) (h : ∀ p ∈ ps, Rd w p.1 p.2.1) :
  Parts (w.alloc (.cells (ps.map fun p => Value.slice p.1 p.2.1.length p.2.2).toArray t)) w.heap.size 0 ps := by
 intro i p hp
 have hm : p ∈ ps := List.mem_of_getElem? hp
 refine ⟨?_, (h p hm).non ((Chg.refl _ _).alloc _)⟩
 rw [Nat.zero_add]
 simp only [World.cell?]
 rw [heap_alloc_new]
 simp [hp]
theorem Cat1 (A1 : Option Addr) (l1 : List UInt8) (c1 : Nat) (t : TypeId) (w : World) (g : Nat) (hg : w.heap.size = g) (h1 : Rd w A1 l1) (hl : l1.length ≤ 140737488355328) :
  Calls Tryz.prog 104 #[.slice (some ⟨g, 0, none⟩) 1 1] (w.alloc (.cells #[.slice A1 l1.length c1] t)) (RetB w l1) := by
 subst hg
 have hp := parts_new w t [(A1, l1, c1)] (by simpa using h1)
 refine (Cat_any w.heap.size 0 1 1 [(A1, l1, c1)] _ rfl hp (by omega) (by simpa [cat] using hl) (by omega)).mono ?_
 intro e w' h
 have : cat [(A1, l1, c1)] = l1 := by simp [cat]
 rw [this] at h
 exact h.from ((Chg.refl _ _).alloc _)
theorem Cat2 (A1 A2 : Option Addr) (l1 l2 : List UInt8) (c1 c2 : Nat) (t : TypeId) (w : World) (g : Nat) (hg : w.heap.size = g) (h1 : Rd w A1 l1) (h2 : Rd w A2 l2) (hl : l1.length + l2.length ≤ 140737488355328) (m : List UInt8) (hm : l1 ++ l2 = m) :
  Calls Tryz.prog 104 #[.slice (some ⟨g, 0, none⟩) 2 2] (w.alloc (.cells #[.slice A1 l1.length c1, .slice A2 l2.length c2] t)) (RetB w m) := by
 subst hm
 subst hg
 have hp := parts_new w t [(A1, l1, c1), (A2, l2, c2)] (by simpa using ⟨h1, h2⟩)
 refine (Cat_any w.heap.size 0 2 2 [(A1, l1, c1), (A2, l2, c2)] _ rfl hp (by omega) (by simpa [cat] using hl) (by omega)).mono ?_
 intro e w' h
 have : cat [(A1, l1, c1), (A2, l2, c2)] = l1 ++ l2 := by simp [cat]
 rw [this] at h
 exact h.from ((Chg.refl _ _).alloc _)
theorem Cat3 (A1 A2 A3 : Option Addr) (l1 l2 l3 : List UInt8) (c1 c2 c3 : Nat) (t : TypeId) (w : World) (g : Nat) (hg : w.heap.size = g) (h1 : Rd w A1 l1) (h2 : Rd w A2 l2) (h3 : Rd w A3 l3) (hl : l1.length + l2.length + l3.length ≤ 140737488355328) (m : List UInt8) (hm : l1 ++ l2 ++ l3 = m) :
  Calls Tryz.prog 104 #[.slice (some ⟨g, 0, none⟩) 3 3] (w.alloc (.cells #[.slice A1 l1.length c1, .slice A2 l2.length c2, .slice A3 l3.length c3] t)) (RetB w m) := by
 subst hm
 subst hg
 have hp := parts_new w t [(A1, l1, c1), (A2, l2, c2), (A3, l3, c3)] (by simpa using ⟨h1, h2, h3⟩)
 refine (Cat_any w.heap.size 0 3 3 [(A1, l1, c1), (A2, l2, c2), (A3, l3, c3)] _ rfl hp (by omega) (by simp [cat]; omega) (by omega)).mono ?_
 intro e w' h
 have : cat [(A1, l1, c1), (A2, l2, c2), (A3, l3, c3)] = l1 ++ l2 ++ l3 := by simp [cat]
 rw [this] at h
 exact h.from ((Chg.refl _ _).alloc _)
theorem conv_str (A : Option Addr) (l : List UInt8) (c : Nat) (w : World) (h : Rd w A l) :
  (convert 32 9 (.slice A l.length c)).run Tryz.prog w = .ok (.string ⟨l.toArray⟩) w := by
 rcases Nat.eq_zero_or_pos l.length with h0 | h0
 ·obtain rfl : l = [] := List.eq_nil_of_length_eq_zero h0
  cases A with
  | none => exact run_convert_bytes_nil w _ _ Tryz.underlying32 Tryz.underlying5 _ _ _ Tryz.underlying9
  | some a =>
   have hl : (loadCells a 0).run Tryz.prog w = .ok (([] : List Int).map (Value.int .u8)).toArray w := run_loadCells_list (P := Tryz.prog) w a [] (fun j v hj => by simp at hj)
   show (convert 32 9 (.slice (some a) 0 c)).run Tryz.prog w = _
   rw [run_convert_bytes_string w _ _ _ _ 0 c Tryz.underlying32 Tryz.underlying5 Tryz.underlying9, run_bytesToString w _ 0 c [] hl]
   rfl
 ·obtain ⟨b, o, rfl, hb, hc⟩ := h.at_ h0
  rw [run_convert_bytes_arg w _ _ Tryz.underlying32 Tryz.underlying5 b o l.length c (l.map fun x => (x.toNat : Int)) (by simp) (fun i hi => by rw [hc i hi]; simp [List.getD, List.getElem?_eq_getElem hi]) _ Tryz.underlying9]
  congr 2
  unfold strOfNums
  congr 2
  rw [List.map_map]
  conv => rhs; rw [← List.map_id l]
  apply List.map_congr_left
  intro x _
  simp
theorem compare_zero (a b : List UInt8) : (Lib.compareBytes a b == 0) = decide (a = b) := by
 induction a generalizing b with
 | nil => cases b <;> simp [Lib.compareBytes]
 | cons x r ih =>
  cases b with
  | nil => simp [Lib.compareBytes]
  | cons y t =>
   unfold Lib.compareBytes
   by_cases h1 : x < y
   ·have : x ≠ y := by rintro rfl; exact absurd h1 (by simp)
    simp [h1, this]
   ·by_cases h2 : y < x
    ·have : x ≠ y := by rintro rfl; exact absurd h2 (by simp)
     simp [h1, h2, this]
    ·have : x = y := by
      apply UInt8.toNat_inj.1
      rw [UInt8.lt_iff_toNat_lt] at h1 h2
      omega
     subst this
     simp only [h1, if_false, ih]
     simp
theorem Same_any (A B : Option Addr) (l m : List UInt8) (c d : Nat) (w : World) (h : Rd w A l) (k : Rd w B m) :
  Calls Tryz.prog 53 #[.slice A l.length c, .slice B m.length d] w fun e w' => e = .returned (.bool (decide (l = m))) ∧ w = w' := by
 have h1 := conv_str A l c w h
 have h2 := conv_str B m d w k
 go_enter Tryz.func53, Tryz.ntmps53
 go_wp2_with (go_at_call 124; refine (Tryz.strings_Compare _ _ _).mono ?_; rintro e w' ⟨rfl, rfl⟩)
 go_ret
 refine ⟨?_, rfl⟩
 rw [← compare_zero]
 rfl
theorem Clone_any (A : Option Addr) (l : List UInt8) (c : Nat) (w : World) (h : Rd w A l) (hlen : l.length ≤ 140737488355328) :
  Calls Tryz.prog 81 #[.slice A l.length c] w (RetB w l) := by
 rcases Nat.eq_zero_or_pos l.length with h0 | h0
 ·obtain rfl : l = [] := List.eq_nil_of_length_eq_zero h0
  cases A with
  | none =>
   refine (Tryz.bytes_Clone_nil _ _ _).mono ?_
   rintro e w' ⟨rfl, rfl⟩
   exact ⟨none, 0, rfl, Nat.le_refl _, by simp, Own.nil _ _ _, Chg.refl _ _⟩
  | some a =>
   refine (Tryz.bytes_Clone_at a 0 c [] w rfl (by omega) (fun i hi => absurd hi (by omega))).mono ?_
   rintro e w' ⟨v, rfl, hown, hne, hb⟩
   rcases hown.2 with ⟨rfl, _⟩ | ⟨g, cap, cur, rfl, _, _, _, hm, _⟩
   ·exact absurd rfl hne
   ·exact ⟨_, cap, rfl, by simp, hm, Own.nil _ _ _, .of_below hb (Nat.le_refl _)⟩
 ·obtain ⟨b, o, rfl, hb, hc⟩ := h.at_ h0
  refine (Tryz.bytes_Clone_at ⟨b, o, none⟩ l.length c (l.map fun x => (x.toNat : Int)) w (by simp) hlen (fun i hi => ?_)).mono ?_
  ·rw [add_plain, hc i hi]
   simp [List.getD, List.getElem?_eq_getElem hi]
  ·rintro e w' ⟨v, rfl, hown, hne, hb'⟩
   rcases hown.2 with ⟨rfl, _⟩ | ⟨g, cap, cur, rfl, hg, hh, hn, hm, hsz, htk⟩
   ·exact absurd rfl hne
   ·refine ⟨_, cap, rfl, hn, hm, ?_, .of_below hb' (Nat.le_refl _)⟩
    intro i x hx
    have hi : i < l.length := (List.getElem?_eq_some_iff.1 hx).1
    have hcell : cur[i]? = some (.int .u8 (x.toNat : Int)) := by
     have h2 : (cur.toList.take (l.length * 1))[i]? = some (.int .u8 (x.toNat : Int)) := by
      rw [htk]; simp [hx]
     rw [List.getElem?_take_of_lt (by omega)] at h2
     simpa using h2
    exact ⟨g, 0, rfl, hg, by rw [Nat.zero_add]; simp only [World.cell?]; rw [hh]; exact hcell, by simp only [World.frozen?]; rw [hh]; simp⟩
end
section
def be (x : Nat) : Nat → List UInt8
 | 0 => []
 | n + 1 => be (x / 256) n ++ [UInt8.ofNat x]
def num (l : List UInt8) : Nat := l.foldl (fun a d => 256 * a + d.toNat) 0
theorem be_length (x n : Nat) : (be x n).length = n := by
 induction n generalizing x with
 | zero => rfl
 | succ n ih => simp [be, ih]
theorem num_snoc (l : List UInt8) (d : UInt8) : num (l ++ [d]) = 256 * num l + d.toNat := by simp [num]
theorem ofNat_toNat (x : Nat) : (UInt8.ofNat x).toNat = x % 256 := by simp
theorem num_lt (l : List UInt8) : num l < 256 ^ l.length := by
 suffices h : ∀ n (l : List UInt8), l.length = n → num l < 256 ^ n from h _ l rfl
 intro n
 induction n with
 | zero => intro l h; have := List.eq_nil_of_length_eq_zero h; subst this; simp [num]
 | succ n ih =>
  intro l h
  have hne : l ≠ [] := by rintro rfl; simp at h
  obtain ⟨r, d, rfl⟩ : ∃ r d, l = r ++ [d] := ⟨l.dropLast, l.getLast hne, (List.dropLast_concat_getLast hne).symm⟩
  have hr : r.length = n := by simpa using h
  have hd := d.toNat_lt
  have := ih r hr
  rw [num_snoc, Nat.pow_succ]
  omega
theorem num_take_snoc (l : List UInt8) (k : Nat) (h : k < l.length) : num (l.take (k + 1)) = 256 * num (l.take k) + l[k].toNat := by
 rw [List.take_succ_eq_append_getElem h, num_snoc]
theorem num_take_lt (l : List UInt8) (k : Nat) (h : k ≤ l.length) : num (l.take k) < 256 ^ k := by
 have := num_lt (l.take k)
 rw [List.length_take, Nat.min_eq_left h] at this
 exact this
end
section
open Go.RowKit
theorem be4 (x : Nat) : be x 4 = [UInt8.ofNat (x / 256 / 256 / 256), UInt8.ofNat (x / 256 / 256), UInt8.ofNat (x / 256), UInt8.ofNat x] := rfl
theorem be8 (x : Nat) : be x 8 = [UInt8.ofNat (x / 256 / 256 / 256 / 256 / 256 / 256 / 256), UInt8.ofNat (x / 256 / 256 / 256 / 256 / 256 / 256), UInt8.ofNat (x / 256 / 256 / 256 / 256 / 256), UInt8.ofNat (x / 256 / 256 / 256 / 256),
  UInt8.ofNat (x / 256 / 256 / 256), UInt8.ofNat (x / 256 / 256), UInt8.ofNat (x / 256), UInt8.ofNat x] := rfl
theorem bv_ofNat (x : Nat) : bv (UInt8.ofNat x) = .int .u8 ((x : Int) % 256) := by
 simp only [bv, ofNat_toNat]; rfl
theorem Row4 (x : Nat) (w : World) (h1 : x < 18446744073709551616) :
  Calls Tryz.prog 247 #[.int .u64 x, .int .i64 4] w (RetB w (be x 4)) := by
 have hmk : ∀ W : World, (Instr.makeSlice 32 (.int .i64 4) (.int .i64 4)).run Tryz.prog W = .ok (.slice (some ⟨W.heap.size, 0, none⟩) 4 4) (W.alloc (.cells #[.int .u8 0, .int .u8 0, .int .u8 0, .int .u8 0] 5)) := mk_bytes 4 (by omega) (by omega)
 have h0 : (0 : Int) ≤ x := by omega
 have h2 : (x : Int) < 18446744073709551616 := by omega
 go_enter Tryz.func247, Tryz.ntmps247
 go_wp2
 refine wp_loop_rounds 5 ?_
 rw [rounds_succ]
 go_wp2
 rw [rounds_succ]
 go_wp2
 rw [rounds_succ]
 go_wp2
 rw [rounds_succ]
 go_wp2
 rw [rounds_succ]
 go_wp2
 go_ret
 refine ⟨some ⟨w.heap.size, 0, none⟩, 4, by rw [be_length]; rfl, by rw [be_length]; omega, by unfold maxLen; omega, own_new _ _ _ _ ?_, (Chg.refl _ _).alloc _⟩
 simp only [be4, List.map_cons, List.map_nil, bv_ofNat]
 rfl
theorem Row8 (x : Nat) (w : World) (h1 : x < 18446744073709551616) :
  Calls Tryz.prog 247 #[.int .u64 x, .int .i64 8] w (RetB w (be x 8)) := by
 have hmk : ∀ W : World, (Instr.makeSlice 32 (.int .i64 8) (.int .i64 8)).run Tryz.prog W = .ok (.slice (some ⟨W.heap.size, 0, none⟩) 8 8) (W.alloc (.cells #[.int .u8 0, .int .u8 0, .int .u8 0, .int .u8 0, .int .u8 0, .int .u8 0, .int .u8 0, .int .u8 0] 5)) := mk_bytes 8 (by omega) (by omega)
 have h0 : (0 : Int) ≤ x := by omega
 have h2 : (x : Int) < 18446744073709551616 := by omega
 go_enter Tryz.func247, Tryz.ntmps247
 go_wp2
 refine wp_loop_rounds 9 ?_
 iterate 9
  rw [rounds_succ]
  go_wp2
 go_ret
 refine ⟨some ⟨w.heap.size, 0, none⟩, 8, by rw [be_length]; rfl, by rw [be_length]; omega, by unfold maxLen; omega, own_new _ _ _ _ ?_, (Chg.refl _ _).alloc _⟩
 have e : ((x / 256 / 256 / 256 / 256 / 256 / 256 / 256 : Nat) : Int) % 256 = (x : Int) / 256 / 256 / 256 / 256 / 256 / 256 / 256 := by omega
 simp only [be8, List.map_cons, List.map_nil, bv_ofNat, e]
 rfl
theorem Put32 (x : Nat) (w : World) (h1 : x < 4294967296) :
  Calls Tryz.prog 182 #[.int .u32 x] w (RetB w (be x 4)) := by
 have h0 : (0 : Int) ≤ x := by omega
 have h2 : (x : Int) < 4294967296 := by omega
 go_enter Tryz.func182, Tryz.ntmps182
 go_wp2_with fail
 refine (Row4 x w (by omega)).mono ?_
 rintro e w' ⟨A, c, rfl, hc, hm, ho, hg⟩
 go_wp2
 go_ret
 exact ⟨A, c, rfl, hc, hm, ho, hg⟩
theorem Put64 (x : Nat) (w : World) (h1 : x < 18446744073709551616) :
  Calls Tryz.prog 179 #[.int .u64 x] w (RetB w (be x 8)) := by
 go_enter Tryz.func179, Tryz.ntmps179
 go_wp2_with fail
 refine (Row8 x w (by omega)).mono ?_
 rintro e w' ⟨A, c, rfl, hc, hm, ho, hg⟩
 go_wp2
 go_ret
 exact ⟨A, c, rfl, hc, hm, ho, hg⟩
theorem intEq {k : IntKind} {a b : Int} (h : a = b) : Value.int k a = Value.int k b := by rw [h]
theorem Number_ok (A : Option Addr) (l : List UInt8) (c : Nat) (w : World) (hr : Rd w A l) (h1 : 1 ≤ l.length) (h8 : l.length ≤ 8) :
  Calls Tryz.prog 345 #[.slice A l.length c] w fun e w' => e = .returned (.tuple #[.int .u64 (num l : Nat), .bool true]) ∧ w = w' := by
 obtain ⟨b, o, rfl, hb, hc⟩ := hr.at_ (by omega)
 have HC := Lib.hid hc
 clear hc
 have g1 : decide ((l.length : Int) < 1) = false := by simp; omega
 have g2 : decide ((l.length : Int) > 8) = false := by simp; omega
 go_enter Tryz.func345, Tryz.ntmps345
 go_wp2
 go_loop [4, 17] (fun x i => ∃ k : Nat, k ≤ l.length ∧ i = .int .i64 k ∧ x = .int .u64 (num (l.take k) : Nat)) (fun _ i => l.length - (intOf i).toNat)
 case atStart => exact ⟨0, Nat.zero_le _, rfl, rfl⟩
 case round =>
  obtain ⟨k, hk, rfl, rfl⟩ := hrel
  by_cases hlt : k < l.length
  ·have hcell := HC.out k hlt
   have hd := (l[k]'hlt).toNat_lt
   have hn : num (l.take k) < 72057594037927936 := by
    have h1 := num_take_lt l k hk
    have h2 : 256 ^ k ≤ 256 ^ 7 := Nat.pow_le_pow_right (by omega) (by omega)
    omega
   have HS := num_take_snoc l k hlt
   obtain ⟨d, hd'⟩ : ∃ d : Nat, (l[k]'hlt).toNat = d := ⟨_, rfl⟩
   rw [hd'] at hcell hd HS
   clear hd'
   obtain ⟨v, hv⟩ : ∃ v : Nat, num (l.take k) = v := ⟨_, rfl⟩
   rw [hv] at hn HS ⊢
   clear hv
   replace HS := Lib.hid HS
   go_wp2
   go_round
   case rel => exact ⟨k + 1, by omega, by go_num, by rw [HS.out]; exact intEq (by omega)⟩
   case measure => simp [intOf]; omega
  ·go_wp2
   go_ret2
   refine ⟨?_, rfl⟩
   have e : l.take k = l := List.take_of_length_le (by omega)
   rw [e]
   rfl
theorem load_ok (A : Option Addr) (l : List UInt8) (c n : Nat) (w : World) (hr : Rd w A l) (hl : l.length = n) (h1 : 1 ≤ n) (h8 : n ≤ 8) (hcap : n ≤ c) (hc63 : c ≤ 9223372036854775807) :
  Calls Tryz.prog 318 #[.slice A n c, .int .i64 0, .int .i64 n] w fun e w' => e = .returned (.tuple #[.int .u64 (num l : Nat), .bool true]) ∧ w = w' := by
 subst hl
 obtain ⟨b, o, rfl, hb, hc⟩ := hr.at_ (by omega)
 clear hc
 go_enter Tryz.func318, Tryz.ntmps318
 go_wp2_with fail
 refine (Number_ok _ l c _ hr h1 h8).mono ?_
 rintro e w' ⟨rfl, rfl⟩
 go_wp2
 go_ret2
 exact ⟨rfl, rfl⟩
theorem Load64_ok (A : Option Addr) (l : List UInt8) (c : Nat) (w : World) (hr : Rd w A l) (hl : l.length = 8) (hcap : 8 ≤ c) (hc63 : c ≤ 9223372036854775807) :
  Calls Tryz.prog 257 #[.slice A 8 c, .int .i64 0] w fun e w' => e = .returned (.tuple #[.int .u64 (num l : Nat), .bool true]) ∧ w = w' := by
 go_enter Tryz.func257, Tryz.ntmps257
 go_wp2_with fail
 refine (load_ok _ l c 8 _ hr hl (by omega) (by omega) hcap hc63).mono ?_
 rintro e w' ⟨rfl, rfl⟩
 go_wp2
 go_ret2
 exact ⟨rfl, rfl⟩
theorem Load32_ok (A : Option Addr) (l : List UInt8) (c : Nat) (w : World) (hr : Rd w A l) (hl : l.length = 4) (hcap : 4 ≤ c) (hc63 : c ≤ 9223372036854775807) :
  Calls Tryz.prog 248 #[.slice A 4 c, .int .i64 0] w fun e w' => e = .returned (.tuple #[.int .u32 (num l : Nat), .bool true]) ∧ w = w' := by
 have hn := num_lt l
 rw [hl] at hn
 have h2 : (num l : Int) < 4294967296 := by omega
 go_enter Tryz.func248, Tryz.ntmps248
 go_wp2_with fail
 refine (load_ok _ l c 4 _ hr hl (by omega) (by omega) hcap hc63).mono ?_
 rintro e w' ⟨rfl, rfl⟩
 go_wp2
 go_ret2
 exact ⟨rfl, rfl⟩
end
section
open Go.RowKit
def IsW (B : Nat) (w : World) (p : Nat) (l : List UInt8) (er : Int) : Prop :=
 B ≤ p ∧ ∃ v, w.heap[p]? = some (.cells #[v, .bool true, .int .i64 er] 229 (0, 0)) ∧ w.ownsRow B 5 1 v l.length (l.map bv)
theorem wnone_any (p : Nat) (v : Value) (er : Int) (w : World) (hb : w.heap[p]? = some (.cells #[v, .bool true, .int .i64 er] 229 (0, 0))) :
  Calls Tryz.prog 172 #[.pointer (some ⟨p, 0, none⟩)] w fun e w' => e = .returned (.bool false) ∧ w = w' := by
 have h1 : w.cell? ⟨p, 1, none⟩ = some (.bool true) := by rw [cell_of_row _ _ _ _ _ _ hb]; rfl
 clear hb
 go_enter Tryz.func172, Tryz.ntmps172
 go_wp2
 go_ret
 exact ⟨rfl, rfl⟩
theorem NewWriter_any (w : World) :
  Calls Tryz.prog 168 #[] w fun e w' => e = .returned (.pointer (some ⟨w.heap.size, 0, none⟩)) ∧ IsW w.heap.size w' w.heap.size [] 0 ∧ Chg Non w w' := by
 go_enter Tryz.func168, Tryz.ntmps168
 go_wp2
 go_ret
 exact ⟨rfl, ⟨Nat.le_refl _, _, heap_alloc_new _ _, World.ownsRow_nil _ _ _ _⟩, (Chg.refl _ _).alloc _⟩
theorem own_chg {w w' : World} {B : Nat} {e : TypeId} {size : Nat} {v : Value} {n : Nat} {xs : List Value} (h : w.ownsRow B e size v n xs) (hg : Chg Non w w') : w'.ownsRow B e size v n xs :=
 h.kept (row := none) ⟨hg.os, hg.tape, hg.output, hg.size, fun k hk _ => hg.block k hk (fun e => e)⟩ (by cases v.ownBlock <;> simp)
theorem own_ne {w : World} {B : Nat} {e t : TypeId} {size : Nat} {v : Value} {n g : Nat} {xs : List Value} {cs : Array Value} {fr : Nat × Nat} (h : w.ownsRow B e size v n xs) (hg : w.heap[g]? = some (.cells cs t fr)) (hne : e ≠ t) : v.ownBlock ≠ some g := by
 rcases h.2 with ⟨rfl, _⟩ | ⟨g', cap, cur, rfl, _, hh, _⟩
 ·simp [Value.ownBlock]
 ·intro he
  have : g' = g := by simpa [Value.ownBlock] using he
  subst this
  rw [hg] at hh
  injection hh with hh
  injection hh with _ ht
  exact hne ht.symm
theorem own_reads {B : Nat} {w : World} {v : Value} {l : List UInt8} (h : w.ownsRow B 5 1 v l.length (l.map bv)) : ∃ A c, v = .slice A l.length c ∧ Rd w A l := by
 rcases h.2 with ⟨rfl, h0⟩ | ⟨g, cap, cur, rfl, _⟩
 ·have : l = [] := List.eq_nil_of_length_eq_zero h0
  subst this
  exact ⟨none, 0, rfl, Rd.nil _ _⟩
 ·refine ⟨_, cap, rfl, fun i x hx => ⟨g, 0, rfl, ?_⟩⟩
  have := h.cells (g := g) rfl i (bv x) (by rw [List.getElem?_map, hx]; rfl)
  rw [add_plain] at this
  exact this
theorem news_of {w : World} {b o : Nat} {m : List UInt8} (h : ∀ i (hi : i < m.length), w.cell? ⟨b, o + i, none⟩ = some (.int .u8 (m[i].toNat : Int))) :
  ∀ j u, (m.map bv)[j]? = some u → w.cell? ((⟨b, o, none⟩ : Addr).add j) = some u := by
 intro j u hu
 rw [List.getElem?_map] at hu
 obtain ⟨x, hx, rfl⟩ := Option.map_eq_some_iff.1 hu
 obtain ⟨hj, rfl⟩ := List.getElem?_eq_some_iff.1 hx
 rw [add_plain]
 exact h j hj
theorem bv_one (m : List UInt8) : ∀ u ∈ m.map bv, u.oneCell' = true := by
 intro u hu
 obtain ⟨x, _, rfl⟩ := List.mem_map.1 hu
 rfl
theorem cat_take_len (ps : List (Option Addr × List UInt8 × Nat)) (k : Nat) (h : k < ps.length) : (cat (ps.take (k + 1))).length = (cat (ps.take k)).length + (ps[k]'h).2.1.length := by
 unfold cat
 rw [List.take_succ_eq_append_getElem h, List.map_append, List.flatten_append, List.length_append]
 simp only [List.map_cons, List.map_nil, List.flatten_cons, List.flatten_nil, List.append_nil]
theorem cat_take_le (ps : List (Option Addr × List UInt8 × Nat)) (k : Nat) : (cat (ps.take k)).length ≤ (cat ps).length := by
 have h : cat ps = cat (ps.take k) ++ cat (ps.drop k) := by
  unfold cat
  rw [← List.flatten_append, ← List.map_append, List.take_append_drop]
 rw [h, List.length_append]
 omega
def u64 (n : Int) : Nat := (n % 18446744073709551616).toNat
theorem u64_lt (n : Int) : u64 n < 18446744073709551616 := by unfold u64; omega
theorem u64_cast (n : Int) : ((u64 n : Nat) : Int) = IntKind.u64.wrap n := by
 have : IntKind.u64.wrap n = n % 18446744073709551616 := by simp [IntKind.wrap, IntKind.bits, IntKind.signed]
 rw [this]; unfold u64; omega
end
section
open Go.RowKit
def flagB (b : Bool) : UInt8 := if b then 1 else 0
end
section
open Go.RowKit
def IsWN (N : Nat → Prop) (w : World) (p : Nat) (l : List UInt8) (er : Int) : Prop :=
 (∀ k, N k → k < w.heap.size) ∧ ¬ N p ∧ ∃ v, w.heap[p]? = some (.cells #[v, .bool true, .int .i64 er] 229 (0, 0)) ∧ w.ownsRow 0 5 1 v l.length (l.map bv) ∧ ∀ g, v.ownBlock = some g → ¬ N g
def Nt (N : Nat → Prop) : Nat → Prop := fun k => ¬ N k
theorem isWN_chg {N : Nat → Prop} {p : Nat} {l : List UInt8} {er : Int} {w w' : World} (h : IsWN N w p l er) (hg : Chg Non w w') : IsWN N w' p l er := by
 obtain ⟨hN, hp, v, hb, ho, hg2⟩ := h
 exact ⟨fun k hk => by have := hN k hk; have := hg.size; omega, hp, v, (hg.block p (Array.getElem?_eq_some_iff.1 hb).1 (fun e => e)).trans hb, own_chg ho hg, hg2⟩
theorem IsWN.lt {N : Nat → Prop} {p : Nat} {l : List UInt8} {er : Int} {w : World} (h : IsWN N w p l er) : p < w.heap.size := by
 obtain ⟨_, _, v, hb, _⟩ := h
 exact (Array.getElem?_eq_some_iff.1 hb).1
theorem IsWN.more {N M : Nat → Prop} {p : Nat} {l : List UInt8} {er : Int} {w w' : World} (h : IsWN N w p l er) (hg : Chg Non w w') (hM : ∀ k, M k → N k ∨ (w.heap.size ≤ k ∧ k < w'.heap.size)) : IsWN M w' p l er := by
 have hl := h.lt
 obtain ⟨hN, hp, v, hb, ho, hg2⟩ := isWN_chg h hg
 refine ⟨fun k hk => ?_, fun hk => ?_, v, hb, ho, fun g e hk => ?_⟩
 ·rcases hM k hk with h1 | h1
  ·exact hN k h1
  ·exact h1.2
 ·rcases hM p hk with h1 | h1
  ·exact hp h1
  ·omega
 ·rcases hM g hk with h1 | h1
  ·exact hg2 g e h1
  ·obtain ⟨_, _, v0, hb0, ho0, _⟩ := h
   have e0 : v0 = v := by
    have e1 := (hg.block p hl (fun e => e)).trans hb0
    rw [hb] at e1
    simp only [Option.some.injEq, Obj.cells.injEq, Array.mk.injEq, List.cons.injEq] at e1
    exact e1.1.1.symm
   subst e0
   have := (ho0.lt g e).2
   omega
theorem isWN_after {N : Nat → Prop} {p gg cap : Nat} {l m : List UInt8} {v : Value} {w w1 w2 : World} (hN : ∀ k, N k → k < w.heap.size) (hNp : ¬ N p) (hb : w.heap[p]? = some (.cells #[v, .bool true, .int .i64 0] 229 (0, 0))) (hg1 : Chg Non w w1) (hown : w.ownsRow 0 5 1 v l.length (l.map bv))
  (hNg : ∀ g, v.ownBlock = some g → ¬ N g) (hown2 : w2.ownsRow 0 5 1 (.slice (some ⟨gg, 0, none⟩) (l.length + m.length) cap) (l.length + m.length) (l.map bv ++ m.map bv)) (hgrow : w1.grownBy w2 v.ownBlock)
  (hat : v.ownBlock = some gg ∨ gg = w1.heap.size) (hnp : v.ownBlock ≠ some p) :
  IsWN N (w2.setCell ⟨p, 0, none⟩ (.slice (some ⟨gg, 0, none⟩) (l.length + m.length) cap)) p (l ++ m) 0 ∧ Chg (Nt N) w (w2.setCell ⟨p, 0, none⟩ (.slice (some ⟨gg, 0, none⟩) (l.length + m.length) cap)) := by
 have hlp : p < w.heap.size := (Array.getElem?_eq_some_iff.1 hb).1
 have hb2 : w2.heap[p]? = some (.cells #[v, .bool true, .int .i64 0] 229 (0, 0)) :=
  (hgrow.block p (Nat.lt_of_lt_of_le hlp hg1.size) (fun e => hnp e.symm)).trans ((hg1.block p hlp (fun e => e)).trans hb)
 have hgp : gg ≠ p := by
  rintro rfl
  rcases hat with h | h
  ·exact hnp h
  ·have := hg1.size; omega
 have hgN : ¬ N gg := by
  rcases hat with h | h
  ·exact hNg gg h
  ·intro hn
   have h1 := hN gg hn
   have h2 := hg1.size
   omega
 have hchg : Chg (Nt N) w (w2.setCell ⟨p, 0, none⟩ (.slice (some ⟨gg, 0, none⟩) (l.length + m.length) cap)) :=
  ((hg1.of_non (S := Nt N)).grown hgrow (fun g e => .inl (hNg g e))).setCell (p := ⟨p, 0, none⟩) (.inl hNp) _
 refine ⟨⟨fun k hk => by have := hN k hk; have := hchg.size; omega, hNp, .slice (some ⟨gg, 0, none⟩) (l.length + m.length) cap, ?_, ?_, ?_⟩, hchg⟩
 ·rw [heap_setCell_same _ _ _ _ _ _ hb2]; rfl
 ·have h2 := ownsRow_setCell_other hown2 (a := ⟨p, 0, none⟩) (by simp [Value.ownBlock, hgp]) (.slice (some ⟨gg, 0, none⟩) (l.length + m.length) cap)
  simpa using h2
 ·intro g e
  simp only [Value.ownBlock, Option.some.injEq] at e
  rw [← e]; exact hgN
theorem add_N (N : Nat → Prop) (p b n c : Nat) (l : List UInt8) (ps : List (Option Addr × List UInt8 × Nat)) (w : World) (hW : IsWN N w p l 0) (hP : Parts w b 0 ps) (hn : ps.length = n) (hcap : n ≤ c)
  (h0 : 0 < (cat ps).length) (hroom : l.length + (cat ps).length ≤ 65536) (hn1 : n ≤ 1000) :
  Calls Tryz.prog 171 #[.pointer (some ⟨p, 0, none⟩), .slice (some ⟨b, 0, none⟩) n c] w fun e w' => e = .returned (.pointer (some ⟨p, 0, none⟩)) ∧ IsWN N w' p (l ++ cat ps) 0 ∧ Chg (Nt N) w w' := by
 subst hn
 obtain ⟨hN, hNp, v, hb, hown, hNg⟩ := hW
 have HNN := Lib.hid (And.intro hN (And.intro hNp hNg))
 clear hN hNp hNg
 have HB := Lib.hid hb
 have c0 : w.cell? ⟨p, 0, none⟩ = some v := by rw [cell_of_row _ _ _ _ _ _ hb]; rfl
 have c2 : w.cell? ⟨p, 2, none⟩ = some (.int .i64 0) := by rw [cell_of_row _ _ _ _ _ _ hb]; rfl
 clear hb
 obtain ⟨A, cv, rfl⟩ : ∃ A cv, v = .slice A l.length cv := by
  rcases hown.2 with ⟨rfl, h⟩ | ⟨g, cap, cur, rfl, _⟩
  ·exact ⟨none, 0, by rw [h]⟩
  ·exact ⟨_, _, rfl⟩
 go_enter Tryz.func171, Tryz.ntmps171
 go_wp2_with fail
 refine (wnone_any p _ _ w HB.out).mono ?_
 rintro e w' ⟨rfl, rfl⟩
 go_wp2_with fail
 go_loop [5, 26] (fun r i => ∃ k : Nat, k ≤ ps.length ∧ i = .int .i64 k ∧ r = .int .i64 (65536 - (l.length : Int) - ((cat (ps.take k)).length : Nat))) (fun _ i => ps.length - (intOf i).toNat)
 case atStart => exact ⟨0, by omega, rfl, by simp [cat]⟩
 case round =>
  obtain ⟨k, hk, rfl, rfl⟩ := hrel
  by_cases hlt : k < ps.length
  ·have hpk := (hP k _ (List.getElem?_eq_getElem hlt)).1
   rw [Nat.zero_add] at hpk
   have hs := cat_take_len ps k hlt
   have hle := cat_take_le ps (k + 1)
   obtain ⟨⟨A1, l1, c1⟩, hq⟩ : ∃ q, ps[k]'hlt = q := ⟨_, rfl⟩
   rw [hq] at hpk hs
   clear hq
   simp only at hpk hs
   obtain ⟨n1, hn1'⟩ : ∃ n, l1.length = n := ⟨_, rfl⟩
   rw [hn1'] at hpk hs
   clear hn1'
   obtain ⟨t, ht⟩ : ∃ t, (cat (ps.take k)).length = t := ⟨_, rfl⟩
   rw [ht] at hs ⊢
   clear ht
   have hb1 : t + n1 ≤ 65536 := by omega
   have hb2 : l.length + t + n1 ≤ 65536 := by omega
   have HS := Lib.hid hs
   clear hs hle
   have hmin : min (n1 : Int) 65537 = n1 := by omega
   go_wp2
   go_round
   case rel => exact ⟨k + 1, by omega, by go_num, by rw [HS.out]; exact intEq (by omega)⟩
   case measure => simp [intOf]; omega
  ·obtain rfl : k = ps.length := by omega
   rw [List.take_length]
   have hdr : decide (65536 - (l.length : Int) - ((cat ps).length : Nat) < 0) = false := by simp; omega
   obtain ⟨i0, hi0, hz0, hz1, hz2⟩ := info_parts info_u8
   have hlp : p < w.heap.size := lt_of_cell c0
   have hnp : (Value.slice A l.length cv).ownBlock ≠ some p := own_ne hown HB.out (by decide)
   have HNP := Lib.hid hnp
   have HOwn := Lib.hid hown
   clear hown hnp
   obtain ⟨m, hm⟩ : ∃ m, cat ps = m := ⟨_, rfl⟩
   rw [hm] at h0 hroom hdr
   have HM := Lib.hid hm
   have hcat := fun W h => Cat_any b 0 ps.length c ps W rfl h hcap (by rw [hm]; omega) (by omega)
   rw [hm] at hcat ⊢
   clear hm
   have HCat := Lib.hid hcat
   clear hcat
   have HPt := Lib.hid hP
   clear hP
   have c0' : w.drew.cell? ⟨p, 0, none⟩ = some (.slice A l.length cv) := c0
   go_wp2_with fail
   have f0 : w.frozen? ⟨p, 0, none⟩ = false := frozen_of_row _ _ _ _ _ HB.out
   have f0' : w.drew.frozen? ⟨p, 0, none⟩ = false := f0
   go_region_law (first
       | (refine step_append_lies _ (by rfl) _ _ _ (by rfl) 0 5 i0 _ 1 1 Tryz.underlying32 hi0 hz0 hz1 hz2 rfl (by omega) (.slice A l.length cv) l.length (l.map bv) (by rfl) (own_chg HOwn.out hg1')
           ⟨b1, o1, none⟩ m.length c1 (m.map bv) (by rfl) (by simp) HN1.out (bv_one m) h0 (by unfold maxLen; omega) (by omega) (Nat.zero_le _) w1.heap.size rfl ?_
          intro gg cap w2 hown2 hgrow hat hlt2
          have c2' : w2.cell? ⟨p, 0, none⟩ = some (.slice A l.length cv) := (World.cell?_of_block (a := ⟨p, 0, none⟩) (hgrow.block p (Nat.lt_of_lt_of_le hlp hg1'.size) (fun e => HNP.out e.symm))).trans c1'
          have f2' : w2.frozen? ⟨p, 0, none⟩ = false := (World.frozen?_of_block (a := ⟨p, 0, none⟩) (hgrow.block p (Nat.lt_of_lt_of_le hlp hg1'.size) (fun e => HNP.out e.symm))).trans f1')
       | (go_simp
          go_at_call 104
          refine (HCat.out _ (by exact HPt.out)).mono ?_
          rintro e w1 ⟨A1, c1, rfl, hc1, hm1, ho1, hg1⟩
          obtain ⟨b1, o1, rfl, hb1, hcell1⟩ := ho1.rd.at_ h0
          have HN1 := Lib.hid (news_of hcell1)
          have hg1' : Chg Non w w1 := ((Chg.refl Non w).drew).then_non hg1
          have c1' : w1.cell? ⟨p, 0, none⟩ = some (.slice A l.length cv) := hg1'.cell_some c0 (fun e => e)
          have f1' : w1.frozen? ⟨p, 0, none⟩ = false := (hg1'.frozen (p := ⟨p, 0, none⟩) hlp (fun e => e)).trans f0
          clear hcell1))
   all_goals
    go_wp2
    go_ret
    rw [HM.out]
    exact ⟨rfl, isWN_after HNN.out.1 HNN.out.2.1 HB.out hg1' HOwn.out HNN.out.2.2 hown2 hgrow hat HNP.out⟩
theorem add1_N (N : Nat → Prop) (p cm : Nat) (l m : List UInt8) (A : Option Addr) (t : TypeId) (w w1 : World) (hW : IsWN N w p l 0) (hg : Chg Non w w1) (hr : Rd w1 A m) (h0 : 0 < m.length) (hroom : l.length + m.length ≤ 65536) :
  Calls Tryz.prog 171 #[.pointer (some ⟨p, 0, none⟩), .slice (some ⟨w1.heap.size, 0, none⟩) 1 1] (w1.alloc (.cells #[.slice A m.length cm] t)) fun e w' => e = .returned (.pointer (some ⟨p, 0, none⟩)) ∧ IsWN N w' p (l ++ m) 0 ∧ Chg (Nt N) w w' := by
 have hW1 : IsWN N (w1.alloc (.cells #[.slice A m.length cm] t)) p l 0 := isWN_chg hW (hg.alloc _)
 have hP1 := parts_new w1 t [(A, m, cm)] (by simpa using hr)
 have hcat : cat [(A, m, cm)] = m := by simp [cat]
 refine (add_N N p w1.heap.size 1 1 l [(A, m, cm)] _ hW1 hP1 rfl (by omega) (by rw [hcat]; omega) (by rw [hcat]; omega) (by omega)).mono ?_
 rw [hcat]
 rintro e w2 ⟨rfl, hW2, hB2⟩
 exact ⟨rfl, hW2, (hg.alloc _).non_then hB2⟩
theorem WInt_N (N : Nat → Prop) (p : Nat) (l : List UInt8) (n : Int) (w : World) (hW : IsWN N w p l 0) (hroom : l.length + 8 ≤ 65536) :
  Calls Tryz.prog 169 #[.pointer (some ⟨p, 0, none⟩), .int .i64 n] w fun e w' => e = .returned (.pointer (some ⟨p, 0, none⟩)) ∧ IsWN N w' p (l ++ be (u64 n) 8) 0 ∧ Chg (Nt N) w w' := by
 have hp := Put64 (u64 n) w (u64_lt n)
 rw [u64_cast] at hp
 have hlen : (be (u64 n) 8).length = 8 := be_length _ _
 obtain ⟨m, hm⟩ : ∃ m, be (u64 n) 8 = m := ⟨_, rfl⟩
 rw [hm] at hp hlen ⊢
 clear hm
 have HA := Lib.hid (fun (w1 : World) (A : Option Addr) (c : Nat) (hg : Chg Non w w1) (ho : Rd w1 A m) => add1_N N p c l m A 32 w w1 hW hg ho (by omega) (by omega))
 have HP := Lib.hid hp
 clear hp hlen hW hroom
 go_enter Tryz.func169, Tryz.ntmps169
 go_wp2_with fail
 refine HP.out.mono ?_
 rintro e w1 ⟨A, c, rfl, hc, hm, ho, hg⟩
 have HG := Lib.hid hg
 have HO := Lib.hid ho.rd
 clear hg ho
 go_wp2_with fail
 refine (HA.out w1 A c HG.out HO.out).mono ?_
 rintro e w2 ⟨rfl, h⟩
 go_wp2
 go_ret
 exact ⟨rfl, h⟩
theorem WByte_N (N : Nat → Prop) (p : Nat) (l : List UInt8) (x : UInt8) (w : World) (hW : IsWN N w p l 0) (hroom : l.length + 1 ≤ 65536) :
  Calls Tryz.prog 185 #[.pointer (some ⟨p, 0, none⟩), .int .u8 (x.toNat : Int)] w fun e w' => e = .returned (.pointer (some ⟨p, 0, none⟩)) ∧ IsWN N w' p (l ++ [x]) 0 ∧ Chg (Nt N) w w' := by
 have hr : Rd (w.alloc (.cells #[.int .u8 (x.toNat : Int)] 5)) (some ⟨w.heap.size, 0, none⟩) [x] := (own_new w 5 #[.int .u8 (x.toNat : Int)] [x] rfl).rd
 have hA := add1_N N p 1 l [x] (some ⟨w.heap.size, 0, none⟩) 32 w _ hW ((Chg.refl _ _).alloc _) hr (by simp) (by simpa using hroom)
 rw [show (w.alloc (.cells #[.int .u8 (x.toNat : Int)] 5)).heap.size = w.heap.size + 1 by simp] at hA
 have HA := Lib.hid hA
 clear hA hr hW hroom
 go_enter Tryz.func185, Tryz.ntmps185
 go_wp2_with fail
 refine HA.out.mono ?_
 rintro e w' ⟨rfl, h⟩
 go_wp2
 go_ret
 exact ⟨rfl, h⟩
theorem WFlag_N (N : Nat → Prop) (p : Nat) (l : List UInt8) (b : Bool) (w : World) (hW : IsWN N w p l 0) (hroom : l.length + 1 ≤ 65536) :
  Calls Tryz.prog 186 #[.pointer (some ⟨p, 0, none⟩), .bool b] w fun e w' => e = .returned (.pointer (some ⟨p, 0, none⟩)) ∧ IsWN N w' p (l ++ [flagB b]) 0 ∧ Chg (Nt N) w w' := by
 have HA := Lib.hid (WByte_N N p l (flagB b) w hW hroom)
 clear hW hroom
 cases b
 all_goals
  go_enter Tryz.func186, Tryz.ntmps186
  go_wp2_with fail
  refine HA.out.mono ?_
  rintro e w' ⟨rfl, h⟩
  go_wp2
  go_ret
  exact ⟨rfl, h⟩
theorem WTag_N (N : Nat → Prop) (p : Nat) (l : List UInt8) (h : List UInt8) (w : World) (hh : h.length = 32) (hW : IsWN N w p l 0) (hroom : l.length + 32 ≤ 65536) :
  Calls Tryz.prog 99 #[.pointer (some ⟨p, 0, none⟩), .agg (h.map bv).toArray] w fun e w' => e = .returned (.pointer (some ⟨p, 0, none⟩)) ∧ IsWN N w' p (l ++ h) 0 ∧ Chg (Nt N) w w' := by
 have hr : Rd (w.alloc (.cells (h.map bv).toArray 23)) (some ⟨w.heap.size, 0, none⟩) h := (own_new w 23 (h.map bv).toArray h rfl).rd
 have hA := add1_N N p 32 l h (some ⟨w.heap.size, 0, none⟩) 32 w _ hW ((Chg.refl _ _).alloc _) hr (by omega) (by omega)
 rw [show (w.alloc (.cells (h.map bv).toArray 23)).heap.size = w.heap.size + 1 by simp, hh] at hA
 have HA := Lib.hid hA
 clear hA hr hW hroom
 go_enter Tryz.func99, Tryz.ntmps99
 go_wp2_with fail
 refine HA.out.mono ?_
 rintro e w' ⟨rfl, h⟩
 go_wp2
 go_ret
 exact ⟨rfl, h⟩
theorem WBytes_N (N : Nat → Prop) (p c : Nat) (l m : List UInt8) (A : Option Addr) (w : World) (hW : IsWN N w p l 0) (hr : Rd w A m) (hroom : l.length + 4 + m.length ≤ 65536) :
  Calls Tryz.prog 170 #[.pointer (some ⟨p, 0, none⟩), .slice A m.length c] w fun e w' => e = .returned (.pointer (some ⟨p, 0, none⟩)) ∧ IsWN N w' p (l ++ (be m.length 4 ++ m)) 0 ∧ Chg (Nt N) w w' := by
 have hp := Put32 m.length w (by omega)
 have hlen : (be m.length 4).length = 4 := be_length _ _
 obtain ⟨x, hx⟩ : ∃ x, be m.length 4 = x := ⟨_, rfl⟩
 rw [hx] at hp hlen ⊢
 clear hx
 have HA := Lib.hid (fun (w1 : World) (A1 : Option Addr) (c1 : Nat) (hg : Chg Non w w1) (ho : Rd w1 A1 x) => (show Calls Tryz.prog 171 #[.pointer (some ⟨p, 0, none⟩), .slice (some ⟨w1.heap.size, 0, none⟩) 2 2] (w1.alloc (.cells #[.slice A1 x.length c1, .slice A m.length c] 32)) fun e w' => e = .returned (.pointer (some ⟨p, 0, none⟩)) ∧ IsWN N w' p (l ++ (x ++ m)) 0 ∧ Chg (Nt N) w w' from by
   have hW1 : IsWN N (w1.alloc (.cells #[.slice A1 x.length c1, .slice A m.length c] 32)) p l 0 := isWN_chg hW (hg.alloc _)
   have hP1 := parts_new w1 32 [(A1, x, c1), (A, m, c)] (by
     intro q hq
     simp at hq
     rcases hq with rfl | rfl
     · exact ho
     · exact hr.non hg)
   have hcat : cat [(A1, x, c1), (A, m, c)] = x ++ m := by simp [cat]
   refine (add_N N p w1.heap.size 2 2 l [(A1, x, c1), (A, m, c)] _ hW1 hP1 rfl (by omega) (by rw [hcat, List.length_append]; omega) (by rw [hcat, List.length_append]; omega) (by omega)).mono ?_
   rw [hcat]
   rintro e w2 ⟨rfl, hW2, hB2⟩
   exact ⟨rfl, hW2, (hg.alloc _).non_then hB2⟩))
 have HP := Lib.hid hp
 have HL := Lib.hid hlen
 have hm1 : (m.length : Int) < 4294967296 := by omega
 clear hp hW hr hlen hroom
 go_enter Tryz.func170, Tryz.ntmps170
 go_wp2_with fail
 refine HP.out.mono ?_
 rintro e w1 ⟨A1, c1, rfl, hc, hmx, ho, hg⟩
 have HG := Lib.hid hg
 have HO := Lib.hid ho.rd
 clear hg ho
 go_wp2_with fail
 refine (HA.out w1 A1 c1 HG.out HO.out).mono ?_
 rintro e w2 ⟨rfl, h⟩
 go_wp2
 go_ret
 exact ⟨rfl, h⟩
theorem WDone_N (N : Nat → Prop) (p : Nat) (l : List UInt8) (w : World) (hW : IsWN N w p l 0) (hl : l.length ≤ 65536) :
  Calls Tryz.prog 100 #[.pointer (some ⟨p, 0, none⟩)] w fun e w' => ∃ A c, e = .returned (.tuple #[.slice A l.length c, .int .i64 0]) ∧ l.length ≤ c ∧ c ≤ maxLen ∧ Own w.heap.size w' A l ∧ Chg Non w w' := by
 obtain ⟨_, _, v, hb, hown, _⟩ := hW
 have HB := Lib.hid hb
 have c0 : w.cell? ⟨p, 0, none⟩ = some v := by rw [cell_of_row _ _ _ _ _ _ hb]; rfl
 have c2 : w.cell? ⟨p, 2, none⟩ = some (.int .i64 0) := by rw [cell_of_row _ _ _ _ _ _ hb]; rfl
 clear hb
 obtain ⟨A, cv, rfl, hrd⟩ := own_reads hown
 go_enter Tryz.func100, Tryz.ntmps100
 go_wp2_with fail
 refine (wnone_any p _ _ w HB.out).mono ?_
 rintro e w' ⟨rfl, rfl⟩
 go_wp2_with fail
 refine (Cat1 A l cv _ w _ rfl hrd (by omega)).mono ?_
 rintro e w1 ⟨A1, c1, rfl, hc1, hm1, ho1, hg1⟩
 go_wp2
 go_ret2
 exact ⟨A1, c1, rfl, hc1, hm1, ho1, hg1⟩
theorem NewWriter_N (N : Nat → Prop) (w : World) (hN : ∀ k, N k → k < w.heap.size) :
  Calls Tryz.prog 168 #[] w fun e w' => e = .returned (.pointer (some ⟨w.heap.size, 0, none⟩)) ∧ IsWN N w' w.heap.size [] 0 ∧ Chg Non w w' := by
 refine (NewWriter_any w).mono ?_
 rintro e w' ⟨rfl, ⟨_, v, hb, ho⟩, hg⟩
 refine ⟨rfl, ⟨fun k hk => by have := hN k hk; have := hg.size; omega, fun hk => by have := hN _ hk; omega, v, hb, ?_, fun g e hk => ?_⟩, hg⟩
 ·exact ⟨ho.1, ho.2.imp id (fun ⟨g, cap, cur, e, h1, h2⟩ => ⟨g, cap, cur, e, Nat.zero_le _, h2⟩)⟩
 ·have h1 := (ho.lt g e).1
  have h2 := hN g hk
  omega
end
section
def tst (c : Nat) : Nat := (c / 2) ^^^ (3988292384 * (c % 2))
def tw : Nat → Nat → Nat
 | 0, k => k
 | j + 1, k => tst (tw j k)
theorem tst_lt (c : Nat) (h : c < 4294967296) : tst c < 4294967296 := by
 unfold tst
 exact Nat.xor_lt_two_pow (n := 32) (by omega) (by have := Nat.mod_lt c (show 0 < 2 by omega); omega)
theorem tw_lt (j k : Nat) (h : k < 4294967296) : tw j k < 4294967296 := by
 induction j with
 | zero => exact h
 | succ j ih => exact tst_lt _ ih
def half (c : Nat) : Nat := (c / 16) ^^^ tw 4 (c % 16)
theorem half_lt (c : Nat) (h : c < 4294967296) : half c < 4294967296 := by
 unfold half
 exact Nat.xor_lt_two_pow (n := 32) (by omega) (tw_lt 4 _ (by omega))
def crcB (c : Nat) (x : UInt8) : Nat := half (half (c ^^^ x.toNat))
theorem crcX_lt (c : Nat) (x : UInt8) (h : c < 4294967296) : c ^^^ x.toNat < 4294967296 :=
 Nat.xor_lt_two_pow (n := 32) h (by have := x.toNat_lt; omega)
theorem crcB_lt (c : Nat) (x : UInt8) (h : c < 4294967296) : crcB c x < 4294967296 := half_lt _ (half_lt _ (crcX_lt c x h))
def crcL (c : Nat) (l : List UInt8) : Nat := l.foldl crcB c
theorem crcL_lt (c : Nat) (l : List UInt8) (h : c < 4294967296) : crcL c l < 4294967296 := by
 induction l generalizing c with
 | nil => exact h
 | cons x r ih => exact ih _ (crcB_lt c x h)
theorem crcL_take_snoc (c : Nat) (l : List UInt8) (k : Nat) (h : k < l.length) : crcL c (l.take (k + 1)) = crcB (crcL c (l.take k)) l[k] := by
 unfold crcL
 rw [List.take_succ_eq_append_getElem h, List.foldl_append]
 rfl
def crcSum (l : List UInt8) : Nat := 4294967295 - crcL 4294967295 l
theorem crcSum_lt (l : List UInt8) : crcSum l < 4294967296 := by unfold crcSum; omega
end
end Go.Proofs.YtajkajgifigmbaaGreat
