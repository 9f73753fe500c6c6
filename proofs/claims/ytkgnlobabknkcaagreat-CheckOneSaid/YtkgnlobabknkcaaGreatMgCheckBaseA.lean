/- CheckBase, part 1 of 21: contracts of the functions that it reaches, and the laws that they need, merged and shortened (from my texts XBase, XTypes, XBytes, XNum, XWords, XCrc, XCrcW, XCrcP). -/
import Derived.WalkKit
import Derived.WalkSpells
import Derived.WalkLawsBesides
import Derived.Deep.Draws
import Derived.Lib.Hide
import Derived.Deep.QuietTactic
import Derived.BigQuiet
import Derived.IntWalk
import Derived.Test.YtkgnlobabknkcaaGreatRows
import Derived.Test.YtkgnlobabknkcaaGreatMgCheckBaseShelf
import Derived.Deep.DeepFit
import Derived.Laws.BitsAllLaws
import Derived.Deep.MidRow
namespace Go.Proofs.YtkgnlobabknkcaaGreat
set_option linter.unusedVariables false
set_option linter.unusedSimpArgs false
set_option maxHeartbeats 8000000
section
open Go.RowKit
structure Chg (S : Nat → Prop) (w w' : World) : Prop where
 os : w'.os = w.os
 tape : w'.tape = w.tape
 output : w'.output = w.output
 size : w.heap.size ≤ w'.heap.size
 block : ∀ k, k < w.heap.size → ¬ S k → w'.heap[k]? = w.heap[k]?
def Non : Nat → Prop := fun _ => False
namespace Chg
variable {S T U : Nat → Prop} {a b c w w' : World}
theorem refl (S : Nat → Prop) (w : World) : Chg S w w := ⟨rfl, rfl, rfl, Nat.le_refl _, fun _ _ _ => rfl⟩
theorem trans (h : Chg S a b) (k : Chg T b c) (hS : ∀ x, S x → U x) (hT : ∀ x, x < a.heap.size → T x → U x) : Chg U a c :=
 ⟨k.os.trans h.os, k.tape.trans h.tape, k.output.trans h.output, Nat.le_trans h.size k.size, fun i hi hn =>
   (k.block i (Nat.lt_of_lt_of_le hi h.size) (fun e => hn (hT i hi e))).trans (h.block i hi (fun e => hn (hS i e)))⟩
theorem trans_same (h : Chg S a b) (k : Chg S b c) : Chg S a c := h.trans k (fun _ h => h) (fun _ _ h => h)
theorem then_non (h : Chg S a b) (k : Chg Non b c) : Chg S a c := h.trans k (fun _ h => h) (fun _ _ h => h.elim)
theorem non_then (h : Chg Non a b) (k : Chg S b c) : Chg S a c := h.trans k (fun _ h => h.elim) (fun _ _ h => h)
theorem then_new (h : Chg S a b) (k : Chg T b c) (hT : ∀ x, T x → a.heap.size ≤ x) : Chg S a c := h.trans k (fun _ h => h) (fun x hx h => absurd (hT x h) (by omega))
theorem mono (h : Chg S a b) (hS : ∀ x, S x → T x) : Chg T a b := ⟨h.os, h.tape, h.output, h.size, fun i hi hn => h.block i hi (fun e => hn (hS i e))⟩
theorem of_non (h : Chg Non a b) : Chg S a b := h.mono fun _ e => e.elim
theorem drew (h : Chg S a w) : Chg S a w.drew := ⟨h.os, h.tape, h.output, h.size, h.block⟩
theorem drewN (h : Chg S a w) (n : Nat) : Chg S a (w.drewN n) := ⟨h.os, h.tape, h.output, h.size, h.block⟩
theorem alloc (h : Chg S a w) (o : Obj) : Chg S a (w.alloc o) :=
 ⟨h.os, h.tape, h.output, Nat.le_trans h.size (by simp), fun i hi hn => (Below.heap_alloc w o i (Nat.lt_of_lt_of_le hi h.size)).trans (h.block i hi hn)⟩
theorem setCell (h : Chg S a w) {p : Addr} (hp : S p.block ∨ a.heap.size ≤ p.block) (u : Value) : Chg S a (w.setCell p u) :=
 ⟨h.os, h.tape, h.output, by simpa [World.setCell] using h.size, fun i hi hn => (Below.heap_setCell w p u i (by
   rintro rfl
   rcases hp with hp | hp
   · exact hn hp
   · omega)).trans (h.block i hi hn)⟩
theorem setRow (h : Chg S a w) {g : Nat} (hp : S g ∨ a.heap.size ≤ g) (cs : Array Value) : Chg S a (w.setRow g cs) :=
 ⟨h.os, h.tape, h.output, by simpa [World.setRow] using h.size, fun i hi hn => (setRow_other w g i cs (by
   rintro rfl
   rcases hp with hp | hp
   · exact hn hp
   · omega)).trans (h.block i hi hn)⟩
theorem of_below {B : Nat} (h : Below B w w') (hB : w.heap.size ≤ B) : Chg S w w' := ⟨h.os, h.tape, h.output, h.size, fun i hi _ => h.block i (by omega)⟩
theorem below {B : Nat} (h : Chg S w w') (hS : ∀ k, S k → B ≤ k) (hB : B ≤ w.heap.size) : Below B w w' :=
 ⟨h.os, h.tape, h.output, h.size, fun i hi => h.block i (by omega) (fun e => absurd (hS i e) (by omega))⟩
theorem below_non (h : Chg Non w w') : Below w.heap.size w w' := h.below (fun _ e => e.elim) (Nat.le_refl _)
theorem grown {row : Option Nat} (h : Chg S a w) (hg : w.grownBy w' row) (hr : ∀ g, row = some g → S g ∨ a.heap.size ≤ g) : Chg S a w' :=
 ⟨hg.os.trans h.os, hg.tape.trans h.tape, hg.output.trans h.output, Nat.le_trans h.size hg.size, fun i hi hn =>
   (hg.block i (Nat.lt_of_lt_of_le hi h.size) (fun e => by
     rcases hr i e.symm with h' | h'
     · exact hn h'
     · omega)).trans (h.block i hi hn)⟩
theorem cell (h : Chg S w w') {p : Addr} (hp : p.block < w.heap.size) (hn : ¬ S p.block) : w'.cell? p = w.cell? p := World.cell?_of_block (h.block p.block hp hn)
theorem frozen (h : Chg S w w') {p : Addr} (hp : p.block < w.heap.size) (hn : ¬ S p.block) : w'.frozen? p = w.frozen? p := World.frozen?_of_block (h.block p.block hp hn)
end Chg
theorem lt_of_cell {w : World} {p : Addr} {v : Value} (h : w.cell? p = some v) : p.block < w.heap.size := by
 rcases Nat.lt_or_ge p.block w.heap.size with hlt | hge
 ·exact hlt
 ·simp [World.cell?, Array.getElem?_eq_none hge] at h
theorem Chg.cell_some {S : Nat → Prop} {w w' : World} (h : Chg S w w') {p : Addr} {v : Value} (hc : w.cell? p = some v) (hn : ¬ S p.block) : w'.cell? p = some v :=
 (h.cell (lt_of_cell hc) hn).trans hc
def bv (x : UInt8) : Value := .int .u8 (x.toNat : Int)
def Rd (w : World) (A : Option Addr) (l : List UInt8) : Prop :=
 ∀ (i : Nat) (x : UInt8), l[i]? = some x → ∃ b o, A = some ⟨b, o, none⟩ ∧ w.cell? ⟨b, o + i, none⟩ = some (.int .u8 (x.toNat : Int))
theorem Rd.nil (w : World) (A : Option Addr) : Rd w A [] := fun i x h => by simp at h
theorem Rd.at_ {w : World} {A : Option Addr} {l : List UInt8} (h : Rd w A l) (h0 : 0 < l.length) :
  ∃ b o, A = some ⟨b, o, none⟩ ∧ b < w.heap.size ∧ ∀ i (hi : i < l.length), w.cell? ⟨b, o + i, none⟩ = some (.int .u8 (l[i].toNat : Int)) := by
 obtain ⟨b, o, rfl, hc⟩ := h 0 l[0] (List.getElem?_eq_getElem h0)
 refine ⟨b, o, rfl, lt_of_cell hc, fun i hi => ?_⟩
 obtain ⟨b', o', e, hc'⟩ := h i l[i] (List.getElem?_eq_getElem hi)
 simp only [Option.some.injEq, Addr.mk.injEq, and_true] at e
 obtain ⟨rfl, rfl⟩ := e
 exact hc'
theorem Rd.keep {S : Nat → Prop} {w w' : World} {A : Option Addr} {l : List UInt8} (h : Rd w A l) (hc : Chg S w w') (hn : ∀ b o, A = some ⟨b, o, none⟩ → l ≠ [] → ¬ S b) : Rd w' A l := by
 intro i x hx
 obtain ⟨b, o, rfl, hcell⟩ := h i x hx
 exact ⟨b, o, rfl, hc.cell_some hcell (hn b o rfl (by rintro rfl; simp at hx))⟩
theorem Rd.non {w w' : World} {A : Option Addr} {l : List UInt8} (h : Rd w A l) (hc : Chg Non w w') : Rd w' A l := h.keep hc fun _ _ _ _ e => e.elim
theorem Rd.drop {w : World} {b o : Nat} {l : List UInt8} (h : Rd w (some ⟨b, o, none⟩) l) (k : Nat) : Rd w (some ⟨b, o + k, none⟩) (l.drop k) := by
 intro i x hx
 rw [List.getElem?_drop] at hx
 obtain ⟨b', o', e, hc⟩ := h (k + i) x hx
 simp only [Option.some.injEq, Addr.mk.injEq, and_true] at e
 obtain ⟨rfl, rfl⟩ := e
 exact ⟨b, o + k, rfl, by rw [Nat.add_assoc]; exact hc⟩
theorem Rd.take {w : World} {A : Option Addr} {l : List UInt8} (h : Rd w A l) (k : Nat) : Rd w A (l.take k) := by
 intro i x hx
 have hk : i < k := by have := (List.getElem?_eq_some_iff.1 hx).1; rw [List.length_take] at this; omega
 rw [List.getElem?_take_of_lt hk] at hx
 exact h i x hx
def Own (B : Nat) (w : World) (A : Option Addr) (l : List UInt8) : Prop :=
 ∀ (i : Nat) (x : UInt8), l[i]? = some x → ∃ b o, A = some ⟨b, o, none⟩ ∧ B ≤ b ∧ w.cell? ⟨b, o + i, none⟩ = some (.int .u8 (x.toNat : Int)) ∧ w.frozen? ⟨b, o + i, none⟩ = false
theorem Own.rd {B : Nat} {w : World} {A : Option Addr} {l : List UInt8} (h : Own B w A l) : Rd w A l := fun i x hx => by
 obtain ⟨b, o, e, _, hc, _⟩ := h i x hx
 exact ⟨b, o, e, hc⟩
theorem Own.nil (B : Nat) (w : World) (A : Option Addr) : Own B w A [] := fun i x h => by simp at h
theorem Own.mono {B B' : Nat} {w : World} {A : Option Addr} {l : List UInt8} (h : Own B w A l) (hB : B' ≤ B) : Own B' w A l := fun i x hx => by
 obtain ⟨b, o, e, hb, hc, hf⟩ := h i x hx
 exact ⟨b, o, e, by omega, hc, hf⟩
theorem Own.keep {S : Nat → Prop} {B : Nat} {w w' : World} {A : Option Addr} {l : List UInt8} (h : Own B w A l) (hc : Chg S w w') (hn : ∀ b o, A = some ⟨b, o, none⟩ → B ≤ b → l ≠ [] → ¬ S b) : Own B w' A l := by
 intro i x hx
 obtain ⟨b, o, rfl, hb, hcell, hf⟩ := h i x hx
 have hne := hn b o rfl hb (by rintro rfl; simp at hx)
 exact ⟨b, o, rfl, hb, hc.cell_some hcell hne, (hc.frozen (lt_of_cell hcell) hne).trans hf⟩
theorem Own.ge {B : Nat} {w : World} {b o : Nat} {l : List UInt8} (h : Own B w (some ⟨b, o, none⟩) l) (h0 : l ≠ []) : B ≤ b := by
 obtain ⟨x, r, rfl⟩ := List.exists_cons_of_ne_nil h0
 obtain ⟨b', o', e, hb, _⟩ := h 0 x rfl
 simp only [Option.some.injEq, Addr.mk.injEq, and_true] at e
 obtain ⟨rfl, rfl⟩ := e
 exact hb
theorem own_new (w : World) (t : TypeId) (cs : Array Value) (l : List UInt8) (h : cs.toList = l.map bv) : Own w.heap.size (w.alloc (.cells cs t)) (some ⟨w.heap.size, 0, none⟩) l := by
 intro i x hx
 have hb : (w.alloc (.cells cs t)).heap[w.heap.size]? = some (.cells cs t (0, 0)) := (MapKept.heap_alloc w _).1
 have hc : cs[i]? = some (bv x) := by
  rw [← Array.getElem?_toList, h, List.getElem?_map, hx]; rfl
 exact ⟨w.heap.size, 0, rfl, Nat.le_refl _, by rw [Nat.zero_add]; simp only [World.cell?]; rw [hb]; exact hc, by simp only [World.frozen?]; rw [hb]; simp⟩
def RetB (w : World) (l : List UInt8) (e : Ending) (w' : World) : Prop :=
 ∃ A c, e = .returned (.slice A l.length c) ∧ l.length ≤ c ∧ c ≤ maxLen ∧ Own w.heap.size w' A l ∧ Chg Non w w'
theorem RetB.from {w w1 w' : World} {l : List UInt8} {e : Ending} (h : RetB w1 l e w') (hg : Chg Non w w1) : RetB w l e w' := by
 obtain ⟨A, c, he, hc, hm, ho, hg'⟩ := h
 exact ⟨A, c, he, hc, hm, ho.mono hg.size, hg.then_non hg'⟩
theorem quiet_left {P : Program} {f : FuncId} {args : Array Value} {w : World} {n : Nat} {v : Value}
  (h : Calls P f args (w.drewN n) fun e w' => e = .returned v ∧ w.drewN n = w') : Calls P f args (w.drewN n) fun e w'' => e = .returned v ∧ ∃ m, w'' = w.drewN m :=
 h.mono fun _ _ ⟨he, hm⟩ => ⟨he, n, hm.symm⟩
theorem Rd.drewN {w : World} {A : Option Addr} {l : List UInt8} (h : Rd w A l) (n : Nat) : Rd (w.drewN n) A l := h
end
section
open Go.RowKit
theorem info_u8 : (Tryz.prog.info? 5).map (fun i => (i.zero, i.size, i.bytes)) = some (some (.int .u8 0), 1, 1) := by kernel_rfl
theorem madeCells_one (z : Value) (n : Nat) : madeCells #[z] n = Array.replicate n z := by
 apply Array.ext
 ·simp [madeCells]
 ·intro i h1 h2
  simp [madeCells, Nat.mod_one]
theorem mk_bytes (n : Int) (h0 : 0 ≤ n) (h1 : n ≤ 140737488355328) (W : World) :
  (Instr.makeSlice 29 (.int .i64 n) (.int .i64 n)).run Tryz.prog W = .ok (.slice (some ⟨W.heap.size, 0, none⟩) n.toNat n.toNat) (W.alloc (.cells (Array.replicate n.toNat (.int .u8 0)) 5)) := by
 obtain ⟨i, hi, hz, hs, hb⟩ := info_parts info_u8
 have h := run_make (P := Tryz.prog) W 29 5 i (.int .u8 0) Tryz.underlying29 hi hz .i64 .i64 n n h0 (Int.le_refl _) (by rw [hb]; omega) (by omega)
 rw [h, hs, Nat.mul_one]
 show Result.ok _ (W.alloc (.cells (madeCells #[.int .u8 0] n.toNat) _)) = _
 rw [madeCells_one]
end
section
open Go.RowKit
theorem rd_holds {w : World} {A : Option Addr} {l : List UInt8} {c : Nat} (h : Rd w A l) : Lib.HoldsBytes w (.slice A l.length c) l := by
 refine ⟨A, c, rfl, ?_, ?_⟩
 ·rintro rfl
  cases l with
  | nil => rfl
  | cons x r =>
   obtain ⟨b, o, e, _⟩ := h 0 x rfl
   cases e
 ·rintro a rfl i x hx
  obtain ⟨b, o, e, hc⟩ := h i x hx
  injection e with e
  subst e
  rw [show (⟨b, o, none⟩ : Addr).add i = ⟨b, o + i, none⟩ from by unfold Addr.add; split <;> simp_all]
  exact hc
theorem fresh_own {B : Nat} {w : World} {v : Value} {l : List UInt8} (h : Lib.FreshBytes B w v l) : ∃ A c, v = .slice A l.length c ∧ l.length ≤ c ∧ c ≤ maxLen ∧ Own B w A l := by
 obtain ⟨g, cap, zs, rfl, hB, hl, hm, hz, hr, hb, hc, hf⟩ := h
 refine ⟨_, _, rfl, hl, hm, ?_⟩
 intro i x hx
 have hi : i < l.length := (List.getElem?_eq_some_iff.1 hx).1
 refine ⟨g, 0, rfl, hB, ?_, by rw [Nat.zero_add]; exact hf i (by omega)⟩
 rw [Nat.zero_add, hc i (by omega)]
 have hz' : i < zs.length := by omega
 have h1 : zs.getD i 0 = zs[i] := by simp [List.getD, List.getElem?_eq_getElem hz']
 rw [h1]
 have h2 : (Lib.bytesOf (zs.take l.length))[i]? = some x := by rw [hb]; exact hx
 rw [Lib.bytesOf, List.getElem?_map, List.getElem?_take_of_lt hi, List.getElem?_eq_getElem hz'] at h2
 simp only [Option.map_some, Option.some.injEq] at h2
 have h3 := hr zs[i] (List.getElem_mem hz')
 rw [← h2, UInt8.toNat_ofNat']
 congr 2
 omega
def Parts (w : World) (b o : Nat) (ps : List (Option Addr × List UInt8 × Nat)) : Prop :=
 ∀ (i : Nat) p, ps[i]? = some p → w.cell? ⟨b, o + i, none⟩ = some (.slice p.1 p.2.1.length p.2.2) ∧ Rd w p.1 p.2.1
def cat (ps : List (Option Addr × List UInt8 × Nat)) : List UInt8 := (ps.map (·.2.1)).flatten
theorem add_plain (b o i : Nat) : (⟨b, o, none⟩ : Addr).add i = ⟨b, o + i, none⟩ := by unfold Addr.add; split <;> simp_all
theorem intercalate_nil (ls : List (List UInt8)) : Lib.join ls [] = ls.flatten := by
 unfold Lib.join
 induction ls with
 | nil => rfl
 | cons x r ih => cases r with
  | nil => simp [List.intercalate]
  | cons y s => simp only [List.intercalate, List.intersperse_cons_cons, List.flatten_cons, List.nil_append] at ih ⊢; rw [ih]
theorem lens_flatten (ls : List (List UInt8)) : Lib.lens ls = ls.flatten.length := by
 induction ls with
 | nil => rfl
 | cons x r ih => rw [Lib.lens_cons, List.flatten_cons, List.length_append, ih]
theorem RetB.of_fresh {w w' : World} {l : List UInt8} {v : Value} (h : Lib.FreshBytes w.heap.size w' v l) (hb : Below w.heap.size w w') : RetB w l (.returned v) w' := by
 obtain ⟨A, c, rfl, hc, hm, ho⟩ := fresh_own h
 exact ⟨A, c, rfl, hc, hm, ho, .of_below hb (Nat.le_refl _)⟩
theorem Join_any (b o n c : Nat) (ps : List (Option Addr × List UInt8 × Nat)) (w : World) (hn : ps.length = n) (hP : Parts w b o ps) (hcap : n ≤ c) (hlen : (cat ps).length ≤ 140737488355328) (hn47 : n ≤ 140737488355328) :
  Calls Tryz.prog 78 #[.slice (some ⟨b, o, none⟩) n c, .slice none 0 0] w (RetB w (cat ps)) := by
 subst hn
 rcases ps with _ | ⟨p, _ | ⟨q, r⟩⟩
 ·refine (Tryz.bytes_Join_none _ _ _ _).mono ?_
  rintro e w' ⟨rfl, rfl⟩
  exact ⟨some ⟨w.heap.size, 0, none⟩, 0, rfl, Nat.le_refl _, by simp, Own.nil _ _ _, (Chg.refl _ _).alloc _⟩
 ·obtain ⟨h1, h2⟩ := hP 0 p rfl
  obtain ⟨A, l, c'⟩ := p
  simp only [cat, List.map_cons, List.map_nil, List.flatten_cons, List.flatten_nil, List.append_nil, List.length_cons, List.length_nil, Nat.add_zero, Nat.zero_add] at *
  rcases Nat.eq_zero_or_pos l.length with h0 | h0
  ·obtain rfl : l = [] := List.eq_nil_of_length_eq_zero h0
   refine (Tryz.bytes_Join_one_empty b o c A c' _ w h1).mono ?_
   rintro e w' ⟨rfl, rfl⟩
   exact ⟨none, 0, rfl, Nat.le_refl _, by simp, Own.nil _ _ _, Chg.refl _ _⟩
  ·obtain ⟨b', o', rfl, hb', hc'⟩ := h2.at_ h0
   refine (Tryz.bytes_Join_one b o c ⟨b', o', none⟩ c' l _ w h1 ?_ h0 hlen).mono ?_
   ·intro i x hx
    obtain ⟨hi, rfl⟩ := List.getElem?_eq_some_iff.1 hx
    rw [add_plain]
    exact hc' i hi
   ·rintro e w' ⟨v, rfl, hf, hb⟩
    exact RetB.of_fresh hf hb
 ·have hj : Lib.join ((p :: q :: r).map (·.2.1)) [] = cat (p :: q :: r) := intercalate_nil _
  have hll : Lib.lens ((p :: q :: r).map (·.2.1)) = (cat (p :: q :: r)).length := lens_flatten _
  refine (Tryz.bytes_Join_many b o (p :: q :: r).length c ((p :: q :: r).map fun p => Value.slice p.1 p.2.1.length p.2.2) ((p :: q :: r).map (·.2.1)) _ [] w (by simp) (by simp) ?_ hcap ?_ hn47 ?_).mono ?_
  ·refine ⟨by simp, ?_, ?_⟩
   ·intro i v hv
    rw [List.getElem?_map] at hv
    obtain ⟨x, hx, rfl⟩ := Option.map_eq_some_iff.1 hv
    rw [add_plain]
    exact (hP i x hx).1
   ·intro i v l hv hl
    rw [List.getElem?_map] at hv hl
    obtain ⟨x, hx, rfl⟩ := Option.map_eq_some_iff.1 hv
    obtain ⟨y, hy, rfl⟩ := Option.map_eq_some_iff.1 hl
    rw [hx] at hy
    injection hy with hy
    subst hy
    exact rd_holds (hP i x hx).2
  ·exact ⟨none, 0, rfl, fun _ => rfl, fun a h => by cases h⟩
  ·rw [hll]; simpa using hlen
  ·rintro e w' ⟨v, rfl, hf, hb⟩
   rw [hj] at hf
   exact RetB.of_fresh hf hb
set_option maxRecDepth 100000 in
theorem Cat_any (b o n c : Nat) (ps : List (Option Addr × List UInt8 × Nat)) (w : World) (hn : ps.length = n) (hP : Parts w b o ps) (hcap : n ≤ c) (hlen : (cat ps).length ≤ 140737488355328) (hn47 : n ≤ 140737488355328) :
  Calls Tryz.prog 33 #[.slice (some ⟨b, o, none⟩) n c] w (RetB w (cat ps)) := by
 go_enter Tryz.func33, Tryz.ntmps33
 go_wp2_with fail
 refine (Join_any b o n c ps w hn hP hcap hlen hn47).mono ?_
 rintro e w' ⟨A, c', rfl, hr⟩
 go_wp2
 go_ret
 exact ⟨A, c', rfl, hr⟩
theorem parts_new (w : World) (t : TypeId) (ps : List (Option Addr × List UInt8 × Nat)) (h : ∀ p ∈ ps, Rd w p.1 p.2.1) :
  Parts (w.alloc (.cells (ps.map fun p => Value.slice p.1 p.2.1.length p.2.2).toArray t)) w.heap.size 0 ps := by
 intro i p hp
 have hm : p ∈ ps := List.mem_of_getElem? hp
 refine ⟨?_, (h p hm).non ((Chg.refl _ _).alloc _)⟩
 rw [Nat.zero_add]
 simp only [World.cell?]
 rw [heap_alloc_new]
 simp [hp]
theorem Cat1 (A1 : Option Addr) (l1 : List UInt8) (c1 : Nat) (t : TypeId) (w : World) (g : Nat) (hg : w.heap.size = g) (h1 : Rd w A1 l1) (hl : l1.length ≤ 140737488355328) :
  Calls Tryz.prog 33 #[.slice (some ⟨g, 0, none⟩) 1 1] (w.alloc (.cells #[.slice A1 l1.length c1] t)) (RetB w l1) := by
 subst hg
 have hp := parts_new w t [(A1, l1, c1)] (by simpa using h1)
 refine (Cat_any w.heap.size 0 1 1 [(A1, l1, c1)] _ rfl hp (by omega) (by simpa [cat] using hl) (by omega)).mono ?_
 intro e w' h
 have : cat [(A1, l1, c1)] = l1 := by simp [cat]
 rw [this] at h
 exact h.from ((Chg.refl _ _).alloc _)
theorem Cat2 (A1 A2 : Option Addr) (l1 l2 : List UInt8) (c1 c2 : Nat) (t : TypeId) (w : World) (g : Nat) (hg : w.heap.size = g) (h1 : Rd w A1 l1) (h2 : Rd w A2 l2) (hl : l1.length + l2.length ≤ 140737488355328) (m : List UInt8) (hm : l1 ++ l2 = m) :
  Calls Tryz.prog 33 #[.slice (some ⟨g, 0, none⟩) 2 2] (w.alloc (.cells #[.slice A1 l1.length c1, .slice A2 l2.length c2] t)) (RetB w m) := by
 subst hm
 subst hg
 have hp := parts_new w t [(A1, l1, c1), (A2, l2, c2)] (by simpa using ⟨h1, h2⟩)
 refine (Cat_any w.heap.size 0 2 2 [(A1, l1, c1), (A2, l2, c2)] _ rfl hp (by omega) (by simpa [cat] using hl) (by omega)).mono ?_
 intro e w' h
 have : cat [(A1, l1, c1), (A2, l2, c2)] = l1 ++ l2 := by simp [cat]
 rw [this] at h
 exact h.from ((Chg.refl _ _).alloc _)
theorem Cat3 (A1 A2 A3 : Option Addr) (l1 l2 l3 : List UInt8) (c1 c2 c3 : Nat) (t : TypeId) (w : World) (g : Nat) (hg : w.heap.size = g) (h1 : Rd w A1 l1) (h2 : Rd w A2 l2) (h3 : Rd w A3 l3) (hl : l1.length + l2.length + l3.length ≤ 140737488355328) (m : List UInt8) (hm : l1 ++ l2 ++ l3 = m) :
  Calls Tryz.prog 33 #[.slice (some ⟨g, 0, none⟩) 3 3] (w.alloc (.cells #[.slice A1 l1.length c1, .slice A2 l2.length c2, .slice A3 l3.length c3] t)) (RetB w m) := by
 subst hm
 subst hg
 have hp := parts_new w t [(A1, l1, c1), (A2, l2, c2), (A3, l3, c3)] (by simpa using ⟨h1, h2, h3⟩)
 refine (Cat_any w.heap.size 0 3 3 [(A1, l1, c1), (A2, l2, c2), (A3, l3, c3)] _ rfl hp (by omega) (by simp [cat]; omega) (by omega)).mono ?_
 intro e w' h
 have : cat [(A1, l1, c1), (A2, l2, c2), (A3, l3, c3)] = l1 ++ l2 ++ l3 := by simp [cat]
 rw [this] at h
 exact h.from ((Chg.refl _ _).alloc _)
theorem conv_str (A : Option Addr) (l : List UInt8) (c : Nat) (w : World) (h : Rd w A l) :
  (convert 29 9 (.slice A l.length c)).run Tryz.prog w = .ok (.string ⟨l.toArray⟩) w := by
 rcases Nat.eq_zero_or_pos l.length with h0 | h0
 ·obtain rfl : l = [] := List.eq_nil_of_length_eq_zero h0
  cases A with
  | none => exact run_convert_bytes_nil w _ _ Tryz.underlying29 Tryz.underlying5 _ _ _ Tryz.underlying9
  | some a =>
   have hl : (loadCells a 0).run Tryz.prog w = .ok (([] : List Int).map (Value.int .u8)).toArray w := run_loadCells_list (P := Tryz.prog) w a [] (fun j v hj => by simp at hj)
   show (convert 29 9 (.slice (some a) 0 c)).run Tryz.prog w = _
   rw [run_convert_bytes_string w _ _ _ _ 0 c Tryz.underlying29 Tryz.underlying5 Tryz.underlying9, run_bytesToString w _ 0 c [] hl]
   rfl
 ·obtain ⟨b, o, rfl, hb, hc⟩ := h.at_ h0
  rw [run_convert_bytes_arg w _ _ Tryz.underlying29 Tryz.underlying5 b o l.length c (l.map fun x => (x.toNat : Int)) (by simp) (fun i hi => by rw [hc i hi]; simp [List.getD, List.getElem?_eq_getElem hi]) _ Tryz.underlying9]
  congr 2
  unfold strOfNums
  congr 2
  rw [List.map_map]
  conv => rhs; rw [← List.map_id l]
  apply List.map_congr_left
  intro x _
  simp
theorem compare_zero (a b : List UInt8) : (Lib.compareBytes a b == 0) = decide (a = b) := by
 induction a generalizing b with
 | nil => cases b <;> simp [Lib.compareBytes]
 | cons x r ih =>
  cases b with
  | nil => simp [Lib.compareBytes]
  | cons y t =>
   unfold Lib.compareBytes
   by_cases h1 : x < y
   ·have : x ≠ y := by rintro rfl; exact absurd h1 (by simp)
    simp [h1, this]
   ·by_cases h2 : y < x
    ·have : x ≠ y := by rintro rfl; exact absurd h2 (by simp)
     simp [h1, h2, this]
    ·have : x = y := by
      apply UInt8.toNat_inj.1
      rw [UInt8.lt_iff_toNat_lt] at h1 h2
      omega
     subst this
     simp only [h1, if_false, ih]
     simp
set_option maxRecDepth 100000 in
theorem Same_any (A B : Option Addr) (l m : List UInt8) (c d : Nat) (w : World) (h : Rd w A l) (k : Rd w B m) :
  Calls Tryz.prog 217 #[.slice A l.length c, .slice B m.length d] w fun e w' => e = .returned (.bool (decide (l = m))) ∧ w = w' := by
 have h1 := conv_str A l c w h
 have h2 := conv_str B m d w k
 go_enter Tryz.func217, Tryz.ntmps217
 go_wp2_with (go_at_call 224; refine (Tryz.strings_Compare _ _ _).mono ?_; rintro e w' ⟨rfl, rfl⟩)
 go_ret
 refine ⟨?_, rfl⟩
 rw [← compare_zero]
 rfl
theorem Clone_any (A : Option Addr) (l : List UInt8) (c : Nat) (w : World) (h : Rd w A l) (hlen : l.length ≤ 140737488355328) :
  Calls Tryz.prog 56 #[.slice A l.length c] w (RetB w l) := by
 rcases Nat.eq_zero_or_pos l.length with h0 | h0
 ·obtain rfl : l = [] := List.eq_nil_of_length_eq_zero h0
  cases A with
  | none =>
   refine (Tryz.bytes_Clone_nil _ _ _).mono ?_
   rintro e w' ⟨rfl, rfl⟩
   exact ⟨none, 0, rfl, Nat.le_refl _, by simp, Own.nil _ _ _, Chg.refl _ _⟩
  | some a =>
   refine (Tryz.bytes_Clone_at a 0 c [] w rfl (by omega) (fun i hi => absurd hi (by omega))).mono ?_
   rintro e w' ⟨v, rfl, hown, hne, hb⟩
   rcases hown.2 with ⟨rfl, _⟩ | ⟨g, cap, cur, rfl, _, _, _, hm, _⟩
   ·exact absurd rfl hne
   ·exact ⟨_, cap, rfl, by simp, hm, Own.nil _ _ _, .of_below hb (Nat.le_refl _)⟩
 ·obtain ⟨b, o, rfl, hb, hc⟩ := h.at_ h0
  refine (Tryz.bytes_Clone_at ⟨b, o, none⟩ l.length c (l.map fun x => (x.toNat : Int)) w (by simp) hlen (fun i hi => ?_)).mono ?_
  ·rw [add_plain, hc i hi]
   simp [List.getD, List.getElem?_eq_getElem hi]
  ·rintro e w' ⟨v, rfl, hown, hne, hb'⟩
   rcases hown.2 with ⟨rfl, _⟩ | ⟨g, cap, cur, rfl, hg, hh, hn, hm, hsz, htk⟩
   ·exact absurd rfl hne
   ·refine ⟨_, cap, rfl, hn, hm, ?_, .of_below hb' (Nat.le_refl _)⟩
    intro i x hx
    have hi : i < l.length := (List.getElem?_eq_some_iff.1 hx).1
    have hcell : cur[i]? = some (.int .u8 (x.toNat : Int)) := by
     have h2 : (cur.toList.take (l.length * 1))[i]? = some (.int .u8 (x.toNat : Int)) := by
      rw [htk]; simp [hx]
     rw [List.getElem?_take_of_lt (by omega)] at h2
     simpa using h2
    exact ⟨g, 0, rfl, hg, by rw [Nat.zero_add]; simp only [World.cell?]; rw [hh]; exact hcell, by simp only [World.frozen?]; rw [hh]; simp⟩
end
section
def be (x : Nat) : Nat → List UInt8
 | 0 => []
 | n + 1 => be (x / 256) n ++ [UInt8.ofNat x]
def num (l : List UInt8) : Nat := l.foldl (fun a d => 256 * a + d.toNat) 0
theorem be_length (x n : Nat) : (be x n).length = n := by
 induction n generalizing x with
 | zero => rfl
 | succ n ih => simp [be, ih]
theorem num_snoc (l : List UInt8) (d : UInt8) : num (l ++ [d]) = 256 * num l + d.toNat := by simp [num]
theorem ofNat_toNat (x : Nat) : (UInt8.ofNat x).toNat = x % 256 := by simp
theorem num_be (x n : Nat) (h : x < 256 ^ n) : num (be x n) = x := by
 induction n generalizing x with
 | zero => simp at h; subst h; rfl
 | succ n ih =>
  have hx : x / 256 < 256 ^ n := by rw [Nat.div_lt_iff_lt_mul (by omega)]; rw [Nat.pow_succ] at h; exact h
  simp only [be, num_snoc, ih _ hx, ofNat_toNat]
  omega
theorem num_lt (l : List UInt8) : num l < 256 ^ l.length := by
 suffices h : ∀ n (l : List UInt8), l.length = n → num l < 256 ^ n from h _ l rfl
 intro n
 induction n with
 | zero => intro l h; have := List.eq_nil_of_length_eq_zero h; subst this; simp [num]
 | succ n ih =>
  intro l h
  have hne : l ≠ [] := by rintro rfl; simp at h
  obtain ⟨r, d, rfl⟩ : ∃ r d, l = r ++ [d] := ⟨l.dropLast, l.getLast hne, (List.dropLast_concat_getLast hne).symm⟩
  have hr : r.length = n := by simpa using h
  have hd := d.toNat_lt
  have := ih r hr
  rw [num_snoc, Nat.pow_succ]
  omega
theorem num_take_snoc (l : List UInt8) (k : Nat) (h : k < l.length) : num (l.take (k + 1)) = 256 * num (l.take k) + l[k].toNat := by
 rw [List.take_succ_eq_append_getElem h, num_snoc]
theorem num_take_lt (l : List UInt8) (k : Nat) (h : k ≤ l.length) : num (l.take k) < 256 ^ k := by
 have := num_lt (l.take k)
 rw [List.length_take, Nat.min_eq_left h] at this
 exact this
end
section
open Go.RowKit
theorem be4 (x : Nat) : be x 4 = [UInt8.ofNat (x / 256 / 256 / 256), UInt8.ofNat (x / 256 / 256), UInt8.ofNat (x / 256), UInt8.ofNat x] := rfl
theorem be8 (x : Nat) : be x 8 = [UInt8.ofNat (x / 256 / 256 / 256 / 256 / 256 / 256 / 256), UInt8.ofNat (x / 256 / 256 / 256 / 256 / 256 / 256), UInt8.ofNat (x / 256 / 256 / 256 / 256 / 256), UInt8.ofNat (x / 256 / 256 / 256 / 256),
  UInt8.ofNat (x / 256 / 256 / 256), UInt8.ofNat (x / 256 / 256), UInt8.ofNat (x / 256), UInt8.ofNat x] := rfl
theorem bv_ofNat (x : Nat) : bv (UInt8.ofNat x) = .int .u8 ((x : Int) % 256) := by
 simp only [bv, ofNat_toNat]; rfl
set_option maxRecDepth 100000 in
theorem Row4 (x : Nat) (w : World) (h1 : x < 18446744073709551616) :
  Calls Tryz.prog 150 #[.int .u64 x, .int .i64 4] w (RetB w (be x 4)) := by
 have hmk : ∀ W : World, (Instr.makeSlice 29 (.int .i64 4) (.int .i64 4)).run Tryz.prog W = .ok (.slice (some ⟨W.heap.size, 0, none⟩) 4 4) (W.alloc (.cells #[.int .u8 0, .int .u8 0, .int .u8 0, .int .u8 0] 5)) := mk_bytes 4 (by omega) (by omega)
 have h0 : (0 : Int) ≤ x := by omega
 have h2 : (x : Int) < 18446744073709551616 := by omega
 go_enter Tryz.func150, Tryz.ntmps150
 go_wp2
 refine wp_loop_rounds 5 ?_
 rw [rounds_succ]
 go_wp2
 rw [rounds_succ]
 go_wp2
 rw [rounds_succ]
 go_wp2
 rw [rounds_succ]
 go_wp2
 rw [rounds_succ]
 go_wp2
 go_ret
 refine ⟨some ⟨w.heap.size, 0, none⟩, 4, by rw [be_length]; rfl, by rw [be_length]; omega, by unfold maxLen; omega, own_new _ _ _ _ ?_, (Chg.refl _ _).alloc _⟩
 simp only [be4, List.map_cons, List.map_nil, bv_ofNat]
 rfl
set_option maxRecDepth 100000 in
theorem Row8 (x : Nat) (w : World) (h1 : x < 18446744073709551616) :
  Calls Tryz.prog 150 #[.int .u64 x, .int .i64 8] w (RetB w (be x 8)) := by
 have hmk : ∀ W : World, (Instr.makeSlice 29 (.int .i64 8) (.int .i64 8)).run Tryz.prog W = .ok (.slice (some ⟨W.heap.size, 0, none⟩) 8 8) (W.alloc (.cells #[.int .u8 0, .int .u8 0, .int .u8 0, .int .u8 0, .int .u8 0, .int .u8 0, .int .u8 0, .int .u8 0] 5)) := mk_bytes 8 (by omega) (by omega)
 have h0 : (0 : Int) ≤ x := by omega
 have h2 : (x : Int) < 18446744073709551616 := by omega
 go_enter Tryz.func150, Tryz.ntmps150
 go_wp2
 refine wp_loop_rounds 9 ?_
 iterate 9
  rw [rounds_succ]
  go_wp2
 go_ret
 refine ⟨some ⟨w.heap.size, 0, none⟩, 8, by rw [be_length]; rfl, by rw [be_length]; omega, by unfold maxLen; omega, own_new _ _ _ _ ?_, (Chg.refl _ _).alloc _⟩
 have e : ((x / 256 / 256 / 256 / 256 / 256 / 256 / 256 : Nat) : Int) % 256 = (x : Int) / 256 / 256 / 256 / 256 / 256 / 256 / 256 := by omega
 simp only [be8, List.map_cons, List.map_nil, bv_ofNat, e]
 rfl
set_option maxRecDepth 100000 in
theorem Put32 (x : Nat) (w : World) (h1 : x < 4294967296) :
  Calls Tryz.prog 113 #[.int .u32 x] w (RetB w (be x 4)) := by
 have h0 : (0 : Int) ≤ x := by omega
 have h2 : (x : Int) < 4294967296 := by omega
 go_enter Tryz.func113, Tryz.ntmps113
 go_wp2_with fail
 refine (Row4 x w (by omega)).mono ?_
 rintro e w' ⟨A, c, rfl, hc, hm, ho, hg⟩
 go_wp2
 go_ret
 exact ⟨A, c, rfl, hc, hm, ho, hg⟩
set_option maxRecDepth 100000 in
theorem Put64 (x : Nat) (w : World) (h1 : x < 18446744073709551616) :
  Calls Tryz.prog 112 #[.int .u64 x] w (RetB w (be x 8)) := by
 go_enter Tryz.func112, Tryz.ntmps112
 go_wp2_with fail
 refine (Row8 x w (by omega)).mono ?_
 rintro e w' ⟨A, c, rfl, hc, hm, ho, hg⟩
 go_wp2
 go_ret
 exact ⟨A, c, rfl, hc, hm, ho, hg⟩
theorem intEq {k : IntKind} {a b : Int} (h : a = b) : Value.int k a = Value.int k b := by rw [h]
set_option maxRecDepth 100000 in
theorem Number_ok (A : Option Addr) (l : List UInt8) (c : Nat) (w : World) (hr : Rd w A l) (h1 : 1 ≤ l.length) (h8 : l.length ≤ 8) :
  Calls Tryz.prog 218 #[.slice A l.length c] w fun e w' => e = .returned (.tuple #[.int .u64 (num l : Nat), .bool true]) ∧ w = w' := by
 obtain ⟨b, o, rfl, hb, hc⟩ := hr.at_ (by omega)
 have HC := Lib.hid hc
 clear hc
 have g1 : decide ((l.length : Int) < 1) = false := by simp; omega
 have g2 : decide ((l.length : Int) > 8) = false := by simp; omega
 go_enter Tryz.func218, Tryz.ntmps218
 go_wp2
 go_loop [4, 17] (fun x i => ∃ k : Nat, k ≤ l.length ∧ i = .int .i64 k ∧ x = .int .u64 (num (l.take k) : Nat)) (fun _ i => l.length - (intOf i).toNat)
 case atStart => exact ⟨0, Nat.zero_le _, rfl, rfl⟩
 case round =>
  obtain ⟨k, hk, rfl, rfl⟩ := hrel
  by_cases hlt : k < l.length
  ·have hcell := HC.out k hlt
   have hd := (l[k]'hlt).toNat_lt
   have hn : num (l.take k) < 72057594037927936 := by
    have h1 := num_take_lt l k hk
    have h2 : 256 ^ k ≤ 256 ^ 7 := Nat.pow_le_pow_right (by omega) (by omega)
    omega
   have HS := num_take_snoc l k hlt
   obtain ⟨d, hd'⟩ : ∃ d : Nat, (l[k]'hlt).toNat = d := ⟨_, rfl⟩
   rw [hd'] at hcell hd HS
   clear hd'
   obtain ⟨v, hv⟩ : ∃ v : Nat, num (l.take k) = v := ⟨_, rfl⟩
   rw [hv] at hn HS ⊢
   clear hv
   replace HS := Lib.hid HS
   go_wp2
   go_round
   case rel => exact ⟨k + 1, by omega, by go_num, by rw [HS.out]; exact intEq (by omega)⟩
   case measure => simp [intOf]; omega
  ·go_wp2
   go_ret2
   refine ⟨?_, rfl⟩
   have e : l.take k = l := List.take_of_length_le (by omega)
   rw [e]
   rfl
set_option maxRecDepth 100000 in
theorem load_ok (A : Option Addr) (l : List UInt8) (c n : Nat) (w : World) (hr : Rd w A l) (hl : l.length = n) (h1 : 1 ≤ n) (h8 : n ≤ 8) (hcap : n ≤ c) (hc63 : c ≤ 9223372036854775807) :
  Calls Tryz.prog 199 #[.slice A n c, .int .i64 0, .int .i64 n] w fun e w' => e = .returned (.tuple #[.int .u64 (num l : Nat), .bool true]) ∧ w = w' := by
 subst hl
 obtain ⟨b, o, rfl, hb, hc⟩ := hr.at_ (by omega)
 clear hc
 go_enter Tryz.func199, Tryz.ntmps199
 go_wp2_with fail
 refine (Number_ok _ l c _ hr h1 h8).mono ?_
 rintro e w' ⟨rfl, rfl⟩
 go_wp2
 go_ret2
 exact ⟨rfl, rfl⟩
set_option maxRecDepth 100000 in
theorem Load64_ok (A : Option Addr) (l : List UInt8) (c : Nat) (w : World) (hr : Rd w A l) (hl : l.length = 8) (hcap : 8 ≤ c) (hc63 : c ≤ 9223372036854775807) :
  Calls Tryz.prog 172 #[.slice A 8 c, .int .i64 0] w fun e w' => e = .returned (.tuple #[.int .u64 (num l : Nat), .bool true]) ∧ w = w' := by
 go_enter Tryz.func172, Tryz.ntmps172
 go_wp2_with fail
 refine (load_ok _ l c 8 _ hr hl (by omega) (by omega) hcap hc63).mono ?_
 rintro e w' ⟨rfl, rfl⟩
 go_wp2
 go_ret2
 exact ⟨rfl, rfl⟩
set_option maxRecDepth 100000 in
theorem Load32_ok (A : Option Addr) (l : List UInt8) (c : Nat) (w : World) (hr : Rd w A l) (hl : l.length = 4) (hcap : 4 ≤ c) (hc63 : c ≤ 9223372036854775807) :
  Calls Tryz.prog 207 #[.slice A 4 c, .int .i64 0] w fun e w' => e = .returned (.tuple #[.int .u32 (num l : Nat), .bool true]) ∧ w = w' := by
 have hn := num_lt l
 rw [hl] at hn
 have h2 : (num l : Int) < 4294967296 := by omega
 go_enter Tryz.func207, Tryz.ntmps207
 go_wp2_with fail
 refine (load_ok _ l c 4 _ hr hl (by omega) (by omega) hcap hc63).mono ?_
 rintro e w' ⟨rfl, rfl⟩
 go_wp2
 go_ret2
 exact ⟨rfl, rfl⟩
end
section
def tst (c : Nat) : Nat := (c / 2) ^^^ (3988292384 * (c % 2))
def tw : Nat → Nat → Nat
 | 0, k => k
 | j + 1, k => tst (tw j k)
theorem tst_lt (c : Nat) (h : c < 4294967296) : tst c < 4294967296 := by
 unfold tst
 exact Nat.xor_lt_two_pow (n := 32) (by omega) (by have := Nat.mod_lt c (show 0 < 2 by omega); omega)
theorem tw_lt (j k : Nat) (h : k < 4294967296) : tw j k < 4294967296 := by
 induction j with
 | zero => exact h
 | succ j ih => exact tst_lt _ ih
def half (c : Nat) : Nat := (c / 16) ^^^ tw 4 (c % 16)
theorem half_lt (c : Nat) (h : c < 4294967296) : half c < 4294967296 := by
 unfold half
 exact Nat.xor_lt_two_pow (n := 32) (by omega) (tw_lt 4 _ (by omega))
def crcB (c : Nat) (x : UInt8) : Nat := half (half (c ^^^ x.toNat))
theorem crcX_lt (c : Nat) (x : UInt8) (h : c < 4294967296) : c ^^^ x.toNat < 4294967296 :=
 Nat.xor_lt_two_pow (n := 32) h (by have := x.toNat_lt; omega)
theorem crcB_lt (c : Nat) (x : UInt8) (h : c < 4294967296) : crcB c x < 4294967296 := half_lt _ (half_lt _ (crcX_lt c x h))
def crcL (c : Nat) (l : List UInt8) : Nat := l.foldl crcB c
theorem crcL_lt (c : Nat) (l : List UInt8) (h : c < 4294967296) : crcL c l < 4294967296 := by
 induction l generalizing c with
 | nil => exact h
 | cons x r ih => exact ih _ (crcB_lt c x h)
theorem crcL_take_snoc (c : Nat) (l : List UInt8) (k : Nat) (h : k < l.length) : crcL c (l.take (k + 1)) = crcB (crcL c (l.take k)) l[k] := by
 unfold crcL
 rw [List.take_succ_eq_append_getElem h, List.foldl_append]
 rfl
def crcSum (l : List UInt8) : Nat := 4294967295 - crcL 4294967295 l
theorem crcSum_lt (l : List UInt8) : crcSum l < 4294967296 := by unfold crcSum; omega
end
section
open Go.RowKit
def tabA (k : Nat) : Array Value := ((List.range 16).map fun j => if j < k then .int .u32 (tw 4 j : Nat) else .int .u32 0).toArray
theorem tabA_zero : tabA 0 = #[.int .u32 0, .int .u32 0, .int .u32 0, .int .u32 0, .int .u32 0, .int .u32 0, .int .u32 0, .int .u32 0, .int .u32 0, .int .u32 0, .int .u32 0, .int .u32 0, .int .u32 0, .int .u32 0, .int .u32 0, .int .u32 0] := rfl
theorem tabA_size (k : Nat) : (tabA k).size = 16 := by simp [tabA]
theorem tabA_at (k j : Nat) (h : j < 16) : (tabA k)[j]? = some (if j < k then .int .u32 (tw 4 j : Nat) else .int .u32 0) := by simp [tabA, h]
theorem tabA_set (k : Nat) (h : k < 16) : (tabA k).setIfInBounds k (.int .u32 (tw 4 k : Nat)) = tabA (k + 1) := by
 apply Array.ext_getElem?
 intro i
 rw [Array.getElem?_setIfInBounds]
 by_cases hi : i < 16
 ·rw [tabA_at k i hi, tabA_at (k + 1) i hi]
  by_cases e : k = i
  ·subst e; simp [tabA_size, h]
  ·have : (i < k + 1) ↔ i < k := by omega
   simp only [e, if_false, this]
 ·have h1 : (tabA k)[i]? = none := Array.getElem?_eq_none (by rw [tabA_size]; omega)
  have h2 : (tabA (k + 1))[i]? = none := Array.getElem?_eq_none (by rw [tabA_size]; omega)
  have : k ≠ i := by omega
  simp [h1, h2, this]
theorem tabA_get (k : Nat) (h : k < 16) : (tabA k)[k]? = some (.int .u32 0) := by rw [tabA_at k k h]; simp
theorem tabA_full (k : Nat) (h : k < 16) : (tabA 16)[k]? = some (.int .u32 (tw 4 k : Nat)) := by rw [tabA_at 16 k h]; simp [h]
theorem tabA_lit : tabA 16 = #[.int .u32 (tw 4 0 : Nat), .int .u32 (tw 4 1 : Nat), .int .u32 (tw 4 2 : Nat), .int .u32 (tw 4 3 : Nat), .int .u32 (tw 4 4 : Nat), .int .u32 (tw 4 5 : Nat), .int .u32 (tw 4 6 : Nat), .int .u32 (tw 4 7 : Nat), .int .u32 (tw 4 8 : Nat), .int .u32 (tw 4 9 : Nat), .int .u32 (tw 4 10 : Nat), .int .u32 (tw 4 11 : Nat), .int .u32 (tw 4 12 : Nat), .int .u32 (tw 4 13 : Nat), .int .u32 (tw 4 14 : Nat), .int .u32 (tw 4 15 : Nat)] := rfl
theorem tabA_one : (tabA 16).all (·.oneCell') = true := by rw [tabA_lit]; simp [Value.oneCell']
set_option maxRecDepth 100000 in
theorem table_any (w : World) :
  Calls Tryz.prog 116 #[] w fun e w' => e = .returned (.agg (tabA 16)) ∧ Chg Non w w' := by
 go_enter Tryz.func116, Tryz.ntmps116
 go_wp2
 go_loopw [5] (fun i wr => ∃ k : Nat, k ≤ 16 ∧ i = .int .i64 k ∧ wr.heap[w.heap.size + 1]? = some (.cells (tabA k) 180 (0, 0)) ∧ wr.heap[w.heap.size]? = some (.cells (tabA 0) 180 (0, 0)) ∧ Chg Non w wr) (fun i _ => 16 - (intOf i).toNat)
 case atStart => 
  refine ⟨0, by omega, rfl, ?_, ?_, ((Chg.refl _ _).alloc _).alloc _⟩
  ·rw [tabA_zero]
   have h := fun o o' => (MapKept.heap_alloc (w.alloc o) o').1
   simp only [World.size_alloc] at h
   exact h _ _
  ·rw [tabA_zero]
   refine (Below.heap_alloc _ _ _ (by simp)).trans (MapKept.heap_alloc _ _).1
 case round =>
  obtain ⟨k, hk, rfl, hb, hb0, hg⟩ := hrel
  by_cases hlt : k < 16
  ·obtain ⟨wo, rfl⟩ : ∃ wo : World, wo = wr := ⟨_, rfl⟩
   have HB := Lib.hid hb
   have HB0 := Lib.hid hb0
   clear hb hb0
   go_wp2
   go_loop [3, 10] (fun c j => ∃ i : Nat, i ≤ 4 ∧ j = .int .i64 i ∧ c = .int .u32 (tw i k : Nat)) (fun _ j => 4 - (intOf j).toNat)
   case atStart => exact ⟨0, by omega, rfl, rfl⟩
   case round =>
    obtain ⟨i, hi, rfl, rfl⟩ := hrel
    have hc := tw_lt i k (by omega)
    have hs : tw (i + 1) k = tst (tw i k) := rfl
    have HS := Lib.hid hs
    clear hs
    by_cases hi4 : i < 4
    ·obtain ⟨c, hcc⟩ : ∃ c, tw i k = c := ⟨_, rfl⟩
     rw [hcc] at hc HS ⊢
     clear hcc
     have h1 : bits .and .u32 (c : Int) 1 = ((c % 2 : Nat) : Int) := by
      have := u32_and_nat c 1 hc (by omega)
      rw [nat_mask1] at this
      exact this
     have h2 : ((c % 2 : Nat) : Int) ≤ 1 := by omega
     have h2' : (0 : Int) ≤ ((c % 2 : Nat) : Int) := by omega
     have h3 : bits .xor .u32 ((c : Int) / 2) (3988292384 * ((c % 2 : Nat) : Int)) = (tst c : Int) := by
      have := u32_xor_nat (c / 2) (3988292384 * (c % 2)) (by omega) (by omega)
      unfold tst
      rw [← this]
      simp
     obtain ⟨d, hd⟩ : ∃ d, c % 2 = d := ⟨_, rfl⟩
     rw [hd] at h1 h2 h2' h3
     clear hd
     go_wp2
     go_round
     case rel => exact ⟨i + 1, by omega, by go_num, by rw [HS.out]⟩
     case measure => simp [intOf]; omega
    ·obtain rfl : i = 4 := by omega
     have hcell : wo.cell? ⟨w.heap.size + 1, k, none⟩ = some (.int .u32 0) := by
      simp only [World.cell?]; rw [HB.out]; exact tabA_get k hlt
     have hfr : wo.frozen? ⟨w.heap.size + 1, k, none⟩ = false := by
      simp only [World.frozen?]; rw [HB.out]; simp
     have hset := tabA_set k hlt
     obtain ⟨v, hv⟩ : ∃ v : Value, (Value.int .u32 (tw 4 k : Nat)) = v := ⟨_, rfl⟩
     obtain ⟨c, hcc⟩ : ∃ c, tw 4 k = c := ⟨_, rfl⟩
     rw [hcc] at hc hv hset ⊢
     clear hcc HS
     have HSet := Lib.hid hset
     clear hset hv
     go_wp2
     go_roundw
     case rel =>
      refine ⟨k + 1, by omega, by go_num, ?_, ?_, hg.setCell (.inr (by simp)) _⟩
      ·rw [heap_setCell_same _ _ _ _ _ _ HB.out, HSet.out]
      ·rw [heap_setCell_other _ _ _ _ (by simp)]
       exact HB0.out
     case measure => simp [intOf]; omega
  ·obtain rfl : k = 16 := by omega
   have HB := Lib.hid hb
   have HB0 := Lib.hid hb0
   clear hb hb0
   go_wp2_with (first
     | (refine wpList_load_row (o := ⟨some 24, _, _, _, _, _⟩) rfl 180 (.tmp 1) rfl (w.heap.size + 1) rfl 180 (tabA 16) (0, 0) _ HB.out Tryz.underlying180 rfl (by kernel_rfl) ?_)
     | (refine wpList_store_row (o := ⟨none, .store 180 (.tmp 0) (.tmp 24), _, _, _, _⟩) rfl 180 (.tmp 0) (.tmp 24) rfl w.heap.size (tabA 16) rfl rfl 180 (tabA 0) HB0.out (by kernel_rfl) rfl tabA_one ?_))
   refine bodyPost_ret (results_cell_row Tryz.results116 _ _ w.heap.size 180 (tabA 16) (0, 0) _ rfl (setRow_heap _ _ _ _ _ _ HB0.out) Tryz.underlying180 rfl (by kernel_rfl)) rfl ⟨rfl, hg.setRow (.inr (Nat.le_refl _)) _⟩
theorem ones_xor (x : Nat) (h : x < 4294967296) : 4294967295 ^^^ x = 4294967295 - x := by
 have h1 : (4294967295 : Nat) = 2 ^ 32 - 1 := rfl
 have e : BitVec.allOnes 32 ^^^ BitVec.ofNat 32 x = ~~~ (BitVec.ofNat 32 x) := BitVec.allOnes_xor
 have := congrArg BitVec.toNat e
 rw [BitVec.toNat_xor, BitVec.toNat_not, BitVec.toNat_ofNat, BitVec.toNat_allOnes, Nat.mod_eq_of_lt (by omega)] at this
 exact this
set_option maxRecDepth 100000 in
theorem Add_any (A : Option Addr) (l : List UInt8) (cap : Nat) (w : World) (hr : Rd w A l) (hl : l.length ≤ 9223372036854775807) :
  Calls Tryz.prog 84 #[.int .u32 0, .slice A l.length cap] w fun e w' => e = .returned (.int .u32 (crcSum l : Nat)) ∧ Chg Non w w' := by
 go_enter Tryz.func84, Tryz.ntmps84
 go_wp2_with (first
   | (go_at_call 116; refine (table_any _).mono ?_; rintro e w1 ⟨rfl, hg1⟩)
   | (refine wpList_store_row (o := ⟨none, .store 180 (.tmp 5) (.tmp 8), _, _, _, _⟩) rfl 180 (.tmp 5) (.tmp 8) rfl w1.heap.size (tabA 16) rfl rfl 180 (tabA 0) (heap_alloc_new _ _) (by kernel_rfl) rfl tabA_one ?_))
 obtain ⟨W, hW⟩ : ∃ W, (w1.alloc (.cells (tabA 0) 180)).setRow w1.heap.size (tabA 16) = W := ⟨_, rfl⟩
 have HB := Lib.hid (show W.heap[w1.heap.size]? = some (.cells (tabA 16) 180 (0, 0)) from by rw [← hW]; exact setRow_heap _ _ _ _ _ _ (heap_alloc_new _ _))
 have hg : Chg Non w W := by
  rw [← hW]
  exact (hg1.alloc _).setRow (.inr hg1.size) _
 have HR := Lib.hid (hr.non hg)
 rw [show (w1.alloc (.cells #[.int .u32 0, .int .u32 0, .int .u32 0, .int .u32 0, .int .u32 0, .int .u32 0, .int .u32 0, .int .u32 0, .int .u32 0, .int .u32 0, .int .u32 0, .int .u32 0, .int .u32 0, .int .u32 0, .int .u32 0, .int .u32 0] 180)).setRow w1.heap.size (tabA 16) = W from hW]
 clear hW hr hg1
 go_loop [0, 13] (fun c i => ∃ k : Nat, k ≤ l.length ∧ i = .int .i64 k ∧ c = .int .u32 (crcL 4294967295 (l.take k) : Nat)) (fun _ i => l.length - (intOf i).toNat)
 case atStart => exact ⟨0, by omega, rfl, rfl⟩
 case round =>
  obtain ⟨k, hk, rfl, rfl⟩ := hrel
  have hc := crcL_lt 4294967295 (l.take k) (by omega)
  by_cases hlt : k < l.length
  ·obtain ⟨b, o, rfl, hb, hcell⟩ := HR.out.at_ (by omega)
   have HC := Lib.hid hcell
   clear hcell
   have hcell := HC.out k hlt
   have hs := crcL_take_snoc 4294967295 l k hlt
   obtain ⟨c, hcc⟩ : ∃ c, crcL 4294967295 (l.take k) = c := ⟨_, rfl⟩
   rw [hcc] at hc hs ⊢
   clear hcc
   obtain ⟨x, hx⟩ : ∃ x, l[k]'hlt = x := ⟨_, rfl⟩
   rw [hx] at hcell hs
   clear hx
   have hx1 := crcX_lt c x hc
   have hx2 : bits .xor .u32 (c : Int) (x.toNat : Int) = ((c ^^^ x.toNat : Nat) : Int) := u32_xor_nat _ _ hc (by have := x.toNat_lt; omega)
   have hxl := x.toNat_lt
   have HS := Lib.hid hs
   clear hs
   have hd1 := half_lt _ hx1
   have HT : ∀ d : Nat, d < 4294967296 → W.cell? ⟨w1.heap.size, d % 16, none⟩ = some (.int .u32 (tw 4 (d % 16) : Nat)) := fun d hd => by
    simp only [World.cell?]; rw [HB.out]; exact tabA_full (d % 16) (by omega)
   have HH : ∀ d : Nat, d < 4294967296 → bits .xor .u32 ((d : Int) / 16) ((tw 4 (d % 16) : Nat) : Int) = ((half d : Nat) : Int) := fun d hd => by
    have := u32_xor_nat (d / 16) (tw 4 (d % 16)) (by omega) (tw_lt 4 _ (by omega))
    unfold half
    rw [← this]
    simp
   have t1 := HT _ hx1
   have t2 := HT _ hd1
   have a1 := HH _ hx1
   have a2 := HH _ hd1
   have hd2 := half_lt _ hd1
   have b1 := tw_lt 4 ((c ^^^ x.toNat) % 16) (by omega)
   have b2 := tw_lt 4 (half (c ^^^ x.toNat) % 16) (by omega)
   clear HT HH
   replace HS : Hid (crcL 4294967295 (l.take (k + 1)) = half (half (c ^^^ x.toNat))) := HS
   go_wp2
   refine wp_loop_rounds 3 ?_
   rw [rounds_succ]
   go_wp2
   rw [rounds_succ]
   go_wp2
   rw [rounds_succ]
   go_wp2
   go_round
   case rel => exact ⟨k + 1, by omega, by go_num, by rw [HS.out]⟩
   case measure => simp [intOf]; omega
  ·have e : l.take k = l := List.take_of_length_le (by omega)
   rw [e] at hc ⊢
   have hf : bits .xor .u32 IntKind.u32.max (crcL 4294967295 l : Nat) = (crcSum l : Nat) := by
    have := u32_xor_nat 4294967295 (crcL 4294967295 l) (by omega) hc
    have e2 : (IntKind.u32.max : Int) = ((4294967295 : Nat) : Int) := rfl
    rw [e2, this, crcSum]
    congr 1
    exact ones_xor _ hc
   go_wp2
   go_ret
   exact ⟨rfl, hg⟩
set_option maxRecDepth 100000 in
theorem Sum_any (A : Option Addr) (l : List UInt8) (cap : Nat) (w : World) (hr : Rd w A l) (hl : l.length ≤ 9223372036854775807) :
  Calls Tryz.prog 37 #[.slice A l.length cap] w fun e w' => e = .returned (.int .u32 (crcSum l : Nat)) ∧ Chg Non w w' := by
 go_enter Tryz.func37, Tryz.ntmps37
 go_wp2_with (go_at_call 84; refine (Add_any _ _ _ _ hr hl).mono ?_; rintro e w1 ⟨rfl, hg1⟩)
 go_ret
 exact ⟨rfl, hg1⟩
end
section
open Go.RowKit
def crcPut (l : List UInt8) : List UInt8 := l ++ be (crcSum l) 4
set_option maxRecDepth 100000 in
theorem crcPut_any (A : Option Addr) (l : List UInt8) (cap : Nat) (w : World) (hr : Rd w A l) (hl : l.length ≤ 1000000) :
  Calls Tryz.prog 83 #[.slice A l.length cap] w (RetB w (crcPut l)) := by
 go_enter Tryz.func83, Tryz.ntmps83
 go_wp2_with fail
 refine (Sum_any A l cap w hr (by omega)).mono ?_
 rintro e w1 ⟨rfl, hg1⟩
 go_wp2_with fail
 refine (Put32 _ _ (crcSum_lt l)).mono ?_
 rintro e w2 ⟨A2, c2, rfl, hc2, hm2, ho2, hg2⟩
 go_wp2_with fail
 have h1 := (hr.non hg1).non hg2
 refine (Cat2 A A2 l (be (crcSum l) 4) cap c2 _ w2 _ rfl h1 ho2.rd (by rw [be_length]; omega) (crcPut l) rfl).mono ?_
 rintro e w3 ⟨A3, c3, rfl, hr3⟩
 go_wp2
 go_ret
 exact RetB.from ⟨A3, c3, rfl, hr3⟩ (hg1.then_non hg2)
def crcOk (b : List UInt8) : Bool := decide (4 ≤ b.length ∧ crcPut (b.take (b.length - 4)) = b)
set_option maxRecDepth 100000 in
theorem Check_any (A : Option Addr) (l : List UInt8) (cap : Nat) (w : World) (hr : Rd w A l) (h4 : 4 ≤ l.length) (hl : l.length ≤ 1000000) (hcap : l.length ≤ cap) (hm : cap ≤ maxLen) :
  Calls Tryz.prog 214 #[.slice A l.length cap] w fun e w' => (∃ v, e = .returned (.tuple #[v, .bool (crcOk l)])) ∧ Chg Non w w' := by
 unfold maxLen at hm
 have hlt : (l.take (l.length - 4)).length = l.length - 4 := by rw [List.length_take]; omega
 have hp := crcPut_any A (l.take (l.length - 4)) cap
 have hcut := fun W h => Cat1 A (l.take (l.length - 4)) cap 29 W _ rfl h (by omega)
 rw [hlt] at hp hcut
 have HP := Lib.hid hp
 have HK := Lib.hid hcut
 clear hp hcut
 have hok : crcOk l = decide (crcPut (l.take (l.length - 4)) = l) := by
  unfold crcOk
  simp [h4]
 have HOK := Lib.hid hok
 clear hok hlt
 by_cases he : crcPut (l.take (l.length - 4)) = l
 ·have hd : decide (crcPut (l.take (l.length - 4)) = l) = true := by simpa using he
  have HE := Lib.hid he
  clear he
  go_enter Tryz.func214, Tryz.ntmps214
  go_wp2_with fail
  refine (HP.out w (hr.take (l.length - 4)) (by omega)).mono ?_
  rintro e w2 ⟨A2, c2, rfl, hc2, hm2, ho2, hg2⟩
  go_wp2_with fail
  refine (Same_any A2 A (crcPut (l.take (l.length - 4))) l c2 cap w2 ho2.rd (hr.non hg2)).mono ?_
  rintro e w3 ⟨rfl, rfl⟩
  go_wp2_with fail
  refine (HK.out w2 ((hr.take (l.length - 4)).non hg2)).mono ?_
  rintro e w4 ⟨A4, c4, rfl, hc4, hm4, ho4, hg4⟩
  go_wp2
  go_ret2
  exact ⟨⟨_, by rw [HOK.out, hd]; rfl⟩, hg2.then_non hg4⟩
 ·have hd : decide (crcPut (l.take (l.length - 4)) = l) = false := by simpa using he
  have HE := Lib.hid he
  clear he
  go_enter Tryz.func214, Tryz.ntmps214
  go_wp2_with fail
  refine (HP.out w (hr.take (l.length - 4)) (by omega)).mono ?_
  rintro e w2 ⟨A2, c2, rfl, hc2, hm2, ho2, hg2⟩
  go_wp2_with fail
  refine (Same_any A2 A (crcPut (l.take (l.length - 4))) l c2 cap w2 ho2.rd (hr.non hg2)).mono ?_
  rintro e w3 ⟨rfl, rfl⟩
  go_wp2
  go_ret2
  exact ⟨⟨_, by rw [HOK.out, hd]; rfl⟩, hg2⟩
end
end Go.Proofs.YtkgnlobabknkcaaGreat
