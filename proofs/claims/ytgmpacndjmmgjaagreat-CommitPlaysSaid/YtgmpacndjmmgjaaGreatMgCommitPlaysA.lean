/- Frames and bytes: plain predicates on worlds. No program in sight.
   Facts on the program's types, closed; make of bytes.
   bytes.Clone, bytes.Join, words.Cat, Put, strings.Compare and words.Same in my own words.
   Numbers as rows of bytes (big-endian). Plain lists and numbers: no program, no world.
   Walks of package words: Row (at 4 and 8), Put32, Put64, Number, load, Load64.
   Walks of package wire, writers: none, NewWriter, add, Int, Done.
   The disk as a plain value, and what its operations make of it. No program, no world.
   The disk: how it lies in memory; Dirty.
   The disk's cache: the map's operations at sectors.
   The disk in memory; walks of New, none, ready, Len, has, Up, Start, Arm, Read.
   The CRC as plain numbers; one byte otherwise makes another sum. No program, no world.
   Walks of package crc.
   Walks of crc.Put, crc.Check.
   Walks of package frame.
   Walks of frame.Kind, frame.Open.
   Walks of the disk: Read, New, Start, Arm.
   Regions that draw their order, walked by hand in every order: which may come up; an operation that only computes, one that is not wanted, a load and a store of a whole row, any other. No condition of the program.
   The document's answer for layer 1 (citadelref01): bytes that are put behind one another.
   The document's answer for layer 1 (citadelref01): numbers' rows, and which rows are the same.
   Regions that draw their order, walked by hand: an operation that only computes, one that is not wanted, a load of a whole row, a call, a store of a whole row. No condition of the program.
   The document's answer for layer 1 (citadelref01): which rows are the same.
   Walks of package wire, readers: whole, breaks, take, field[int], Int, Left, Err, End, NewReader. -/
import Derived.Test.YtgmpacndjmmgjaaGreatRows
import Derived.Test.YtgmpacndjmmgjaaGreatShelf
import Derived.BigQuiet
import Derived.Deep.AppendLies
import Derived.Deep.DeepFit
import Derived.Deep.Draws
import Derived.Deep.LoopGhost
import Derived.Deep.MidRow
import Derived.Deep.QuietTactic
import Derived.Deep.RegionHeld3
import Derived.IntWalk
import Derived.Laws.BitsAllLaws
import Derived.Laws.EntriesVeiled
import Derived.Laws.Sem
import Derived.Lib.Hide
import Derived.LoopNIn
import Derived.OneCell
import Derived.OwnWalkIn
import Derived.RegionTactic
import Derived.StillTailTactics
import Derived.WalkKit
import Derived.WalkLawsBesides
import Derived.WalkSpells
section
namespace Go.Proofs.YtgmpacndjmmgjaaGreat
open Go.RowKit

/-- w' is w, but for the blocks of S and new ones. -/
structure Chg (S : Nat → Prop) (w w' : World) : Prop where
  os : w'.os = w.os
  tape : w'.tape = w.tape
  output : w'.output = w.output
  size : w.heap.size ≤ w'.heap.size
  block : ∀ k, k < w.heap.size → ¬ S k → w'.heap[k]? = w.heap[k]?

def Non : Nat → Prop := fun _ => False

namespace Chg
variable {S T U : Nat → Prop} {a b c w w' : World}
theorem refl (S : Nat → Prop) (w : World) : Chg S w w := ⟨rfl, rfl, rfl, Nat.le_refl _, fun _ _ _ => rfl⟩
theorem trans (h : Chg S a b) (k : Chg T b c) (hS : ∀ x, S x → U x) (hT : ∀ x, x < a.heap.size → T x → U x) : Chg U a c :=
  ⟨k.os.trans h.os, k.tape.trans h.tape, k.output.trans h.output, Nat.le_trans h.size k.size, fun i hi hn =>
    (k.block i (Nat.lt_of_lt_of_le hi h.size) (fun e => hn (hT i hi e))).trans (h.block i hi (fun e => hn (hS i e)))⟩
theorem trans_same (h : Chg S a b) (k : Chg S b c) : Chg S a c := h.trans k (fun _ h => h) (fun _ _ h => h)
/-- what comes behind changes none of the old -/
theorem then_non (h : Chg S a b) (k : Chg Non b c) : Chg S a c := h.trans k (fun _ h => h) (fun _ _ h => h.elim)
theorem non_then (h : Chg Non a b) (k : Chg S b c) : Chg S a c := h.trans k (fun _ h => h.elim) (fun _ _ h => h)
/-- what comes behind changes only what is new -/
theorem then_new (h : Chg S a b) (k : Chg T b c) (hT : ∀ x, T x → a.heap.size ≤ x) : Chg S a c := h.trans k (fun _ h => h) (fun x hx h => absurd (hT x h) (by omega))
theorem mono (h : Chg S a b) (hS : ∀ x, S x → T x) : Chg T a b := ⟨h.os, h.tape, h.output, h.size, fun i hi hn => h.block i hi (fun e => hn (hS i e))⟩
theorem of_non (h : Chg Non a b) : Chg S a b := h.mono fun _ e => e.elim
theorem drew (h : Chg S a w) : Chg S a w.drew := ⟨h.os, h.tape, h.output, h.size, h.block⟩
theorem drewN (h : Chg S a w) (n : Nat) : Chg S a (w.drewN n) := ⟨h.os, h.tape, h.output, h.size, h.block⟩
theorem alloc (h : Chg S a w) (o : Obj) : Chg S a (w.alloc o) :=
  ⟨h.os, h.tape, h.output, Nat.le_trans h.size (by simp), fun i hi hn => (Below.heap_alloc w o i (Nat.lt_of_lt_of_le hi h.size)).trans (h.block i hi hn)⟩
theorem setCell (h : Chg S a w) {p : Addr} (hp : S p.block ∨ a.heap.size ≤ p.block) (u : Value) : Chg S a (w.setCell p u) :=
  ⟨h.os, h.tape, h.output, by simpa [World.setCell] using h.size, fun i hi hn => (Below.heap_setCell w p u i (by
    rintro rfl
    rcases hp with hp | hp
    · exact hn hp
    · omega)).trans (h.block i hi hn)⟩
theorem setRow (h : Chg S a w) {g : Nat} (hp : S g ∨ a.heap.size ≤ g) (cs : Array Value) : Chg S a (w.setRow g cs) :=
  ⟨h.os, h.tape, h.output, by simpa [World.setRow] using h.size, fun i hi hn => (setRow_other w g i cs (by
    rintro rfl
    rcases hp with hp | hp
    · exact hn hp
    · omega)).trans (h.block i hi hn)⟩
theorem of_below {B : Nat} (h : Below B w w') (hB : w.heap.size ≤ B) : Chg S w w' := ⟨h.os, h.tape, h.output, h.size, fun i hi _ => h.block i (by omega)⟩
theorem below {B : Nat} (h : Chg S w w') (hS : ∀ k, S k → B ≤ k) (hB : B ≤ w.heap.size) : Below B w w' :=
  ⟨h.os, h.tape, h.output, h.size, fun i hi => h.block i (by omega) (fun e => absurd (hS i e) (by omega))⟩
theorem below_non (h : Chg Non w w') : Below w.heap.size w w' := h.below (fun _ e => e.elim) (Nat.le_refl _)
theorem grown {row : Option Nat} (h : Chg S a w) (hg : w.grownBy w' row) (hr : ∀ g, row = some g → S g ∨ a.heap.size ≤ g) : Chg S a w' :=
  ⟨hg.os.trans h.os, hg.tape.trans h.tape, hg.output.trans h.output, Nat.le_trans h.size hg.size, fun i hi hn =>
    (hg.block i (Nat.lt_of_lt_of_le hi h.size) (fun e => by
      rcases hr i e.symm with h' | h'
      · exact hn h'
      · omega)).trans (h.block i hi hn)⟩
theorem cell (h : Chg S w w') {p : Addr} (hp : p.block < w.heap.size) (hn : ¬ S p.block) : w'.cell? p = w.cell? p := World.cell?_of_block (h.block p.block hp hn)
theorem frozen (h : Chg S w w') {p : Addr} (hp : p.block < w.heap.size) (hn : ¬ S p.block) : w'.frozen? p = w.frozen? p := World.frozen?_of_block (h.block p.block hp hn)
end Chg

theorem lt_of_cell {w : World} {p : Addr} {v : Value} (h : w.cell? p = some v) : p.block < w.heap.size := by
  rcases Nat.lt_or_ge p.block w.heap.size with hlt | hge
  · exact hlt
  · simp [World.cell?, Array.getElem?_eq_none hge] at h

theorem Chg.cell_some {S : Nat → Prop} {w w' : World} (h : Chg S w w') {p : Addr} {v : Value} (hc : w.cell? p = some v) (hn : ¬ S p.block) : w'.cell? p = some v :=
  (h.cell (lt_of_cell hc) hn).trans hc

/-- a byte as a value -/
def bv (x : UInt8) : Value := .int .u8 (x.toNat : Int)

/-- the slice that begins at A holds the bytes l -/
def Rd (w : World) (A : Option Addr) (l : List UInt8) : Prop :=
  ∀ (i : Nat) (x : UInt8), l[i]? = some x → ∃ b o, A = some ⟨b, o, none⟩ ∧ w.cell? ⟨b, o + i, none⟩ = some (.int .u8 (x.toNat : Int))

theorem Rd.nil (w : World) (A : Option Addr) : Rd w A [] := fun i x h => by simp at h

theorem Rd.at_ {w : World} {A : Option Addr} {l : List UInt8} (h : Rd w A l) (h0 : 0 < l.length) :
    ∃ b o, A = some ⟨b, o, none⟩ ∧ b < w.heap.size ∧ ∀ i (hi : i < l.length), w.cell? ⟨b, o + i, none⟩ = some (.int .u8 (l[i].toNat : Int)) := by
  obtain ⟨b, o, rfl, hc⟩ := h 0 l[0] (List.getElem?_eq_getElem h0)
  refine ⟨b, o, rfl, lt_of_cell hc, fun i hi => ?_⟩
  obtain ⟨b', o', e, hc'⟩ := h i l[i] (List.getElem?_eq_getElem hi)
  simp only [Option.some.injEq, Addr.mk.injEq, and_true] at e
  obtain ⟨rfl, rfl⟩ := e
  exact hc'

theorem Rd.of_at {w : World} {b o : Nat} {l : List UInt8} (h : ∀ i (hi : i < l.length), w.cell? ⟨b, o + i, none⟩ = some (.int .u8 (l[i].toNat : Int))) : Rd w (some ⟨b, o, none⟩) l := by
  intro i x hx
  obtain ⟨hi, rfl⟩ := List.getElem?_eq_some_iff.1 hx
  exact ⟨b, o, rfl, h i hi⟩

theorem Rd.keep {S : Nat → Prop} {w w' : World} {A : Option Addr} {l : List UInt8} (h : Rd w A l) (hc : Chg S w w') (hn : ∀ b o, A = some ⟨b, o, none⟩ → l ≠ [] → ¬ S b) : Rd w' A l := by
  intro i x hx
  obtain ⟨b, o, rfl, hcell⟩ := h i x hx
  exact ⟨b, o, rfl, hc.cell_some hcell (hn b o rfl (by rintro rfl; simp at hx))⟩

theorem Rd.non {w w' : World} {A : Option Addr} {l : List UInt8} (h : Rd w A l) (hc : Chg Non w w') : Rd w' A l := h.keep hc fun _ _ _ _ e => e.elim

theorem Rd.drop {w : World} {b o : Nat} {l : List UInt8} (h : Rd w (some ⟨b, o, none⟩) l) (k : Nat) : Rd w (some ⟨b, o + k, none⟩) (l.drop k) := by
  intro i x hx
  rw [List.getElem?_drop] at hx
  obtain ⟨b', o', e, hc⟩ := h (k + i) x hx
  simp only [Option.some.injEq, Addr.mk.injEq, and_true] at e
  obtain ⟨rfl, rfl⟩ := e
  exact ⟨b, o + k, rfl, by rw [Nat.add_assoc]; exact hc⟩

theorem Rd.take {w : World} {A : Option Addr} {l : List UInt8} (h : Rd w A l) (k : Nat) : Rd w A (l.take k) := by
  intro i x hx
  have hk : i < k := by have := (List.getElem?_eq_some_iff.1 hx).1; rw [List.length_take] at this; omega
  rw [List.getElem?_take_of_lt hk] at hx
  exact h i x hx

/-- the slice that begins at A holds the bytes l, in a block from B on, and may be written -/
def Own (B : Nat) (w : World) (A : Option Addr) (l : List UInt8) : Prop :=
  ∀ (i : Nat) (x : UInt8), l[i]? = some x → ∃ b o, A = some ⟨b, o, none⟩ ∧ B ≤ b ∧ w.cell? ⟨b, o + i, none⟩ = some (.int .u8 (x.toNat : Int)) ∧ w.frozen? ⟨b, o + i, none⟩ = false

theorem Own.rd {B : Nat} {w : World} {A : Option Addr} {l : List UInt8} (h : Own B w A l) : Rd w A l := fun i x hx => by
  obtain ⟨b, o, e, _, hc, _⟩ := h i x hx
  exact ⟨b, o, e, hc⟩
theorem Own.nil (B : Nat) (w : World) (A : Option Addr) : Own B w A [] := fun i x h => by simp at h
theorem Own.mono {B B' : Nat} {w : World} {A : Option Addr} {l : List UInt8} (h : Own B w A l) (hB : B' ≤ B) : Own B' w A l := fun i x hx => by
  obtain ⟨b, o, e, hb, hc, hf⟩ := h i x hx
  exact ⟨b, o, e, by omega, hc, hf⟩
theorem Own.keep {S : Nat → Prop} {B : Nat} {w w' : World} {A : Option Addr} {l : List UInt8} (h : Own B w A l) (hc : Chg S w w') (hn : ∀ b o, A = some ⟨b, o, none⟩ → B ≤ b → l ≠ [] → ¬ S b) : Own B w' A l := by
  intro i x hx
  obtain ⟨b, o, rfl, hb, hcell, hf⟩ := h i x hx
  have hne := hn b o rfl hb (by rintro rfl; simp at hx)
  exact ⟨b, o, rfl, hb, hc.cell_some hcell hne, (hc.frozen (lt_of_cell hcell) hne).trans hf⟩
theorem Own.non {B : Nat} {w w' : World} {A : Option Addr} {l : List UInt8} (h : Own B w A l) (hc : Chg Non w w') : Own B w' A l := h.keep hc fun _ _ _ _ _ e => e.elim
theorem Own.ge {B : Nat} {w : World} {b o : Nat} {l : List UInt8} (h : Own B w (some ⟨b, o, none⟩) l) (h0 : l ≠ []) : B ≤ b := by
  obtain ⟨x, r, rfl⟩ := List.exists_cons_of_ne_nil h0
  obtain ⟨b', o', e, hb, _⟩ := h 0 x rfl
  simp only [Option.some.injEq, Addr.mk.injEq, and_true] at e
  obtain ⟨rfl, rfl⟩ := e
  exact hb

theorem own_new (w : World) (t : TypeId) (cs : Array Value) (l : List UInt8) (h : cs.toList = l.map bv) : Own w.heap.size (w.alloc (.cells cs t)) (some ⟨w.heap.size, 0, none⟩) l := by
  intro i x hx
  have hb : (w.alloc (.cells cs t)).heap[w.heap.size]? = some (.cells cs t (0, 0)) := (MapKept.heap_alloc w _).1
  have hc : cs[i]? = some (bv x) := by
    rw [← Array.getElem?_toList, h, List.getElem?_map, hx]; rfl
  exact ⟨w.heap.size, 0, rfl, Nat.le_refl _, by rw [Nat.zero_add]; simp only [World.cell?]; rw [hb]; exact hc, by simp only [World.frozen?]; rw [hb]; simp⟩

/-- a call hands back new bytes of its own; nothing that was there has turned -/
def RetB (w : World) (l : List UInt8) (e : Ending) (w' : World) : Prop :=
  ∃ A c, e = .returned (.slice A l.length c) ∧ l.length ≤ c ∧ c ≤ maxLen ∧ Own w.heap.size w' A l ∧ Chg Non w w'

theorem RetB.from {w w1 w' : World} {l : List UInt8} {e : Ending} (h : RetB w1 l e w') (hg : Chg Non w w1) : RetB w l e w' := by
  obtain ⟨A, c, he, hc, hm, ho, hg'⟩ := h
  exact ⟨A, c, he, hc, hm, ho.mono hg.size, hg.then_non hg'⟩

theorem quiet_left {P : Program} {f : FuncId} {args : Array Value} {w : World} {n : Nat} {v : Value}
    (h : Calls P f args (w.drewN n) fun e w' => e = .returned v ∧ w.drewN n = w') : Calls P f args (w.drewN n) fun e w'' => e = .returned v ∧ ∃ m, w'' = w.drewN m :=
  h.mono fun _ _ ⟨he, hm⟩ => ⟨he, n, hm.symm⟩
theorem quiet_add_left {P : Program} {f : FuncId} {args : Array Value} {w : World} {a n : Nat} {v : Value}
    (h : Calls P f args (w.drewN (a + n)) fun e w' => e = .returned v ∧ w.drewN (a + n) = w') :
    Calls P f args (w.drewN (a + n)) fun e w'' => e = .returned v ∧ ∃ m, w'' = w.drewN (a + m) :=
  h.mono fun _ _ ⟨he, hm⟩ => ⟨he, n, hm.symm⟩
theorem Rd.drewN {w : World} {A : Option Addr} {l : List UInt8} (h : Rd w A l) (n : Nat) : Rd (w.drewN n) A l := h

end Go.Proofs.YtgmpacndjmmgjaaGreat
end
section
namespace Go.Proofs.YtgmpacndjmmgjaaGreat
open Go.RowKit

theorem info_u8 : (Tryz.prog.info? 5).map (fun i => (i.zero, i.size, i.bytes)) = some (some (.int .u8 0), 1, 1) := by kernel_rfl

theorem madeCells_one (z : Value) (n : Nat) : madeCells #[z] n = Array.replicate n z := by
  apply Array.ext
  · simp [madeCells]
  · intro i h1 h2
    simp [madeCells, Nat.mod_one]

theorem mk_bytes (n : Int) (h0 : 0 ≤ n) (h1 : n ≤ 140737488355328) (W : World) :
    (Instr.makeSlice 35 (.int .i64 n) (.int .i64 n)).run Tryz.prog W = .ok (.slice (some ⟨W.heap.size, 0, none⟩) n.toNat n.toNat) (W.alloc (.cells (Array.replicate n.toNat (.int .u8 0)) 5)) := by
  obtain ⟨i, hi, hz, hs, hb⟩ := info_parts info_u8
  have h := run_make (P := Tryz.prog) W 35 5 i (.int .u8 0) Tryz.underlying35 hi hz .i64 .i64 n n h0 (Int.le_refl _) (by rw [hb]; omega) (by omega)
  rw [h, hs, Nat.mul_one]
  show Result.ok _ (W.alloc (.cells (madeCells #[.int .u8 0] n.toNat) _)) = _
  rw [madeCells_one]
end Go.Proofs.YtgmpacndjmmgjaaGreat
end
section
namespace Go.Proofs.YtgmpacndjmmgjaaGreat
open Go.RowKit
set_option linter.unusedVariables false

theorem rd_holds {w : World} {A : Option Addr} {l : List UInt8} {c : Nat} (h : Rd w A l) : Lib.HoldsBytes w (.slice A l.length c) l := by
  refine ⟨A, c, rfl, ?_, ?_⟩
  · rintro rfl
    cases l with
    | nil => rfl
    | cons x r =>
      obtain ⟨b, o, e, _⟩ := h 0 x rfl
      cases e
  · rintro a rfl i x hx
    obtain ⟨b, o, e, hc⟩ := h i x hx
    injection e with e
    subst e
    rw [show (⟨b, o, none⟩ : Addr).add i = ⟨b, o + i, none⟩ from by unfold Addr.add; split <;> simp_all]
    exact hc

theorem fresh_own {B : Nat} {w : World} {v : Value} {l : List UInt8} (h : Lib.FreshBytes B w v l) : ∃ A c, v = .slice A l.length c ∧ l.length ≤ c ∧ c ≤ maxLen ∧ Own B w A l := by
  obtain ⟨g, cap, zs, rfl, hB, hl, hm, hz, hr, hb, hc, hf⟩ := h
  refine ⟨_, _, rfl, hl, hm, ?_⟩
  intro i x hx
  have hi : i < l.length := (List.getElem?_eq_some_iff.1 hx).1
  refine ⟨g, 0, rfl, hB, ?_, by rw [Nat.zero_add]; exact hf i (by omega)⟩
  rw [Nat.zero_add, hc i (by omega)]
  have hz' : i < zs.length := by omega
  have h1 : zs.getD i 0 = zs[i] := by simp [List.getD, List.getElem?_eq_getElem hz']
  rw [h1]
  have h2 : (Lib.bytesOf (zs.take l.length))[i]? = some x := by rw [hb]; exact hx
  rw [Lib.bytesOf, List.getElem?_map, List.getElem?_take_of_lt hi, List.getElem?_eq_getElem hz'] at h2
  simp only [Option.map_some, Option.some.injEq] at h2
  have h3 := hr zs[i] (List.getElem_mem hz')
  rw [← h2, UInt8.toNat_ofNat']
  congr 2
  omega

/-- the cells from o on of block b hold the slices ps -/
def Parts (w : World) (b o : Nat) (ps : List (Option Addr × List UInt8 × Nat)) : Prop :=
  ∀ (i : Nat) p, ps[i]? = some p → w.cell? ⟨b, o + i, none⟩ = some (.slice p.1 p.2.1.length p.2.2) ∧ Rd w p.1 p.2.1

def cat (ps : List (Option Addr × List UInt8 × Nat)) : List UInt8 := (ps.map (·.2.1)).flatten

theorem add_plain (b o i : Nat) : (⟨b, o, none⟩ : Addr).add i = ⟨b, o + i, none⟩ := by unfold Addr.add; split <;> simp_all

theorem intercalate_nil (ls : List (List UInt8)) : Lib.join ls [] = ls.flatten := by
  unfold Lib.join
  induction ls with
  | nil => rfl
  | cons x r ih => cases r with
    | nil => simp [List.intercalate]
    | cons y s => simp only [List.intercalate, List.intersperse_cons_cons, List.flatten_cons, List.nil_append] at ih ⊢; rw [ih]

theorem lens_flatten (ls : List (List UInt8)) : Lib.lens ls = ls.flatten.length := by
  induction ls with
  | nil => rfl
  | cons x r ih => rw [Lib.lens_cons, List.flatten_cons, List.length_append, ih]

theorem RetB.of_fresh {w w' : World} {l : List UInt8} {v : Value} (h : Lib.FreshBytes w.heap.size w' v l) (hb : Below w.heap.size w w') : RetB w l (.returned v) w' := by
  obtain ⟨A, c, rfl, hc, hm, ho⟩ := fresh_own h
  exact ⟨A, c, rfl, hc, hm, ho, .of_below hb (Nat.le_refl _)⟩

theorem Join_any (b o n c : Nat) (ps : List (Option Addr × List UInt8 × Nat)) (w : World) (hn : ps.length = n) (hP : Parts w b o ps) (hcap : n ≤ c) (hlen : (cat ps).length ≤ 140737488355328) (hn47 : n ≤ 140737488355328) :
    Calls Tryz.prog 103 #[.slice (some ⟨b, o, none⟩) n c, .slice none 0 0] w (RetB w (cat ps)) := by
  subst hn
  rcases ps with _ | ⟨p, _ | ⟨q, r⟩⟩
  · refine (Tryz.bytes_Join_none _ _ _ _).mono ?_
    rintro e w' ⟨rfl, rfl⟩
    exact ⟨some ⟨w.heap.size, 0, none⟩, 0, rfl, Nat.le_refl _, by simp, Own.nil _ _ _, (Chg.refl _ _).alloc _⟩
  · obtain ⟨h1, h2⟩ := hP 0 p rfl
    obtain ⟨A, l, c'⟩ := p
    simp only [cat, List.map_cons, List.map_nil, List.flatten_cons, List.flatten_nil, List.append_nil, List.length_cons, List.length_nil, Nat.add_zero, Nat.zero_add] at *
    rcases Nat.eq_zero_or_pos l.length with h0 | h0
    · obtain rfl : l = [] := List.eq_nil_of_length_eq_zero h0
      refine (Tryz.bytes_Join_one_empty b o c A c' _ w h1).mono ?_
      rintro e w' ⟨rfl, rfl⟩
      exact ⟨none, 0, rfl, Nat.le_refl _, by simp, Own.nil _ _ _, Chg.refl _ _⟩
    · obtain ⟨b', o', rfl, hb', hc'⟩ := h2.at_ h0
      refine (Tryz.bytes_Join_one b o c ⟨b', o', none⟩ c' l _ w h1 ?_ h0 hlen).mono ?_
      · intro i x hx
        obtain ⟨hi, rfl⟩ := List.getElem?_eq_some_iff.1 hx
        rw [add_plain]
        exact hc' i hi
      · rintro e w' ⟨v, rfl, hf, hb⟩
        exact RetB.of_fresh hf hb
  · have hj : Lib.join ((p :: q :: r).map (·.2.1)) [] = cat (p :: q :: r) := intercalate_nil _
    have hll : Lib.lens ((p :: q :: r).map (·.2.1)) = (cat (p :: q :: r)).length := lens_flatten _
    refine (Tryz.bytes_Join_many b o (p :: q :: r).length c ((p :: q :: r).map fun p => Value.slice p.1 p.2.1.length p.2.2) ((p :: q :: r).map (·.2.1)) _ [] w (by simp) (by simp) ?_ hcap ?_ hn47 ?_).mono ?_
    · refine ⟨by simp, ?_, ?_⟩
      · intro i v hv
        rw [List.getElem?_map] at hv
        obtain ⟨x, hx, rfl⟩ := Option.map_eq_some_iff.1 hv
        rw [add_plain]
        exact (hP i x hx).1
      · intro i v l hv hl
        rw [List.getElem?_map] at hv hl
        obtain ⟨x, hx, rfl⟩ := Option.map_eq_some_iff.1 hv
        obtain ⟨y, hy, rfl⟩ := Option.map_eq_some_iff.1 hl
        rw [hx] at hy
        injection hy with hy
        subst hy
        exact rd_holds (hP i x hx).2
    · exact ⟨none, 0, rfl, fun _ => rfl, fun a h => by cases h⟩
    · rw [hll]; simpa using hlen
    · rintro e w' ⟨v, rfl, hf, hb⟩
      rw [hj] at hf
      exact RetB.of_fresh hf hb

set_option maxRecDepth 100000 in
set_option maxHeartbeats 1000000 in
theorem Cat_any (b o n c : Nat) (ps : List (Option Addr × List UInt8 × Nat)) (w : World) (hn : ps.length = n) (hP : Parts w b o ps) (hcap : n ≤ c) (hlen : (cat ps).length ≤ 140737488355328) (hn47 : n ≤ 140737488355328) :
    Calls Tryz.prog 80 #[.slice (some ⟨b, o, none⟩) n c] w (RetB w (cat ps)) := by
  go_enter Tryz.func80, Tryz.ntmps80
  go_wp2_with fail
  refine (Join_any b o n c ps w hn hP hcap hlen hn47).mono ?_
  rintro e w' ⟨A, c', rfl, hr⟩
  go_wp2
  go_ret
  exact ⟨A, c', rfl, hr⟩

theorem parts_new (w : World) (t : TypeId) (ps : List (Option Addr × List UInt8 × Nat)) (h : ∀ p ∈ ps, Rd w p.1 p.2.1) :
    Parts (w.alloc (.cells (ps.map fun p => Value.slice p.1 p.2.1.length p.2.2).toArray t)) w.heap.size 0 ps := by
  intro i p hp
  have hm : p ∈ ps := List.mem_of_getElem? hp
  refine ⟨?_, (h p hm).non ((Chg.refl _ _).alloc _)⟩
  rw [Nat.zero_add]
  simp only [World.cell?]
  rw [heap_alloc_new]
  simp [hp]

theorem Cat1 (A1 : Option Addr) (l1 : List UInt8) (c1 : Nat) (t : TypeId) (w : World) (g : Nat) (hg : w.heap.size = g) (h1 : Rd w A1 l1) (hl : l1.length ≤ 140737488355328) :
    Calls Tryz.prog 80 #[.slice (some ⟨g, 0, none⟩) 1 1] (w.alloc (.cells #[.slice A1 l1.length c1] t)) (RetB w l1) := by
  subst hg
  have hp := parts_new w t [(A1, l1, c1)] (by simpa using h1)
  refine (Cat_any w.heap.size 0 1 1 [(A1, l1, c1)] _ rfl hp (by omega) (by simpa [cat] using hl) (by omega)).mono ?_
  intro e w' h
  have : cat [(A1, l1, c1)] = l1 := by simp [cat]
  rw [this] at h
  exact h.from ((Chg.refl _ _).alloc _)

theorem Cat2 (A1 A2 : Option Addr) (l1 l2 : List UInt8) (c1 c2 : Nat) (t : TypeId) (w : World) (g : Nat) (hg : w.heap.size = g) (h1 : Rd w A1 l1) (h2 : Rd w A2 l2) (hl : l1.length + l2.length ≤ 140737488355328) (m : List UInt8) (hm : l1 ++ l2 = m) :
    Calls Tryz.prog 80 #[.slice (some ⟨g, 0, none⟩) 2 2] (w.alloc (.cells #[.slice A1 l1.length c1, .slice A2 l2.length c2] t)) (RetB w m) := by
  subst hm
  subst hg
  have hp := parts_new w t [(A1, l1, c1), (A2, l2, c2)] (by simpa using ⟨h1, h2⟩)
  refine (Cat_any w.heap.size 0 2 2 [(A1, l1, c1), (A2, l2, c2)] _ rfl hp (by omega) (by simpa [cat] using hl) (by omega)).mono ?_
  intro e w' h
  have : cat [(A1, l1, c1), (A2, l2, c2)] = l1 ++ l2 := by simp [cat]
  rw [this] at h
  exact h.from ((Chg.refl _ _).alloc _)

theorem Cat3 (A1 A2 A3 : Option Addr) (l1 l2 l3 : List UInt8) (c1 c2 c3 : Nat) (t : TypeId) (w : World) (g : Nat) (hg : w.heap.size = g) (h1 : Rd w A1 l1) (h2 : Rd w A2 l2) (h3 : Rd w A3 l3) (hl : l1.length + l2.length + l3.length ≤ 140737488355328) (m : List UInt8) (hm : l1 ++ l2 ++ l3 = m) :
    Calls Tryz.prog 80 #[.slice (some ⟨g, 0, none⟩) 3 3] (w.alloc (.cells #[.slice A1 l1.length c1, .slice A2 l2.length c2, .slice A3 l3.length c3] t)) (RetB w m) := by
  subst hm
  subst hg
  have hp := parts_new w t [(A1, l1, c1), (A2, l2, c2), (A3, l3, c3)] (by simpa using ⟨h1, h2, h3⟩)
  refine (Cat_any w.heap.size 0 3 3 [(A1, l1, c1), (A2, l2, c2), (A3, l3, c3)] _ rfl hp (by omega) (by simp [cat]; omega) (by omega)).mono ?_
  intro e w' h
  have : cat [(A1, l1, c1), (A2, l2, c2), (A3, l3, c3)] = l1 ++ l2 ++ l3 := by simp [cat]
  rw [this] at h
  exact h.from ((Chg.refl _ _).alloc _)

theorem conv_str (A : Option Addr) (l : List UInt8) (c : Nat) (w : World) (h : Rd w A l) :
    (convert 35 9 (.slice A l.length c)).run Tryz.prog w = .ok (.string ⟨l.toArray⟩) w := by
  rcases Nat.eq_zero_or_pos l.length with h0 | h0
  · obtain rfl : l = [] := List.eq_nil_of_length_eq_zero h0
    cases A with
    | none => exact run_convert_bytes_nil w _ _ Tryz.underlying35 Tryz.underlying5 _ _ _ Tryz.underlying9
    | some a =>
      have hl : (loadCells a 0).run Tryz.prog w = .ok (([] : List Int).map (Value.int .u8)).toArray w := run_loadCells_list (P := Tryz.prog) w a [] (fun j v hj => by simp at hj)
      show (convert 35 9 (.slice (some a) 0 c)).run Tryz.prog w = _
      rw [run_convert_bytes_string w _ _ _ _ 0 c Tryz.underlying35 Tryz.underlying5 Tryz.underlying9, run_bytesToString w _ 0 c [] hl]
      rfl
  · obtain ⟨b, o, rfl, hb, hc⟩ := h.at_ h0
    rw [run_convert_bytes_arg w _ _ Tryz.underlying35 Tryz.underlying5 b o l.length c (l.map fun x => (x.toNat : Int)) (by simp) (fun i hi => by rw [hc i hi]; simp [List.getD, List.getElem?_eq_getElem hi]) _ Tryz.underlying9]
    congr 2
    unfold strOfNums
    congr 2
    rw [List.map_map]
    conv => rhs; rw [← List.map_id l]
    apply List.map_congr_left
    intro x _
    simp

theorem compare_zero (a b : List UInt8) : (Lib.compareBytes a b == 0) = decide (a = b) := by
  induction a generalizing b with
  | nil => cases b <;> simp [Lib.compareBytes]
  | cons x r ih =>
    cases b with
    | nil => simp [Lib.compareBytes]
    | cons y t =>
      unfold Lib.compareBytes
      by_cases h1 : x < y
      · have : x ≠ y := by rintro rfl; exact absurd h1 (by simp)
        simp [h1, this]
      · by_cases h2 : y < x
        · have : x ≠ y := by rintro rfl; exact absurd h2 (by simp)
          simp [h1, h2, this]
        · have : x = y := by
            apply UInt8.toNat_inj.1
            rw [UInt8.lt_iff_toNat_lt] at h1 h2
            omega
          subst this
          simp only [h1, if_false, ih]
          simp

set_option maxRecDepth 100000 in
set_option maxHeartbeats 1000000 in
theorem Same_any (A B : Option Addr) (l m : List UInt8) (c d : Nat) (w : World) (h : Rd w A l) (k : Rd w B m) :
    Calls Tryz.prog 121 #[.slice A l.length c, .slice B m.length d] w fun e w' => e = .returned (.bool (decide (l = m))) ∧ w = w' := by
  have h1 := conv_str A l c w h
  have h2 := conv_str B m d w k
  go_enter Tryz.func121, Tryz.ntmps121
  go_wp2_with (go_at_call 128; refine (Tryz.strings_Compare _ _ _).mono ?_; rintro e w' ⟨rfl, rfl⟩)
  go_ret
  refine ⟨?_, rfl⟩
  rw [← compare_zero]
  rfl

theorem Clone_any (A : Option Addr) (l : List UInt8) (c : Nat) (w : World) (h : Rd w A l) (hlen : l.length ≤ 140737488355328) :
    Calls Tryz.prog 38 #[.slice A l.length c] w (RetB w l) := by
  rcases Nat.eq_zero_or_pos l.length with h0 | h0
  · obtain rfl : l = [] := List.eq_nil_of_length_eq_zero h0
    cases A with
    | none =>
      refine (Tryz.bytes_Clone_nil _ _ _).mono ?_
      rintro e w' ⟨rfl, rfl⟩
      exact ⟨none, 0, rfl, Nat.le_refl _, by simp, Own.nil _ _ _, Chg.refl _ _⟩
    | some a =>
      refine (Tryz.bytes_Clone_at a 0 c [] w rfl (by omega) (fun i hi => absurd hi (by omega))).mono ?_
      rintro e w' ⟨v, rfl, hown, hne, hb⟩
      rcases hown.2 with ⟨rfl, _⟩ | ⟨g, cap, cur, rfl, _, _, _, hm, _⟩
      · exact absurd rfl hne
      · exact ⟨_, cap, rfl, by simp, hm, Own.nil _ _ _, .of_below hb (Nat.le_refl _)⟩
  · obtain ⟨b, o, rfl, hb, hc⟩ := h.at_ h0
    refine (Tryz.bytes_Clone_at ⟨b, o, none⟩ l.length c (l.map fun x => (x.toNat : Int)) w (by simp) hlen (fun i hi => ?_)).mono ?_
    · rw [add_plain, hc i hi]
      simp [List.getD, List.getElem?_eq_getElem hi]
    · rintro e w' ⟨v, rfl, hown, hne, hb'⟩
      rcases hown.2 with ⟨rfl, _⟩ | ⟨g, cap, cur, rfl, hg, hh, hn, hm, hsz, htk⟩
      · exact absurd rfl hne
      · refine ⟨_, cap, rfl, hn, hm, ?_, .of_below hb' (Nat.le_refl _)⟩
        intro i x hx
        have hi : i < l.length := (List.getElem?_eq_some_iff.1 hx).1
        have hcell : cur[i]? = some (.int .u8 (x.toNat : Int)) := by
          have h2 : (cur.toList.take (l.length * 1))[i]? = some (.int .u8 (x.toNat : Int)) := by
            rw [htk]; simp [hx]
          rw [List.getElem?_take_of_lt (by omega)] at h2
          simpa using h2
        exact ⟨g, 0, rfl, hg, by rw [Nat.zero_add]; simp only [World.cell?]; rw [hh]; exact hcell, by simp only [World.frozen?]; rw [hh]; simp⟩
end Go.Proofs.YtgmpacndjmmgjaaGreat
end
section
namespace Go.Proofs.YtgmpacndjmmgjaaGreat

/-- the row of n bytes of a number -/
def be (x : Nat) : Nat → List UInt8
  | 0 => []
  | n + 1 => be (x / 256) n ++ [UInt8.ofNat x]

/-- the number of a row -/
def num (l : List UInt8) : Nat := l.foldl (fun a d => 256 * a + d.toNat) 0

theorem be_length (x n : Nat) : (be x n).length = n := by
  induction n generalizing x with
  | zero => rfl
  | succ n ih => simp [be, ih]

theorem num_snoc (l : List UInt8) (d : UInt8) : num (l ++ [d]) = 256 * num l + d.toNat := by simp [num]
theorem num_nil : num [] = 0 := rfl

theorem ofNat_toNat (x : Nat) : (UInt8.ofNat x).toNat = x % 256 := by simp

theorem num_be (x n : Nat) (h : x < 256 ^ n) : num (be x n) = x := by
  induction n generalizing x with
  | zero => simp at h; subst h; rfl
  | succ n ih =>
    have hx : x / 256 < 256 ^ n := by rw [Nat.div_lt_iff_lt_mul (by omega)]; rw [Nat.pow_succ] at h; exact h
    simp only [be, num_snoc, ih _ hx, ofNat_toNat]
    omega

theorem be_num (l : List UInt8) : be (num l) l.length = l := by
  suffices h : ∀ n (l : List UInt8), l.length = n → be (num l) n = l from h _ l rfl
  intro n
  induction n with
  | zero => intro l h; have := List.eq_nil_of_length_eq_zero h; subst this; rfl
  | succ n ih =>
    intro l h
    have hne : l ≠ [] := by rintro rfl; simp at h
    obtain ⟨r, d, rfl⟩ : ∃ r d, l = r ++ [d] := ⟨l.dropLast, l.getLast hne, (List.dropLast_concat_getLast hne).symm⟩
    have hr : r.length = n := by simpa using h
    have hd := d.toNat_lt
    rw [num_snoc, be]
    have e1 : (256 * num r + d.toNat) / 256 = num r := by omega
    have e2 : UInt8.ofNat (256 * num r + d.toNat) = d := by
      apply UInt8.toNat_inj.1
      rw [ofNat_toNat]
      omega
    rw [e1, e2, ih r hr]

theorem num_lt (l : List UInt8) : num l < 256 ^ l.length := by
  suffices h : ∀ n (l : List UInt8), l.length = n → num l < 256 ^ n from h _ l rfl
  intro n
  induction n with
  | zero => intro l h; have := List.eq_nil_of_length_eq_zero h; subst this; simp [num]
  | succ n ih =>
    intro l h
    have hne : l ≠ [] := by rintro rfl; simp at h
    obtain ⟨r, d, rfl⟩ : ∃ r d, l = r ++ [d] := ⟨l.dropLast, l.getLast hne, (List.dropLast_concat_getLast hne).symm⟩
    have hr : r.length = n := by simpa using h
    have hd := d.toNat_lt
    have := ih r hr
    rw [num_snoc, Nat.pow_succ]
    omega

theorem be_inj (x y n : Nat) (hx : x < 256 ^ n) (hy : y < 256 ^ n) (h : be x n = be y n) : x = y := by
  rw [← num_be x n hx, ← num_be y n hy, h]

theorem num_take_snoc (l : List UInt8) (k : Nat) (h : k < l.length) : num (l.take (k + 1)) = 256 * num (l.take k) + l[k].toNat := by
  rw [List.take_succ_eq_append_getElem h, num_snoc]

theorem num_take_lt (l : List UInt8) (k : Nat) (h : k ≤ l.length) : num (l.take k) < 256 ^ k := by
  have := num_lt (l.take k)
  rw [List.length_take, Nat.min_eq_left h] at this
  exact this

end Go.Proofs.YtgmpacndjmmgjaaGreat
end
section
namespace Go.Proofs.YtgmpacndjmmgjaaGreat
open Go.RowKit
set_option linter.unusedVariables false

theorem be4 (x : Nat) : be x 4 = [UInt8.ofNat (x / 256 / 256 / 256), UInt8.ofNat (x / 256 / 256), UInt8.ofNat (x / 256), UInt8.ofNat x] := rfl
theorem be8 (x : Nat) : be x 8 = [UInt8.ofNat (x / 256 / 256 / 256 / 256 / 256 / 256 / 256), UInt8.ofNat (x / 256 / 256 / 256 / 256 / 256 / 256), UInt8.ofNat (x / 256 / 256 / 256 / 256 / 256), UInt8.ofNat (x / 256 / 256 / 256 / 256),
  UInt8.ofNat (x / 256 / 256 / 256), UInt8.ofNat (x / 256 / 256), UInt8.ofNat (x / 256), UInt8.ofNat x] := rfl
theorem bv_ofNat (x : Nat) : bv (UInt8.ofNat x) = .int .u8 ((x : Int) % 256) := by
  simp only [bv, ofNat_toNat]; rfl

set_option maxRecDepth 100000 in
set_option maxHeartbeats 1000000 in
theorem Row4 (x : Nat) (w : World) (h1 : x < 18446744073709551616) :
    Calls Tryz.prog 109 #[.int .u64 x, .int .i64 4] w (RetB w (be x 4)) := by
  have hmk : ∀ W : World, (Instr.makeSlice 35 (.int .i64 4) (.int .i64 4)).run Tryz.prog W = .ok (.slice (some ⟨W.heap.size, 0, none⟩) 4 4) (W.alloc (.cells #[.int .u8 0, .int .u8 0, .int .u8 0, .int .u8 0] 5)) := mk_bytes 4 (by omega) (by omega)
  have h0 : (0 : Int) ≤ x := by omega
  have h2 : (x : Int) < 18446744073709551616 := by omega
  go_enter Tryz.func109, Tryz.ntmps109
  go_wp2
  refine wp_loop_rounds 5 ?_
  rw [rounds_succ]
  go_wp2
  rw [rounds_succ]
  go_wp2
  rw [rounds_succ]
  go_wp2
  rw [rounds_succ]
  go_wp2
  rw [rounds_succ]
  go_wp2
  go_ret
  refine ⟨some ⟨w.heap.size, 0, none⟩, 4, by rw [be_length]; rfl, by rw [be_length]; omega, by unfold maxLen; omega, own_new _ _ _ _ ?_, (Chg.refl _ _).alloc _⟩
  simp only [be4, List.map_cons, List.map_nil, bv_ofNat]
  rfl

set_option maxRecDepth 100000 in
set_option maxHeartbeats 1000000 in
theorem Row8 (x : Nat) (w : World) (h1 : x < 18446744073709551616) :
    Calls Tryz.prog 109 #[.int .u64 x, .int .i64 8] w (RetB w (be x 8)) := by
  have hmk : ∀ W : World, (Instr.makeSlice 35 (.int .i64 8) (.int .i64 8)).run Tryz.prog W = .ok (.slice (some ⟨W.heap.size, 0, none⟩) 8 8) (W.alloc (.cells #[.int .u8 0, .int .u8 0, .int .u8 0, .int .u8 0, .int .u8 0, .int .u8 0, .int .u8 0, .int .u8 0] 5)) := mk_bytes 8 (by omega) (by omega)
  have h0 : (0 : Int) ≤ x := by omega
  have h2 : (x : Int) < 18446744073709551616 := by omega
  go_enter Tryz.func109, Tryz.ntmps109
  go_wp2
  refine wp_loop_rounds 9 ?_
  iterate 9
    rw [rounds_succ]
    go_wp2
  go_ret
  refine ⟨some ⟨w.heap.size, 0, none⟩, 8, by rw [be_length]; rfl, by rw [be_length]; omega, by unfold maxLen; omega, own_new _ _ _ _ ?_, (Chg.refl _ _).alloc _⟩
  have e : ((x / 256 / 256 / 256 / 256 / 256 / 256 / 256 : Nat) : Int) % 256 = (x : Int) / 256 / 256 / 256 / 256 / 256 / 256 / 256 := by omega
  simp only [be8, List.map_cons, List.map_nil, bv_ofNat, e]
  rfl

set_option maxRecDepth 100000 in
set_option maxHeartbeats 1000000 in
theorem Put32 (x : Nat) (w : World) (h1 : x < 4294967296) :
    Calls Tryz.prog 110 #[.int .u32 x] w (RetB w (be x 4)) := by
  have h0 : (0 : Int) ≤ x := by omega
  have h2 : (x : Int) < 4294967296 := by omega
  go_enter Tryz.func110, Tryz.ntmps110
  go_wp2_with fail
  refine (Row4 x w (by omega)).mono ?_
  rintro e w' ⟨A, c, rfl, hc, hm, ho, hg⟩
  go_wp2
  go_ret
  exact ⟨A, c, rfl, hc, hm, ho, hg⟩

set_option maxRecDepth 100000 in
set_option maxHeartbeats 1000000 in
theorem Put64 (x : Nat) (w : World) (h1 : x < 18446744073709551616) :
    Calls Tryz.prog 96 #[.int .u64 x] w (RetB w (be x 8)) := by
  go_enter Tryz.func96, Tryz.ntmps96
  go_wp2_with fail
  refine (Row8 x w (by omega)).mono ?_
  rintro e w' ⟨A, c, rfl, hc, hm, ho, hg⟩
  go_wp2
  go_ret
  exact ⟨A, c, rfl, hc, hm, ho, hg⟩

theorem intEq {k : IntKind} {a b : Int} (h : a = b) : Value.int k a = Value.int k b := by rw [h]

set_option maxRecDepth 100000 in
set_option maxHeartbeats 1000000 in
theorem Number_ok (A : Option Addr) (l : List UInt8) (c : Nat) (w : World) (hr : Rd w A l) (h1 : 1 ≤ l.length) (h8 : l.length ≤ 8) :
    Calls Tryz.prog 123 #[.slice A l.length c] w fun e w' => e = .returned (.tuple #[.int .u64 (num l : Nat), .bool true]) ∧ w = w' := by
  obtain ⟨b, o, rfl, hb, hc⟩ := hr.at_ (by omega)
  have HC := Lib.hid hc
  clear hc
  have g1 : decide ((l.length : Int) < 1) = false := by simp; omega
  have g2 : decide ((l.length : Int) > 8) = false := by simp; omega
  go_enter Tryz.func123, Tryz.ntmps123
  go_wp2
  go_loop [4, 17] (fun x i => ∃ k : Nat, k ≤ l.length ∧ i = .int .i64 k ∧ x = .int .u64 (num (l.take k) : Nat)) (fun _ i => l.length - (intOf i).toNat)
  case atStart => exact ⟨0, Nat.zero_le _, rfl, rfl⟩
  case round =>
    obtain ⟨k, hk, rfl, rfl⟩ := hrel
    by_cases hlt : k < l.length
    · have hcell := HC.out k hlt
      have hd := (l[k]'hlt).toNat_lt
      have hn : num (l.take k) < 72057594037927936 := by
        have h1 := num_take_lt l k hk
        have h2 : 256 ^ k ≤ 256 ^ 7 := Nat.pow_le_pow_right (by omega) (by omega)
        omega
      have HS := num_take_snoc l k hlt
      obtain ⟨d, hd'⟩ : ∃ d : Nat, (l[k]'hlt).toNat = d := ⟨_, rfl⟩
      rw [hd'] at hcell hd HS
      clear hd'
      obtain ⟨v, hv⟩ : ∃ v : Nat, num (l.take k) = v := ⟨_, rfl⟩
      rw [hv] at hn HS ⊢
      clear hv
      replace HS := Lib.hid HS
      go_wp2
      go_round
      case rel => exact ⟨k + 1, by omega, by go_num, by rw [HS.out]; exact intEq (by omega)⟩
      case measure => simp [intOf]; omega
    · go_wp2
      go_ret2
      refine ⟨?_, rfl⟩
      have e : l.take k = l := List.take_of_length_le (by omega)
      rw [e]
      rfl

set_option maxRecDepth 100000 in
set_option maxHeartbeats 1000000 in
theorem Number_no (A : Option Addr) (n c : Nat) (w : World) (h : n < 1 ∨ 8 < n) :
    Calls Tryz.prog 123 #[.slice A n c] w fun e w' => e = .returned (.tuple #[.int .u64 0, .bool false]) ∧ w = w' := by
  rcases h with h | h
  · have g1 : decide ((n : Int) < 1) = true := by simp; omega
    go_enter Tryz.func123, Tryz.ntmps123
    go_wp2
    go_ret2
    exact ⟨rfl, rfl⟩
  · have g1 : decide ((n : Int) < 1) = false := by simp; omega
    have g2 : decide ((n : Int) > 8) = true := by simp; omega
    go_enter Tryz.func123, Tryz.ntmps123
    go_wp2
    go_ret2
    exact ⟨rfl, rfl⟩

set_option maxRecDepth 100000 in
set_option maxHeartbeats 1000000 in
theorem load_ok (A : Option Addr) (l : List UInt8) (c n : Nat) (w : World) (hr : Rd w A l) (hl : l.length = n) (h1 : 1 ≤ n) (h8 : n ≤ 8) (hcap : n ≤ c) (hc63 : c ≤ 9223372036854775807) :
    Calls Tryz.prog 106 #[.slice A n c, .int .i64 0, .int .i64 n] w fun e w' => e = .returned (.tuple #[.int .u64 (num l : Nat), .bool true]) ∧ w = w' := by
  subst hl
  obtain ⟨b, o, rfl, hb, hc⟩ := hr.at_ (by omega)
  clear hc
  go_enter Tryz.func106, Tryz.ntmps106
  go_wp2_with fail
  refine (Number_ok _ l c _ hr h1 h8).mono ?_
  rintro e w' ⟨rfl, rfl⟩
  go_wp2
  go_ret2
  exact ⟨rfl, rfl⟩

set_option maxRecDepth 100000 in
set_option maxHeartbeats 1000000 in
theorem Load64_ok (A : Option Addr) (l : List UInt8) (c : Nat) (w : World) (hr : Rd w A l) (hl : l.length = 8) (hcap : 8 ≤ c) (hc63 : c ≤ 9223372036854775807) :
    Calls Tryz.prog 84 #[.slice A 8 c, .int .i64 0] w fun e w' => e = .returned (.tuple #[.int .u64 (num l : Nat), .bool true]) ∧ w = w' := by
  go_enter Tryz.func84, Tryz.ntmps84
  go_wp2_with fail
  refine (load_ok _ l c 8 _ hr hl (by omega) (by omega) hcap hc63).mono ?_
  rintro e w' ⟨rfl, rfl⟩
  go_wp2
  go_ret2
  exact ⟨rfl, rfl⟩
end Go.Proofs.YtgmpacndjmmgjaaGreat
end
section
namespace Go.Proofs.YtgmpacndjmmgjaaGreat
open Go.RowKit
set_option linter.unusedVariables false

/-- block p is a writer, from block B on, that holds the form l, and its error -/
def IsW (B : Nat) (w : World) (p : Nat) (l : List UInt8) (er : Int) : Prop :=
  B ≤ p ∧ ∃ v, w.heap[p]? = some (.cells #[v, .bool true, .int .i64 er] 125 (0, 0)) ∧ w.ownsRow B 5 1 v l.length (l.map bv)

set_option maxRecDepth 100000 in
set_option maxHeartbeats 2000000 in
theorem wnone_any (p : Nat) (v : Value) (er : Int) (w : World) (hb : w.heap[p]? = some (.cells #[v, .bool true, .int .i64 er] 125 (0, 0))) :
    Calls Tryz.prog 97 #[.pointer (some ⟨p, 0, none⟩)] w fun e w' => e = .returned (.bool false) ∧ w = w' := by
  have h1 : w.cell? ⟨p, 1, none⟩ = some (.bool true) := by rw [cell_of_row _ _ _ _ _ _ hb]; rfl
  clear hb
  go_enter Tryz.func97, Tryz.ntmps97
  go_wp2
  go_ret
  exact ⟨rfl, rfl⟩

set_option maxRecDepth 100000 in
set_option maxHeartbeats 2000000 in
theorem NewWriter_any (w : World) :
    Calls Tryz.prog 67 #[] w fun e w' => e = .returned (.pointer (some ⟨w.heap.size, 0, none⟩)) ∧ IsW w.heap.size w' w.heap.size [] 0 ∧ Chg Non w w' := by
  go_enter Tryz.func67, Tryz.ntmps67
  go_wp2
  go_ret
  exact ⟨rfl, ⟨Nat.le_refl _, _, heap_alloc_new _ _, World.ownsRow_nil _ _ _ _⟩, (Chg.refl _ _).alloc _⟩

theorem own_chg {w w' : World} {B : Nat} {e : TypeId} {size : Nat} {v : Value} {n : Nat} {xs : List Value} (h : w.ownsRow B e size v n xs) (hg : Chg Non w w') : w'.ownsRow B e size v n xs :=
  h.kept (row := none) ⟨hg.os, hg.tape, hg.output, hg.size, fun k hk _ => hg.block k hk (fun e => e)⟩ (by cases v.ownBlock <;> simp)
theorem own_ne {w : World} {B : Nat} {e t : TypeId} {size : Nat} {v : Value} {n g : Nat} {xs : List Value} {cs : Array Value} {fr : Nat × Nat} (h : w.ownsRow B e size v n xs) (hg : w.heap[g]? = some (.cells cs t fr)) (hne : e ≠ t) : v.ownBlock ≠ some g := by
  rcases h.2 with ⟨rfl, _⟩ | ⟨g', cap, cur, rfl, _, hh, _⟩
  · simp [Value.ownBlock]
  · intro he
    have : g' = g := by simpa [Value.ownBlock] using he
    subst this
    rw [hg] at hh
    injection hh with hh
    injection hh with _ ht
    exact hne ht.symm
theorem isW_chg {B p : Nat} {l : List UInt8} {er : Int} {w w' : World} (h : IsW B w p l er) (hg : Chg Non w w') : IsW B w' p l er := by
  obtain ⟨hB, v, hb, ho⟩ := h
  exact ⟨hB, v, (hg.block p (Array.getElem?_eq_some_iff.1 hb).1 (fun e => e)).trans hb, own_chg ho hg⟩
theorem own_reads {B : Nat} {w : World} {v : Value} {l : List UInt8} (h : w.ownsRow B 5 1 v l.length (l.map bv)) : ∃ A c, v = .slice A l.length c ∧ Rd w A l := by
  rcases h.2 with ⟨rfl, h0⟩ | ⟨g, cap, cur, rfl, _⟩
  · have : l = [] := List.eq_nil_of_length_eq_zero h0
    subst this
    exact ⟨none, 0, rfl, Rd.nil _ _⟩
  · refine ⟨_, cap, rfl, fun i x hx => ⟨g, 0, rfl, ?_⟩⟩
    have := h.cells (g := g) rfl i (bv x) (by rw [List.getElem?_map, hx]; rfl)
    rw [add_plain] at this
    exact this
theorem news_of {w : World} {b o : Nat} {m : List UInt8} (h : ∀ i (hi : i < m.length), w.cell? ⟨b, o + i, none⟩ = some (.int .u8 (m[i].toNat : Int))) :
    ∀ j u, (m.map bv)[j]? = some u → w.cell? ((⟨b, o, none⟩ : Addr).add j) = some u := by
  intro j u hu
  rw [List.getElem?_map] at hu
  obtain ⟨x, hx, rfl⟩ := Option.map_eq_some_iff.1 hu
  obtain ⟨hj, rfl⟩ := List.getElem?_eq_some_iff.1 hx
  rw [add_plain]
  exact h j hj
theorem bv_one (m : List UInt8) : ∀ u ∈ m.map bv, u.oneCell' = true := by
  intro u hu
  obtain ⟨x, _, rfl⟩ := List.mem_map.1 hu
  rfl

theorem cat_take_len (ps : List (Option Addr × List UInt8 × Nat)) (k : Nat) (h : k < ps.length) : (cat (ps.take (k + 1))).length = (cat (ps.take k)).length + (ps[k]'h).2.1.length := by
  unfold cat
  rw [List.take_succ_eq_append_getElem h, List.map_append, List.flatten_append, List.length_append]
  simp only [List.map_cons, List.map_nil, List.flatten_cons, List.flatten_nil, List.append_nil]
theorem cat_take_le (ps : List (Option Addr × List UInt8 × Nat)) (k : Nat) : (cat (ps.take k)).length ≤ (cat ps).length := by
  have h : cat ps = cat (ps.take k) ++ cat (ps.drop k) := by
    unfold cat
    rw [← List.flatten_append, ← List.map_append, List.take_append_drop]
  rw [h, List.length_append]
  omega

theorem isW_after {B p gg cap : Nat} {l m : List UInt8} {v : Value} {w w1 w2 : World} (hBp : B ≤ p) (hb : w.heap[p]? = some (.cells #[v, .bool true, .int .i64 0] 125 (0, 0))) (hg1 : Chg Non w w1) (hown : w.ownsRow B 5 1 v l.length (l.map bv))
    (hown2 : w2.ownsRow B 5 1 (.slice (some ⟨gg, 0, none⟩) (l.length + m.length) cap) (l.length + m.length) (l.map bv ++ m.map bv)) (hgrow : w1.grownBy w2 v.ownBlock)
    (hat : v.ownBlock = some gg ∨ gg = w1.heap.size) (hnp : v.ownBlock ≠ some p) :
    IsW B (w2.setCell ⟨p, 0, none⟩ (.slice (some ⟨gg, 0, none⟩) (l.length + m.length) cap)) p (l ++ m) 0 ∧ Below B w (w2.setCell ⟨p, 0, none⟩ (.slice (some ⟨gg, 0, none⟩) (l.length + m.length) cap)) := by
  have hlp : p < w.heap.size := (Array.getElem?_eq_some_iff.1 hb).1
  have hb2 : w2.heap[p]? = some (.cells #[v, .bool true, .int .i64 0] 125 (0, 0)) :=
    (hgrow.block p (Nat.lt_of_lt_of_le hlp hg1.size) (fun e => hnp e.symm)).trans ((hg1.block p hlp (fun e => e)).trans hb)
  have hgp : gg ≠ p := by
    rintro rfl
    rcases hat with h | h
    · exact hnp h
    · have := hg1.size; omega
  have hBg : B ≤ gg := by
    rcases hown2.2 with ⟨h, _⟩ | ⟨g', _, _, h, hg, _⟩
    · injection h with h; cases h
    · injection h with h; injection h with h; cases h; exact hg
  refine ⟨⟨hBp, .slice (some ⟨gg, 0, none⟩) (l.length + m.length) cap, ?_, ?_⟩, ?_⟩
  · rw [heap_setCell_same _ _ _ _ _ _ hb2]; rfl
  · have h2 := ownsRow_setCell_other hown2 (a := ⟨p, 0, none⟩) (by simp [Value.ownBlock, hgp]) (.slice (some ⟨gg, 0, none⟩) (l.length + m.length) cap)
    simpa using h2
  · have b1 : Below B w w1 := hg1.below (fun _ e => e.elim) (by omega)
    have b2 : Below B w w2 := b1.grown hgrow (by have := hg1.size; omega) (fun k hk => (hown.lt k hk).1)
    exact b2.setCell hBp _

set_option maxRecDepth 100000 in
set_option maxHeartbeats 2000000 in
theorem add_room (B p b n c : Nat) (l : List UInt8) (ps : List (Option Addr × List UInt8 × Nat)) (w : World) (hW : IsW B w p l 0) (hP : Parts w b 0 ps) (hn : ps.length = n) (hcap : n ≤ c)
    (h0 : 0 < (cat ps).length) (hroom : l.length + (cat ps).length ≤ 65536) (hn1 : n ≤ 1000) :
    Calls Tryz.prog 95 #[.pointer (some ⟨p, 0, none⟩), .slice (some ⟨b, 0, none⟩) n c] w fun e w' => e = .returned (.pointer (some ⟨p, 0, none⟩)) ∧ IsW B w' p (l ++ cat ps) 0 ∧ Below B w w' := by
  subst hn
  obtain ⟨hBp, v, hb, hown⟩ := hW
  have HB := Lib.hid hb
  have c0 : w.cell? ⟨p, 0, none⟩ = some v := by rw [cell_of_row _ _ _ _ _ _ hb]; rfl
  have c2 : w.cell? ⟨p, 2, none⟩ = some (.int .i64 0) := by rw [cell_of_row _ _ _ _ _ _ hb]; rfl
  clear hb
  obtain ⟨A, cv, rfl⟩ : ∃ A cv, v = .slice A l.length cv := by
    rcases hown.2 with ⟨rfl, h⟩ | ⟨g, cap, cur, rfl, _⟩
    · exact ⟨none, 0, by rw [h]⟩
    · exact ⟨_, _, rfl⟩
  go_enter Tryz.func95, Tryz.ntmps95
  go_wp2_with fail
  refine (wnone_any p _ _ w HB.out).mono ?_
  rintro e w' ⟨rfl, rfl⟩
  go_wp2_with fail
  go_loop [5, 26] (fun r i => ∃ k : Nat, k ≤ ps.length ∧ i = .int .i64 k ∧ r = .int .i64 (65536 - (l.length : Int) - ((cat (ps.take k)).length : Nat))) (fun _ i => ps.length - (intOf i).toNat)
  case atStart => exact ⟨0, by omega, rfl, by simp [cat]⟩
  case round =>
    obtain ⟨k, hk, rfl, rfl⟩ := hrel
    by_cases hlt : k < ps.length
    · have hpk := (hP k _ (List.getElem?_eq_getElem hlt)).1
      rw [Nat.zero_add] at hpk
      have hs := cat_take_len ps k hlt
      have hle := cat_take_le ps (k + 1)
      obtain ⟨⟨A1, l1, c1⟩, hq⟩ : ∃ q, ps[k]'hlt = q := ⟨_, rfl⟩
      rw [hq] at hpk hs
      clear hq
      simp only at hpk hs
      obtain ⟨n1, hn1'⟩ : ∃ n, l1.length = n := ⟨_, rfl⟩
      rw [hn1'] at hpk hs
      clear hn1'
      obtain ⟨t, ht⟩ : ∃ t, (cat (ps.take k)).length = t := ⟨_, rfl⟩
      rw [ht] at hs ⊢
      clear ht
      have hb1 : t + n1 ≤ 65536 := by omega
      have hb2 : l.length + t + n1 ≤ 65536 := by omega
      have HS := Lib.hid hs
      clear hs hle
      have hmin : min (n1 : Int) 65537 = n1 := by omega
      go_wp2
      go_round
      case rel => exact ⟨k + 1, by omega, by go_num, by rw [HS.out]; exact intEq (by omega)⟩
      case measure => simp [intOf]; omega
    · obtain rfl : k = ps.length := by omega
      rw [List.take_length]
      have hdr : decide (65536 - (l.length : Int) - ((cat ps).length : Nat) < 0) = false := by simp; omega
      obtain ⟨i0, hi0, hz0, hz1, hz2⟩ := info_parts info_u8
      have hlp : p < w.heap.size := lt_of_cell c0
      have hnp : (Value.slice A l.length cv).ownBlock ≠ some p := own_ne hown HB.out (by decide)
      have HNP := Lib.hid hnp
      have HOwn := Lib.hid hown
      clear hown hnp
      obtain ⟨m, hm⟩ : ∃ m, cat ps = m := ⟨_, rfl⟩
      rw [hm] at h0 hroom hdr
      have HM := Lib.hid hm
      have hcat := fun W h => Cat_any b 0 ps.length c ps W rfl h hcap (by rw [hm]; omega) (by omega)
      rw [hm] at hcat ⊢
      clear hm
      have HCat := Lib.hid hcat
      clear hcat
      have HPt := Lib.hid hP
      clear hP
      have hB0 : B ≤ w.heap.size := by omega
      have c0' : w.drew.cell? ⟨p, 0, none⟩ = some (.slice A l.length cv) := c0
      go_wp2_with fail
      have f0 : w.frozen? ⟨p, 0, none⟩ = false := frozen_of_row _ _ _ _ _ HB.out
      have f0' : w.drew.frozen? ⟨p, 0, none⟩ = false := f0
      go_region_law (first
          | (refine step_append_lies _ (by rfl) _ _ _ (by rfl) B 5 i0 _ 1 1 Tryz.underlying35 hi0 hz0 hz1 hz2 rfl (by omega) (.slice A l.length cv) l.length (l.map bv) (by rfl) (own_chg HOwn.out hg1')
              ⟨b1, o1, none⟩ m.length c1 (m.map bv) (by rfl) (by simp) HN1.out (bv_one m) h0 (by unfold maxLen; omega) (by omega) (by have := hg1'.size; omega) w1.heap.size rfl ?_
             intro gg cap w2 hown2 hgrow hat hlt2
             have c2' : w2.cell? ⟨p, 0, none⟩ = some (.slice A l.length cv) := (World.cell?_of_block (a := ⟨p, 0, none⟩) (hgrow.block p (Nat.lt_of_lt_of_le hlp hg1'.size) (fun e => HNP.out e.symm))).trans c1'
             have f2' : w2.frozen? ⟨p, 0, none⟩ = false := (World.frozen?_of_block (a := ⟨p, 0, none⟩) (hgrow.block p (Nat.lt_of_lt_of_le hlp hg1'.size) (fun e => HNP.out e.symm))).trans f1')
          | (go_simp
             go_at_call 80
             refine (HCat.out _ (by exact HPt.out)).mono ?_
             rintro e w1 ⟨A1, c1, rfl, hc1, hm1, ho1, hg1⟩
             obtain ⟨b1, o1, rfl, hb1, hcell1⟩ := ho1.rd.at_ h0
             have HN1 := Lib.hid (news_of hcell1)
             have hg1' : Chg Non w w1 := ((Chg.refl Non w).drew).then_non hg1
             have c1' : w1.cell? ⟨p, 0, none⟩ = some (.slice A l.length cv) := hg1'.cell_some c0 (fun e => e)
             have f1' : w1.frozen? ⟨p, 0, none⟩ = false := (hg1'.frozen (p := ⟨p, 0, none⟩) hlp (fun e => e)).trans f0
             clear hcell1))
      all_goals
        go_wp2
        go_ret
        rw [HM.out]
        exact ⟨rfl, isW_after hBp HB.out hg1' HOwn.out hown2 hgrow hat HNP.out⟩

/-- a number as its 8 bytes -/
def u64 (n : Int) : Nat := (n % 18446744073709551616).toNat
theorem u64_lt (n : Int) : u64 n < 18446744073709551616 := by unfold u64; omega
theorem u64_cast (n : Int) : ((u64 n : Nat) : Int) = IntKind.u64.wrap n := by
  have : IntKind.u64.wrap n = n % 18446744073709551616 := by simp [IntKind.wrap, IntKind.bits, IntKind.signed]
  rw [this]; unfold u64; omega

set_option maxRecDepth 100000 in
set_option maxHeartbeats 2000000 in
theorem WInt_room (B p : Nat) (l : List UInt8) (n : Int) (w : World) (hW : IsW B w p l 0) (hroom : l.length + 8 ≤ 65536) :
    Calls Tryz.prog 68 #[.pointer (some ⟨p, 0, none⟩), .int .i64 n] w fun e w' => e = .returned (.pointer (some ⟨p, 0, none⟩)) ∧ IsW B w' p (l ++ be (u64 n) 8) 0 ∧ Below B w w' := by
  have hp := Put64 (u64 n) w (u64_lt n)
  rw [u64_cast] at hp
  have hlen : (be (u64 n) 8).length = 8 := be_length _ _
  have HL := Lib.hid hlen
  clear hlen
  obtain ⟨m, hm⟩ : ∃ m, be (u64 n) 8 = m := ⟨_, rfl⟩
  rw [hm] at hp HL ⊢
  clear hm
  have HP := Lib.hid hp
  clear hp
  have hpB := hW.1
  obtain ⟨v0, hb0, _⟩ := hW.2
  have hBs : B ≤ w.heap.size := by have := (Array.getElem?_eq_some_iff.1 hb0).1; omega
  clear hb0
  go_enter Tryz.func68, Tryz.ntmps68
  go_wp2_with fail
  refine HP.out.mono ?_
  rintro e w1 ⟨A, c, rfl, hc, hm, ho, hg⟩
  go_wp2_with fail
  have hW1 : IsW B (w1.alloc (.cells #[.slice A m.length c] 35)) p l 0 := isW_chg hW (hg.alloc _)
  have hP1 := parts_new w1 35 [(A, m, c)] (by simpa using ho.rd)
  have hcat : cat [(A, m, c)] = m := by simp [cat]
  refine (add_room B p w1.heap.size 1 1 l [(A, m, c)] _ hW1 hP1 rfl (by omega) (by rw [hcat, HL.out]; omega) (by rw [hcat, HL.out]; omega) (by omega)).mono ?_
  rw [hcat]
  rintro e w2 ⟨rfl, hW2, hB2⟩
  go_wp2
  go_ret
  exact ⟨rfl, hW2, ((hg.alloc _).below (fun _ e => e.elim) hBs).trans hB2⟩

set_option maxRecDepth 100000 in
set_option maxHeartbeats 2000000 in
theorem WDone_ok (B p : Nat) (l : List UInt8) (w : World) (hW : IsW B w p l 0) (hl : l.length ≤ 65536) :
    Calls Tryz.prog 72 #[.pointer (some ⟨p, 0, none⟩)] w fun e w' => ∃ A c, e = .returned (.tuple #[.slice A l.length c, .int .i64 0]) ∧ l.length ≤ c ∧ c ≤ maxLen ∧ Own B w' A l ∧ Chg Non w w' := by
  obtain ⟨hBp, v, hb, hown⟩ := hW
  have HB := Lib.hid hb
  have c0 : w.cell? ⟨p, 0, none⟩ = some v := by rw [cell_of_row _ _ _ _ _ _ hb]; rfl
  have c2 : w.cell? ⟨p, 2, none⟩ = some (.int .i64 0) := by rw [cell_of_row _ _ _ _ _ _ hb]; rfl
  have hBs : B ≤ w.heap.size := by have := (Array.getElem?_eq_some_iff.1 hb).1; omega
  clear hb
  obtain ⟨A, cv, rfl, hrd⟩ := own_reads hown
  go_enter Tryz.func72, Tryz.ntmps72
  go_wp2_with fail
  refine (wnone_any p _ _ w HB.out).mono ?_
  rintro e w' ⟨rfl, rfl⟩
  go_wp2_with fail
  refine (Cat1 A l cv _ w _ rfl hrd (by omega)).mono ?_
  rintro e w1 ⟨A1, c1, rfl, hc1, hm1, ho1, hg1⟩
  go_wp2
  go_ret2
  exact ⟨A1, c1, rfl, hc1, hm1, ho1.mono hBs, hg1⟩
end Go.Proofs.YtgmpacndjmmgjaaGreat
end
section
namespace Go.Proofs.YtgmpacndjmmgjaaGreat

structure Dk where
  up : Bool
  sec : List (List UInt8)
  cache : List (Nat × List UInt8)
  left : Int
  stay : List UInt8

/-- the keys, rising -/
def dirty (m : List (Nat × List UInt8)) : List Nat := (m.map (·.1)).mergeSort (fun a b => decide (a ≤ b))

/-- what a map holds at a key -/
def look (m : List (Nat × List UInt8)) (i : Nat) : Option (List UInt8) := (m.find? (fun p => p.1 == i)).map (·.2)
/-- a store into a map: in its place, else behind -/
def upd (m : List (Nat × List UInt8)) (i : Nat) (l : List UInt8) : List (Nat × List UInt8) :=
  if (m.find? (fun p => p.1 == i)).isSome then m.map (fun p => if p.1 == i then (i, l) else p) else m ++ [(i, l)]

namespace Dk
/-- a sector's bytes -/
def at_ (D : Dk) (i : Nat) : List UInt8 := (look D.cache i).getD (D.sec.getD i [])

/-- the sectors behind the first sectors that are dirty have come out of the cache -/
def spillTo (D : Dk) (stays : Nat → Bool) : Nat → List (List UInt8)
  | 0 => D.sec
  | n + 1 => match (dirty D.cache)[n]? with
    | some k => if stays n then (D.spillTo stays n).set k ((look D.cache k).getD []) else D.spillTo stays n
    | none => D.spillTo stays n

def spill (D : Dk) (stays : Nat → Bool) : Dk := { D with sec := D.spillTo stays D.cache.length, cache := [] }

/-- does the n-th one stay? -/
def bit (stay : List UInt8) (n : Nat) : Bool := decide (n / 8 < stay.length) && ((stay.getD (n / 8) 0).toNat / 2 ^ (n % 8) % 2 == 1)

def fall (D : Dk) (stay : List UInt8) : Dk := { D.spill (bit stay) with up := false, left := 0, stay := [] }

/-- one operation: what it makes, and whether it is done -/
def operate (D : Dk) (do_ : Dk → Dk) : Dk × Int :=
  if D.left = 1 then (D.fall D.stay, 60) else (do_ { D with left := max (D.left - 1) 0 }, 0)

def ready (D : Dk) : Int := if D.up then 0 else 60

def write (D : Dk) (i : Int) (b : List UInt8) : Dk × Int :=
  if D.up = false then (D, 60)
  else if ¬ (0 ≤ i ∧ i < D.sec.length) then (D, 61)
  else if b.length ≠ 64 then (D, 2)
  else D.operate fun D => { D with cache := upd D.cache i.toNat b }

def flush (D : Dk) : Dk × Int :=
  if D.up = false then (D, 60) else D.operate fun D => D.spill fun _ => true

def crash (D : Dk) (stay : List UInt8) : Dk × Int :=
  if D.up = false then (D, 60) else (D.fall stay, 0)

def arm (D : Dk) (n : Int) (stay : List UInt8) : Dk × Int :=
  if D.up = false then (D, 60) else if n < 1 then (D, 2) else ({ D with left := n, stay := stay }, 0)

def start (D : Dk) : Dk × Int :=
  if D.up then (D, 2) else ({ D with up := true }, 0)

/-- a new disk -/
def new (n : Nat) : Dk := ⟨true, List.replicate n (List.replicate 64 0), [], 0, []⟩

/-- sectors are of 64 bytes, the cache holds sectors that there are, each once -/
structure Ok (D : Dk) : Prop where
  secs : ∀ s ∈ D.sec, s.length = 64
  keys : ∀ p ∈ D.cache, p.1 < D.sec.length ∧ p.2.length = 64
  nodup : (D.cache.map (·.1)).Nodup
  most : D.sec.length ≤ 1024
  left0 : 0 ≤ D.left
end Dk
end Go.Proofs.YtgmpacndjmmgjaaGreat
end
section
namespace Go.Proofs.YtgmpacndjmmgjaaGreat
open Go.RowKit Go.Maps Go.Sort Go.Shelf
set_option linter.unusedVariables false

/-- what a sector is, as a value -/
def secV (l : List UInt8) : Value := .agg (l.map bv).toArray

/-- block b is a map that holds m, in the order in which the keys came -/
def MapIs (w : World) (b : Nat) (m : List (Nat × List UInt8)) : Prop :=
  ∃ es clock, w.heap[b]? = some (.map es clock) ∧ MapKept.Stamped es clock ∧ es.toList.map (fun e => (e.key, e.val)) = m.map (fun p => (Value.int .i64 (p.1 : Int), secV p.2))

/-- a reading of whatever element -/
def R0 : Value → Option (DataW Unit × List MemPlace) := fun _ => some (.nil, [])

theorem insert_perm {H : Type} (x : Lit × DataW H) (l : List (Lit × DataW H)) : (DataW.insert x l).Perm (x :: l) := by
  induction l with
  | nil => exact List.Perm.refl _
  | cons y r ih =>
    unfold DataW.insert
    split
    · exact List.Perm.refl _
    · exact ((ih.cons y).trans (List.Perm.swap _ _ _))
theorem foldr_insert_perm {H : Type} (l : List (Lit × DataW H)) : (l.foldr DataW.insert []).Perm l := by
  induction l with
  | nil => exact List.Perm.refl _
  | cons x r ih => exact (insert_perm x _).trans (ih.cons x)

theorem mapIs_nodup {w : World} {b : Nat} {m : List (Nat × List UInt8)} (h : MapIs w b m) : (m.map (·.1)).Nodup := by
  obtain ⟨es, clock, hb, hs, hm⟩ := h
  have hk : es.toList.map (·.key) = m.map (fun p => Value.int .i64 (p.1 : Int)) := by
    have := congrArg (List.map (·.1)) hm
    simpa [List.map_map, Function.comp_def] using this
  have hn := hs.2.2
  rw [hk, List.Nodup, List.pairwise_map] at hn
  rw [List.Nodup, List.pairwise_map]
  exact hn.imp (fun h e => h (by rw [e]))

theorem mapIs_owns {w : World} {b : Nat} {m : List (Nat × List UInt8)} (h : MapIs w b m) (hk : ∀ p ∈ m, p.1 < 9223372036854775808) (hsz : m.length ≤ maxLen) :
    ∃ D0 : DataW Unit, w.ownsMap Tryz.prog 3 R0 b m.length D0 ∧ Maps.size D0 = m.length ∧ (intKeys D0).Perm (m.map fun p => (p.1 : Int)) := by
  obtain ⟨es, clock, hb, hs, hm⟩ := h
  have hlen : es.size = m.length := by
    have := congrArg List.length hm
    simpa using this
  have hkey : ∀ e ∈ es.toList, ∃ p ∈ m, e.key = .int .i64 (p.1 : Int) ∧ e.val = secV p.2 := by
    intro e he
    have : (e.key, e.val) ∈ m.map (fun p => (Value.int .i64 (p.1 : Int), secV p.2)) := by rw [← hm]; exact List.mem_map.2 ⟨e, he, rfl⟩
    obtain ⟨p, hp, e'⟩ := List.mem_map.1 this
    exact ⟨p, hp, (Prod.mk.inj e').1.symm, (Prod.mk.inj e').2.symm⟩
  have hrd : ∀ e ∈ es.toList, ∀ p ∈ m, e.key = .int .i64 (p.1 : Int) → Go.WideElems.rd Tryz.prog 3 R0 e = some (.int .i64 (p.1 : Int), .nil) := by
    intro e he p hp hek
    have hwf : (Lit.int .i64 (p.1 : Int)).wf = true := WalkArith.wf_i64 (by have := hk p hp; omega)
    unfold Go.WideElems.rd
    rw [hek, Go.Maps.keyOf_int_mk Tryz.underlying3 hwf]
    rfl
  have hrg : es.toList.map (Go.WideElems.rg Tryz.prog 3 R0) = m.map fun p => (Lit.int .i64 (p.1 : Int), (DataW.nil : DataW Unit)) := by
    have h1 : es.toList.map (Go.WideElems.rg Tryz.prog 3 R0) = (es.toList.map (fun e => (e.key, e.val))).map (fun q => (match q.1 with | .int _ n => Lit.int .i64 n | _ => Lit.bool false, (DataW.nil : DataW Unit))) := by
      rw [List.map_map]
      apply List.map_congr_left
      intro e he
      obtain ⟨p, hp, h1, h2⟩ := hkey e he
      simp only [Go.WideElems.rg, hrd e he p hp h1, Option.getD_some, Function.comp, h1]
    rw [h1, hm, List.map_map]
    rfl
  refine ⟨.map ((es.toList.map (Go.WideElems.rg Tryz.prog 3 R0)).foldr DataW.insert []), ⟨es, clock, hb, ⟨by omega, hs, fun e he => ?_⟩, by omega, rfl⟩, ?_, ?_⟩
  · obtain ⟨p, hp, h1, _⟩ := hkey e he
    exact ⟨_, hrd e he p hp h1⟩
  · have := (foldr_insert_perm (es.toList.map (Go.WideElems.rg Tryz.prog 3 R0))).length_eq
    simp only [Maps.size]
    rw [this, hrg, List.length_map]
  · rw [hrg]
    simp only [intKeys]
    refine ((foldr_insert_perm _).map _).trans ?_
    rw [List.map_map]
    exact List.Perm.refl _

theorem dirty_perm (m : List (Nat × List UInt8)) : (dirty m).Perm (m.map (·.1)) := List.mergeSort_perm _ _
theorem dirty_length (m : List (Nat × List UInt8)) : (dirty m).length = m.length := by rw [(dirty_perm m).length_eq, List.length_map]
theorem dirty_sorted (m : List (Nat × List UInt8)) : (dirty m).Pairwise (· ≤ ·) := by
  have := List.pairwise_mergeSort (le := fun a b : Nat => decide (a ≤ b)) (by intro a b c; simp; omega) (by intro a b; simp; omega) (m.map (·.1))
  exact this.imp (fun h => by simpa using h)

theorem dirty_cast (m : List (Nat × List UInt8)) (ss : List Int) (h : ss.Perm (m.map fun p => (p.1 : Int))) : (ss.mergeSort fun x y => decide (x ≤ y)) = (dirty m).map (fun k : Nat => (k : Int)) := by
  have h1 : ss.Perm ((dirty m).map (fun k : Nat => (k : Int))) := by
    refine h.trans ?_
    have := (dirty_perm m).symm.map (fun k : Nat => (k : Int))
    rw [List.map_map] at this
    exact this
  have h2 : (ss.mergeSort fun x y => decide (x ≤ y)) = ((dirty m).map (fun k : Nat => (k : Int))).mergeSort fun x y => decide (x ≤ y) := mergeSort_of_perm_i h1
  rw [h2]
  refine List.mergeSort_of_pairwise ?_
  rw [List.pairwise_map]
  exact (dirty_sorted m).imp (fun h => by simpa using h)

theorem sortsA (m : Nat) : AnyZI.SortsIn Tryz.prog Tryz.sortedA_ren Fence.wide m :=
  ⟨fun blk off cap ss W hH hblk hsz => callsIn_wide.2 (AnyM.slices_Sort_int Tryz.sortA blk off cap ss W hH hblk hsz),
   fun p cap W => callsIn_wide.2 (AnyM.slices_Sort_int_none Tryz.sortA p cap W)⟩

/-- 'slices.Sorted(maps.Keys(m))' as two contracts: what maps.Keys hands back; slices.Sorted of it. -/
theorem keys_in (mb : Option Nat) (W : World) : Calls Tryz.prog 100 #[.map mb] W fun e w' => e = .returned (.func (.func 114) #[] #[.pointer (some ⟨W.heap.size, 0, none⟩)]) ∧ w' = W.alloc (.cells #[.map mb] 57) :=
  (callsIn_wide (n := 5)).1 (AnyZI.keys_in Tryz.keysA Fence.wide 5 trivial rfl mb W)

set_option maxHeartbeats 1000000 in
theorem sorted_keys (b : Nat) (m : List (Nat × List UInt8)) (w : World) (hm : MapIs w b m) (hk : ∀ p ∈ m, p.1 < 1024) (hsz : m.length ≤ 1024) :
    Calls Tryz.prog 99 #[.func (.func 114) #[] #[.pointer (some ⟨w.heap.size, 0, none⟩)]] (w.alloc (.cells #[.map (some b)] 57)) fun e w' => ∃ v, e = .returned v ∧
      w'.ownsRow w.heap.size 3 1 v (dirty m).length ((dirty m).map fun k : Nat => Value.int .i64 (k : Int)) ∧ Chg Non w w' := by
  obtain ⟨D0, hown, hmz, hperm⟩ := mapIs_owns hm (fun p hp => by have := hk p hp; omega) (by unfold maxLen; omega)
  have hbl := hown.lt
  have hseq : SeqGives Fence.wide 2 Tryz.prog 114 #[.pointer (some ⟨w.heap.size, 0, none⟩)] encZ (fun ss => ss.Perm (intKeys D0)) (Maps.size D0) (w.alloc (.cells #[.map (some b)] 57)) :=
    AnyZI.keys_gives (ρ := Tryz.keysA_ren) { Tryz.keysA with } Fence.wide _ trivial rfl (by omega) w.heap.size b m.length D0 _ (by simp) (by simp) (by
      obtain ⟨es, clock, hb, Ft, hs, hD⟩ := hown
      exact ⟨es, clock, (Below.heap_alloc _ _ b hbl).trans hb, Ft, hs, hD⟩)
  have cS := AnyZI.sorted_in Tryz.sortedA Fence.wide 5 trivial trivial trivial trivial rfl (by omega) (sortsA _) (enters_of Tryz.func113 (by kernel_rfl) rfl) 114 #[.pointer (some ⟨w.heap.size, 0, none⟩)] trivial (enters_of Tryz.func114 (by kernel_rfl) rfl) _ _ (by rw [hmz]; unfold maxLen; omega) (by rw [hmz]; omega) _ hseq
  change CallsIn _ _ Tryz.prog 99 _ _ _ at cS
  refine ((callsIn_wide (n := 5)).1 cS).mono ?_
  rintro e w' ⟨v, ss, rfl, hS, hrow, hnil, hb⟩
  refine ⟨v, rfl, ?_, .of_below (((Below.refl _ w).alloc (Nat.le_refl _) _).trans (hb.mono (by simp))) (Nat.le_refl _)⟩
  have hp := hS.trans hperm
  have hd := dirty_cast m ss hp
  have hl : ss.length = (dirty m).length := by rw [hp.length_eq, List.length_map, dirty_length]
  rw [hd, hl, List.map_map] at hrow
  exact ownsRow_base_a hrow (by simp)
end Go.Proofs.YtgmpacndjmmgjaaGreat
end
section
namespace Go.Proofs.YtgmpacndjmmgjaaGreat
open Go.RowKit Go.Maps
set_option linter.unusedVariables false

def zSec : Array Value := Array.replicate 64 (.int .u8 0)
theorem zero_sec (w : World) : (zeroValue 75).run Tryz.prog w = .ok (.agg zSec) w := by kernel_rfl

theorem look_mem {m : List (Nat × List UInt8)} {p : Nat × List UInt8} (hn : (m.map (·.1)).Nodup) (hp : p ∈ m) : look m p.1 = some p.2 := by
  unfold look
  induction m with
  | nil => cases hp
  | cons q r ih =>
    rw [List.map_cons, List.nodup_cons] at hn
    rw [List.find?_cons]
    rcases List.mem_cons.1 hp with rfl | hr
    · simp
    · have hne : q.1 ≠ p.1 := fun e => hn.1 (by rw [e]; exact List.mem_map.2 ⟨p, hr, rfl⟩)
      simp only [beq_eq_false_iff_ne.2 hne]
      exact ih hn.2 hr

theorem look_none {m : List (Nat × List UInt8)} {i : Nat} (h : ∀ p ∈ m, p.1 ≠ i) : look m i = none := by
  unfold look
  rw [List.find?_eq_none.2 (fun p hp => by simpa using h p hp)]
  rfl

theorem key_i64 (i : Nat) (h : i < 9223372036854775808) : keyOf Tryz.prog 3 (.int .i64 (i : Int)) = some (.int .i64 (i : Int)) :=
  Go.Maps.keyOf_int_mk Tryz.underlying3 (WalkArith.wf_i64 (by omega))

theorem intK : Keyed Tryz.prog 3 := Go.Maps.int_keyed Tryz.underlying3

theorem map_at {es : Array MapEntry} {m : List (Nat × List UInt8)} (hm : es.toList.map (fun e => (e.key, e.val)) = m.map (fun p => (Value.int .i64 (p.1 : Int), secV p.2))) {j : Nat} {e : MapEntry} (he : es.toList[j]? = some e) :
    ∃ p, m[j]? = some p ∧ e.key = .int .i64 (p.1 : Int) ∧ e.val = secV p.2 := by
  have h1 : (es.toList.map (fun e => (e.key, e.val)))[j]? = some (e.key, e.val) := by rw [List.getElem?_map, he]; rfl
  rw [hm, List.getElem?_map] at h1
  obtain ⟨p, hp, e'⟩ := Option.map_eq_some_iff.1 h1
  exact ⟨p, hp, (Prod.mk.inj e').1.symm, (Prod.mk.inj e').2.symm⟩

theorem keys_ok {es : Array MapEntry} {m : List (Nat × List UInt8)} (hm : es.toList.map (fun e => (e.key, e.val)) = m.map (fun p => (Value.int .i64 (p.1 : Int), secV p.2))) (hk : ∀ p ∈ m, p.1 < 1024) :
    ∀ e ∈ es.toList, ∃ l, keyOf Tryz.prog 3 e.key = some l := by
  intro e he
  obtain ⟨j, hj⟩ := List.getElem?_of_mem he
  obtain ⟨p, hp, h1, _⟩ := map_at hm hj
  rw [h1]
  exact ⟨_, key_i64 p.1 (by have := hk p (List.mem_of_getElem? hp); omega)⟩

/-- what the map's search finds -/
theorem i64_inj {a b : Nat} (h : Value.int .i64 (a : Int) = Value.int .i64 (b : Int)) : a = b := by
  have h2 : (a : Int) = (b : Int) := by injection h
  exact Int.natCast_inj.1 h2
theorem find_run {w W : World} {b : Nat} {m : List (Nat × List UInt8)} {es : Array MapEntry} (hs : (es.toList.map (·.key)).Nodup) (hm : es.toList.map (fun e => (e.key, e.val)) = m.map (fun p => (Value.int .i64 (p.1 : Int), secV p.2)))
    (hmn : (m.map (·.1)).Nodup) (hk : ∀ p ∈ m, p.1 < 1024) (i : Nat) (hi : i < 1024) :
    ((Instr.findKey 3 (.int .i64 (i : Int)) es.toList).run Tryz.prog W = .ok none W ∧ ∀ p ∈ m, p.1 ≠ i) ∨
    ∃ j e p, (Instr.findKey 3 (.int .i64 (i : Int)) es.toList).run Tryz.prog W = .ok (some (j, secV p.2)) W ∧ es.toList[j]? = some e ∧ e.key = .int .i64 (i : Int) ∧ m[j]? = some p ∧ p.1 = i ∧ e.val = secV p.2 := by
  rcases intK.find W (key_i64 i (by omega)) es.toList (keys_ok hm hk) with ⟨h1, h2⟩ | ⟨j, e, h1, h2, h3⟩
  · refine .inl ⟨h1, fun p hp hpi => ?_⟩
    obtain ⟨j, hj⟩ := List.getElem?_of_mem hp
    have hlen : es.toList.length = m.length := by have := congrArg List.length hm; simpa using this
    have hjl : j < es.toList.length := by rw [hlen]; exact (List.getElem?_eq_some_iff.1 hj).1
    obtain ⟨q, hq, hk1, _⟩ := map_at hm (List.getElem?_eq_getElem hjl)
    rw [hj] at hq
    injection hq with hq
    subst hq
    exact h2 _ (List.getElem_mem hjl) (by rw [hk1, hpi])
  · obtain ⟨p, hp, hk1, hv⟩ := map_at hm h2
    refine .inr ⟨j, e, p, by rw [h1, hv], h2, h3, hp, ?_, hv⟩
    exact (i64_inj (h3.symm.trans hk1)).symm

/-- 'm[i]' and 'v, ok := m[i]' -/
theorem run_lookup {w : World} {b : Nat} {m : List (Nat × List UInt8)} (h : MapIs w b m) (hk : ∀ p ∈ m, p.1 < 1024) (i : Nat) (hi : i < 1024) (W : World) (hW : W.heap[b]? = w.heap[b]?) (ok : Bool) :
    (Instr.lookup 57 (.map (some b)) (.int .i64 (i : Int)) ok).run Tryz.prog W =
      .ok (let v := match look m i with | some l => secV l | none => .agg zSec
           if ok then .tuple #[v, .bool (look m i).isSome] else v) W := by
  have hn := mapIs_nodup h
  obtain ⟨es, clock, hb, hs, hm⟩ := h
  have hb' : W.heap[b]? = some (.map es clock) := hW.trans hb
  rcases find_run (w := w) (W := W) (b := b) hs.2.2 hm hn hk i hi with ⟨h1, h2⟩ | ⟨j, e, p, h1, h2, h3, h4, h5, h6⟩
  · have hl := look_none h2
    cases ok <;> simp [Instr.lookup, run_underlying Tryz.underlying57, getObj, Sem.run, hb', intK.check W _ (key_i64 i (by omega)), h1, hl] <;> rfl
  · have hl : look m i = some p.2 := by rw [← h5]; exact look_mem hn (List.mem_of_getElem? h4)
    cases ok <;> simp [Instr.lookup, run_underlying Tryz.underlying57, getObj, Sem.run, hb', intK.check W _ (key_i64 i (by omega)), h1, hl]

theorem upd_none {m : List (Nat × List UInt8)} {i : Nat} {l : List UInt8} (h : ∀ p ∈ m, p.1 ≠ i) : upd m i l = m ++ [(i, l)] := by
  unfold upd
  rw [List.find?_eq_none.2 (fun p hp => by simpa using h p hp)]
  rfl
theorem upd_some {m : List (Nat × List UInt8)} {i j : Nat} {l : List UInt8} {p : Nat × List UInt8} (hn : (m.map (·.1)).Nodup) (hj : m[j]? = some p) (hp : p.1 = i) : upd m i l = m.set j (i, l) := by
  have hm : p ∈ m := List.mem_of_getElem? hj
  have hf : (m.find? (fun q => q.1 == i)).isSome = true := by
    rw [List.find?_isSome]; exact ⟨p, hm, by simp [hp]⟩
  unfold upd
  rw [if_pos hf]
  apply List.ext_getElem?
  intro k
  rw [List.getElem?_map, List.getElem?_set]
  have hjl : j < m.length := (List.getElem?_eq_some_iff.1 hj).1
  by_cases hkj : j = k
  · subst hkj
    obtain ⟨_, hmj⟩ := List.getElem?_eq_some_iff.1 hj
    simp [hmj, hp, hjl]
  · simp only [hkj, if_false]
    cases hk : m[k]? with
    | none => rfl
    | some q =>
      have hne : q.1 ≠ i := by
        intro e
        have h1 : (m.map (·.1))[k]? = some i := by rw [List.getElem?_map, hk, Option.map_some, e]
        have h2 : (m.map (·.1))[j]? = some i := by rw [List.getElem?_map, hj, Option.map_some, hp]
        have hkl : k < m.length := (List.getElem?_eq_some_iff.1 hk).1
        exact hkj ((List.getElem?_inj (by simpa using hjl) hn).1 (h2.trans h1.symm))
      simp [hne]

/-- 'm[i] = s' -/
theorem run_update {w : World} {b : Nat} {m : List (Nat × List UInt8)} (h : MapIs w b m) (hk : ∀ p ∈ m, p.1 < 1024) (i : Nat) (hi : i < 1024) (l : List UInt8) :
    ∃ w', (Instr.mapUpdate 57 (.map (some b)) (.int .i64 (i : Int)) (secV l)).run Tryz.prog w = .ok () w' ∧ MapIs w' b (upd m i l) ∧ Chg (fun k => k = b) w w' := by
  have hn := mapIs_nodup h
  obtain ⟨es, clock, hb, hs, hm⟩ := h
  have hbl : b < w.heap.size := (Array.getElem?_eq_some_iff.1 hb).1
  have hset : ∀ o, ({ w with heap := w.heap.setIfInBounds b o } : World).heap[b]? = some o := fun o => by simp [hbl]
  have hchg : ∀ o, Chg (fun k => k = b) w { w with heap := w.heap.setIfInBounds b o } := fun o => ⟨rfl, rfl, rfl, by simp, fun k hkl hne => by simp [Ne.symm hne]⟩
  rcases find_run (w := w) (W := w) (b := b) hs.2.2 hm hn hk i hi with ⟨h1, h2⟩ | ⟨j, e, p, h1, h2, h3, h4, h5, h6⟩
  · refine ⟨{ w with heap := w.heap.setIfInBounds b (.map (es.push { key := .int .i64 (i : Int), val := secV l, born := clock }) (clock + 1)) }, ?_, ⟨_, _, hset _, ?_, ?_⟩, hchg _⟩
    · simp [Instr.mapUpdate, run_underlying Tryz.underlying57, getObj, setObj, Sem.run, hb, intK.check w _ (key_i64 i (by omega)), h1]
    · obtain ⟨s1, s2, s3⟩ := hs
      refine ⟨?_, ?_, ?_⟩
      · intro x hx
        simp only [Array.toList_push, List.mem_append, List.mem_singleton] at hx
        rcases hx with hx | rfl
        · have := s1 x hx; omega
        · simp
      · simp only [Array.toList_push, List.map_append, List.map_cons, List.map_nil]
        refine List.nodup_append.2 ⟨s2, by simp, ?_⟩
        rintro a ha b hb' rfl
        simp only [List.mem_singleton] at hb'
        obtain ⟨x, hx, rfl⟩ := List.mem_map.1 ha
        have := s1 x hx; omega
      · simp only [Array.toList_push, List.map_append, List.map_cons, List.map_nil]
        refine List.nodup_append.2 ⟨s3, by simp, ?_⟩
        rintro a ha b hb' rfl
        simp only [List.mem_singleton] at hb'
        obtain ⟨x, hx, hxk⟩ := List.mem_map.1 ha
        obtain ⟨j, hj⟩ := List.getElem?_of_mem hx
        obtain ⟨q, hq, hk1, _⟩ := map_at hm hj
        exact h2 q (List.mem_of_getElem? hq) (i64_inj ((hb'.symm.trans (hxk.symm.trans hk1)))).symm
    · rw [upd_none h2]
      simp only [Array.toList_push, List.map_append, List.map_cons, List.map_nil, hm]
  · have hjl : j < es.size := by simpa using (List.getElem?_eq_some_iff.1 h2).1
    have he : es[j]? = some e := by simpa using h2
    obtain ⟨_, hej⟩ := Array.getElem?_eq_some_iff.1 he
    refine ⟨{ w with heap := w.heap.setIfInBounds b (.map (es.modify j fun e => { e with key := .int .i64 (i : Int), val := secV l }) clock) }, ?_, ⟨_, _, hset _, ?_, ?_⟩, hchg _⟩
    · have hks := intK.stays w (key_i64 i (by omega))
      simp [Instr.mapUpdate, run_underlying Tryz.underlying57, getObj, setObj, Sem.run, hb, intK.check w _ (key_i64 i (by omega)), h1, he, h3, hks]
    · obtain ⟨s1, s2, s3⟩ := hs
      have hmod : (es.modify j fun e => { e with key := .int .i64 (i : Int), val := secV l }).toList = es.toList.set j { e with key := .int .i64 (i : Int), val := secV l } := by
        apply List.ext_getElem?
        intro k
        rw [Array.getElem?_toList, Array.getElem?_modify, List.getElem?_set, Array.getElem?_toList]
        by_cases hkj : j = k
        · subst hkj; simp [hjl, hej]
        · simp [hkj]
      have hborn : (es.toList.set j { e with key := .int .i64 (i : Int), val := secV l }).map (·.born) = es.toList.map (·.born) := by
        apply List.ext_getElem?
        intro k
        rw [List.getElem?_map, List.getElem?_map, List.getElem?_set]
        by_cases hkj : j = k
        · subst hkj; simp [hjl, hej]
        · simp [hkj]
      have hkey : (es.toList.set j { e with key := .int .i64 (i : Int), val := secV l }).map (·.key) = es.toList.map (·.key) := by
        apply List.ext_getElem?
        intro k
        rw [List.getElem?_map, List.getElem?_map, List.getElem?_set]
        by_cases hkj : j = k
        · subst hkj; simp [hjl, hej, h3]
        · simp [hkj]
      refine ⟨?_, ?_, ?_⟩
      · intro x hx
        rw [hmod] at hx
        have : x.born ∈ es.toList.map (·.born) := by rw [← hborn]; exact List.mem_map.2 ⟨x, hx, rfl⟩
        obtain ⟨y, hy, hxy⟩ := List.mem_map.1 this
        have := s1 y hy
        omega
      · rw [hmod, hborn]; exact s2
      · rw [hmod, hkey]; exact s3
    · have hmod : (es.modify j fun e => { e with key := .int .i64 (i : Int), val := secV l }).toList = es.toList.set j { e with key := .int .i64 (i : Int), val := secV l } := by
        apply List.ext_getElem?
        intro k
        rw [Array.getElem?_toList, Array.getElem?_modify, List.getElem?_set, Array.getElem?_toList]
        by_cases hkj : j = k
        · subst hkj; simp [hjl, hej]
        · simp [hkj]
      rw [hmod, upd_some hn h4 h5]
      rw [List.map_set, List.map_set, hm]

/-- 'clear(m)' -/
theorem run_clear {w : World} {b : Nat} {m : List (Nat × List UInt8)} (h : MapIs w b m) :
    ∃ w', (Builtin.clear_ #[57] 0 #[.map (some b)]).run Tryz.prog w = .ok (.tuple #[]) w' ∧ MapIs w' b [] ∧ Chg (fun k => k = b) w w' := by
  obtain ⟨es, clock, hb, hs, hm⟩ := h
  have hbl : b < w.heap.size := (Array.getElem?_eq_some_iff.1 hb).1
  refine ⟨{ w with heap := w.heap.setIfInBounds b (.map #[] clock) }, ?_, ⟨#[], clock, by simp [hbl], ⟨by simp, by simp, by simp⟩, by simp⟩, ⟨rfl, rfl, rfl, by simp, fun k hkl hne => by simp [Ne.symm hne]⟩⟩
  simp [Builtin.clear_, run_underlying Tryz.underlying57, getObj, setObj, Sem.run, hb]
end Go.Proofs.YtgmpacndjmmgjaaGreat
end
section
namespace Go.Proofs.YtgmpacndjmmgjaaGreat
open Go.RowKit
set_option linter.unusedVariables false

/-- the blocks of a disk -/
def DS (pd ps pm : Nat) : Nat → Prop := fun k => k = pd ∨ k = ps ∨ k = pm

def dCells (D : Dk) (ps pm : Nat) (A : Option Addr) (c : Nat) : Array Value :=
  #[.bool D.up, .slice (some ⟨ps, 0, none⟩) D.sec.length D.sec.length, .map (some pm), .int .i64 D.left, .slice A D.stay.length c]

/-- block pd is the disk D; its sectors lie in block ps, its cache is the map pm -/
def IsD (w : World) (pd ps pm : Nat) (D : Dk) : Prop :=
  D.Ok ∧ ∃ A c, w.heap[pd]? = some (.cells (dCells D ps pm A c) 59 (0, 0)) ∧ w.heap[ps]? = some (.cells (D.sec.flatten.map bv).toArray 75 (0, 0)) ∧ MapIs w pm D.cache ∧
    Rd w A D.stay ∧ (∀ b o, A = some ⟨b, o, none⟩ → D.stay ≠ [] → b ≠ ps) ∧ D.stay.length ≤ c ∧ c ≤ maxLen

theorem IsD.lt {w : World} {pd ps pm : Nat} {D : Dk} (h : IsD w pd ps pm D) : pd < w.heap.size ∧ ps < w.heap.size ∧ pm < w.heap.size := by
  obtain ⟨_, A, c, h1, h2, ⟨es, ck, h3, _⟩, _⟩ := h
  exact ⟨(Array.getElem?_eq_some_iff.1 h1).1, (Array.getElem?_eq_some_iff.1 h2).1, (Array.getElem?_eq_some_iff.1 h3).1⟩

theorem IsD.ne {w : World} {pd ps pm : Nat} {D : Dk} (h : IsD w pd ps pm D) : pd ≠ ps ∧ pd ≠ pm ∧ ps ≠ pm := by
  obtain ⟨_, A, c, h1, h2, ⟨es, ck, h3, _⟩, _⟩ := h
  refine ⟨?_, ?_, ?_⟩
  · rintro rfl; rw [h1] at h2; injection h2 with h2; injection h2 with _ h2; exact absurd h2 (by decide)
  · rintro rfl; rw [h1] at h3; injection h3 with h3; cases h3
  · rintro rfl; rw [h2] at h3; injection h3 with h3; cases h3

theorem MapIs.keep {S : Nat → Prop} {w w' : World} {b : Nat} {m : List (Nat × List UInt8)} (h : MapIs w b m) (hg : Chg S w w') (hb : ¬ S b) : MapIs w' b m := by
  obtain ⟨es, ck, h1, h2⟩ := h
  exact ⟨es, ck, (hg.block b (Array.getElem?_eq_some_iff.1 h1).1 hb).trans h1, h2⟩

/-- the slice of what stays lies in none of the disk's other blocks -/
theorem stay_ne {w : World} {pd pm : Nat} {A : Option Addr} {l : List UInt8} {D : Dk} {ps c : Nat} {A' : Option Addr} (h1 : w.heap[pd]? = some (.cells (dCells D ps pm A' c) 59 (0, 0))) {m : List (Nat × List UInt8)} (hm : MapIs w pm m) (hr : Rd w A l) :
    ∀ b o, A = some ⟨b, o, none⟩ → l ≠ [] → b ≠ pd ∧ b ≠ pm := by
  rintro b o rfl hne
  obtain ⟨x, r, rfl⟩ := List.exists_cons_of_ne_nil hne
  obtain ⟨b', o', e, hc⟩ := hr 0 x rfl
  injection e with e
  injection e with e1 e2
  subst e1 e2
  refine ⟨?_, ?_⟩
  · rintro rfl
    rw [cell_of_row _ _ _ _ _ _ h1, dCells] at hc
    match o + 0, hc with
    | 0, hc => simp at hc
    | 1, hc => simp at hc
    | 2, hc => simp at hc
    | 3, hc => simp at hc
    | 4, hc => simp at hc
    | n + 5, hc => simp at hc
  · rintro rfl
    obtain ⟨es, ck, h2, _⟩ := hm
    simp [World.cell?, h2] at hc

theorem IsD.keep {S : Nat → Prop} {w w' : World} {pd ps pm : Nat} {D : Dk} (h : IsD w pd ps pm D) (hg : Chg S w w') (hS : ∀ k, k < w.heap.size → S k → k ≠ pd ∧ k ≠ ps ∧ k ≠ pm)
    (hstay : ∀ A c, w.heap[pd]? = some (.cells (dCells D ps pm A c) 59 (0, 0)) → ∀ b o, A = some ⟨b, o, none⟩ → D.stay ≠ [] → ¬ S b) : IsD w' pd ps pm D := by
  obtain ⟨hok, A, c, h1, h2, h3, h4, h5⟩ := h
  have l1 := (Array.getElem?_eq_some_iff.1 h1).1
  have l2 := (Array.getElem?_eq_some_iff.1 h2).1
  have l3 : pm < w.heap.size := by obtain ⟨_, _, h, _⟩ := h3; exact (Array.getElem?_eq_some_iff.1 h).1
  exact ⟨hok, A, c, (hg.block pd l1 (fun e => (hS pd l1 e).1 rfl)).trans h1, (hg.block ps l2 (fun e => (hS ps l2 e).2.1 rfl)).trans h2, h3.keep hg (fun e => (hS pm l3 e).2.2 rfl), h4.keep hg (hstay A c h1), h5⟩

theorem IsD.non {w w' : World} {pd ps pm : Nat} {D : Dk} (h : IsD w pd ps pm D) (hg : Chg Non w w') : IsD w' pd ps pm D :=
  h.keep hg (fun _ _ e => e.elim) (fun _ _ _ _ _ _ _ e => e)

/-- the cells of the struct -/
theorem IsD.cells {w : World} {pd ps pm : Nat} {D : Dk} (h : IsD w pd ps pm D) : ∃ A c,
    w.cell? ⟨pd, 0, none⟩ = some (.bool D.up) ∧ w.cell? ⟨pd, 1, none⟩ = some (.slice (some ⟨ps, 0, none⟩) D.sec.length D.sec.length) ∧ w.cell? ⟨pd, 2, none⟩ = some (.map (some pm)) ∧
    w.cell? ⟨pd, 3, none⟩ = some (.int .i64 D.left) ∧ w.cell? ⟨pd, 4, none⟩ = some (.slice A D.stay.length c) ∧ Rd w A D.stay ∧ D.stay.length ≤ c ∧ c ≤ maxLen := by
  obtain ⟨hok, A, c, h1, h2, h3, h4, h5, h6, h7⟩ := h
  exact ⟨A, c, by rw [cell_of_row _ _ _ _ _ _ h1]; rfl, by rw [cell_of_row _ _ _ _ _ _ h1]; rfl, by rw [cell_of_row _ _ _ _ _ _ h1]; rfl, by rw [cell_of_row _ _ _ _ _ _ h1]; rfl, by rw [cell_of_row _ _ _ _ _ _ h1]; rfl, h4, h6, h7⟩

theorem IsD.free {w : World} {pd ps pm : Nat} {D : Dk} (h : IsD w pd ps pm D) (i : Nat) : w.frozen? ⟨pd, i, none⟩ = false := by
  obtain ⟨hok, A, c, h1, _⟩ := h
  exact frozen_of_row _ _ _ _ _ h1

/-- a store into one field -/
theorem IsD.set {w : World} {pd ps pm : Nat} {D D' : Dk} (h : IsD w pd ps pm D) (i : Nat) (v : Value) (hs : D'.sec = D.sec) (hc : D'.cache = D.cache) (hst : D'.stay = D.stay) (hok : D'.Ok)
    (hv : ∀ A c, (dCells D ps pm A c).setIfInBounds i v = dCells D' ps pm A c) : IsD (w.setCell ⟨pd, i, none⟩ v) pd ps pm D' := by
  have hne := h.ne
  obtain ⟨_, A, c, h1, h2, h3, h4, h5, h6, h7⟩ := h
  have hg : Chg (fun k => k = pd) w (w.setCell ⟨pd, i, none⟩ v) := (Chg.refl (fun k => k = pd) _).setCell (p := ⟨pd, i, none⟩) (.inl rfl) _
  refine ⟨hok, A, c, ?_, ?_, ?_, ?_, by rw [hst]; exact h5, by rw [hst]; exact h6, h7⟩
  · rw [heap_setCell_same _ _ _ _ _ _ h1, hv]
  · rw [hs]; exact (hg.block ps (Array.getElem?_eq_some_iff.1 h2).1 (Ne.symm hne.1)).trans h2
  · rw [hc]; exact h3.keep hg (Ne.symm hne.2.1)
  · rw [hst]; exact h4.keep hg (fun b o e hne' => (stay_ne h1 h3 h4 b o e hne').1)

set_option maxRecDepth 100000 in
set_option maxHeartbeats 2000000 in
theorem dnone_ok (pd ps pm : Nat) (D : Dk) (w : World) (h : IsD w pd ps pm D) :
    Calls Tryz.prog 30 #[.pointer (some ⟨pd, 0, none⟩)] w fun e w' => e = .returned (.bool false) ∧ w = w' := by
  obtain ⟨A, c, _, _, h2, _⟩ := h.cells
  have he : ∀ (W : World) (r : Option Nat), (binOp .eql 57 (.map r) (.map none)).run Tryz.prog W = .ok (.bool r.isNone) W := fun W r => run_eql_map_nil W _ _ _ r Tryz.underlying57
  go_enter Tryz.func30, Tryz.ntmps30
  go_wp2
  go_ret
  exact ⟨rfl, rfl⟩

set_option maxRecDepth 100000 in
set_option maxHeartbeats 2000000 in
theorem ready_ok (pd ps pm : Nat) (D : Dk) (w : World) (h : IsD w pd ps pm D) :
    Calls Tryz.prog 34 #[.pointer (some ⟨pd, 0, none⟩)] w fun e w' => e = .returned (.int .i64 D.ready) ∧ w = w' := by
  obtain ⟨A, c, h0, _⟩ := h.cells
  have hn := dnone_ok pd ps pm D w h
  have HN := Lib.hid hn
  clear hn
  unfold Dk.ready
  obtain ⟨u, hu⟩ : ∃ u, D.up = u := ⟨_, rfl⟩
  rw [hu] at h0 ⊢
  clear hu
  cases u with
  | true =>
    go_enter Tryz.func34, Tryz.ntmps34
    go_wp2_with fail
    refine HN.out.mono ?_
    rintro e w' ⟨rfl, rfl⟩
    go_wp2
    go_ret
    exact ⟨rfl, rfl⟩
  | false =>
    go_enter Tryz.func34, Tryz.ntmps34
    go_wp2_with fail
    refine HN.out.mono ?_
    rintro e w' ⟨rfl, rfl⟩
    go_wp2
    go_ret
    exact ⟨rfl, rfl⟩

set_option maxRecDepth 100000 in
set_option maxHeartbeats 2000000 in
theorem Len_ok (pd ps pm : Nat) (D : Dk) (w : World) (h : IsD w pd ps pm D) :
    Calls Tryz.prog 31 #[.pointer (some ⟨pd, 0, none⟩)] w fun e w' => e = .returned (.int .i64 (D.sec.length : Nat)) ∧ w = w' := by
  obtain ⟨A, c, _, h1, _⟩ := h.cells
  have HN := Lib.hid (dnone_ok pd ps pm D w h)
  go_enter Tryz.func31, Tryz.ntmps31
  go_wp2_with fail
  refine HN.out.mono ?_
  rintro e w' ⟨rfl, rfl⟩
  go_wp2
  go_ret
  exact ⟨rfl, rfl⟩

set_option maxRecDepth 100000 in
set_option maxHeartbeats 2000000 in
theorem has_ok (pd ps pm : Nat) (D : Dk) (i : Int) (w : World) (h : IsD w pd ps pm D) :
    Calls Tryz.prog 35 #[.pointer (some ⟨pd, 0, none⟩), .int .i64 i] w fun e w' => e = .returned (.bool (decide (0 ≤ i ∧ i < D.sec.length))) ∧ w = w' := by
  have HN := Lib.hid (Len_ok pd ps pm D w h)
  by_cases h0 : 0 ≤ i
  · by_cases h1 : i < D.sec.length
    · rw [decide_eq_true (show 0 ≤ i ∧ i < D.sec.length from ⟨h0, h1⟩)]
      go_enter Tryz.func35, Tryz.ntmps35
      go_wp2_with fail
      refine HN.out.mono ?_
      rintro e w' ⟨rfl, rfl⟩
      go_wp2
      go_ret
      exact ⟨rfl, rfl⟩
    · rw [decide_eq_false (show ¬ (0 ≤ i ∧ i < D.sec.length) from fun e => h1 e.2)]
      have hd : decide (i < (D.sec.length : Int)) = false := by simp; omega
      go_enter Tryz.func35, Tryz.ntmps35
      go_wp2_with fail
      refine HN.out.mono ?_
      rintro e w' ⟨rfl, rfl⟩
      go_wp2
      go_ret
      exact ⟨rfl, rfl⟩
  · rw [decide_eq_false (show ¬ (0 ≤ i ∧ i < D.sec.length) from fun e => h0 e.1)]
    have hd : decide (0 ≤ i) = false := by simp; omega
    go_enter Tryz.func35, Tryz.ntmps35
    go_wp2
    go_ret
    exact ⟨rfl, rfl⟩

set_option maxRecDepth 100000 in
set_option maxHeartbeats 2000000 in
theorem Up_ok (pd ps pm : Nat) (D : Dk) (w : World) (h : IsD w pd ps pm D) :
    Calls Tryz.prog 10 #[.pointer (some ⟨pd, 0, none⟩)] w fun e w' => e = .returned (.bool D.up) ∧ w = w' := by
  obtain ⟨A, c, h0, _⟩ := h.cells
  have HN := Lib.hid (dnone_ok pd ps pm D w h)
  go_enter Tryz.func10, Tryz.ntmps10
  go_wp2_with fail
  refine HN.out.mono ?_
  rintro e w' ⟨rfl, rfl⟩
  go_wp2
  go_ret
  exact ⟨rfl, rfl⟩
end Go.Proofs.YtgmpacndjmmgjaaGreat
end
section
namespace Go.Proofs.YtgmpacndjmmgjaaGreat

/-- one step of the table -/
def tst (c : Nat) : Nat := (c / 2) ^^^ (3988292384 * (c % 2))
def tw : Nat → Nat → Nat
  | 0, k => k
  | j + 1, k => tst (tw j k)

theorem tst_lt (c : Nat) (h : c < 4294967296) : tst c < 4294967296 := by
  unfold tst
  exact Nat.xor_lt_two_pow (n := 32) (by omega) (by have := Nat.mod_lt c (show 0 < 2 by omega); omega)
theorem tw_lt (j k : Nat) (h : k < 4294967296) : tw j k < 4294967296 := by
  induction j with
  | zero => exact h
  | succ j ih => exact tst_lt _ ih

/-- what half a byte does -/
def half (c : Nat) : Nat := (c / 16) ^^^ tw 4 (c % 16)
theorem half_lt (c : Nat) (h : c < 4294967296) : half c < 4294967296 := by
  unfold half
  exact Nat.xor_lt_two_pow (n := 32) (by omega) (tw_lt 4 _ (by omega))

/-- what a byte does -/
def crcB (c : Nat) (x : UInt8) : Nat := half (half (c ^^^ x.toNat))
theorem crcX_lt (c : Nat) (x : UInt8) (h : c < 4294967296) : c ^^^ x.toNat < 4294967296 :=
  Nat.xor_lt_two_pow (n := 32) h (by have := x.toNat_lt; omega)
theorem crcB_lt (c : Nat) (x : UInt8) (h : c < 4294967296) : crcB c x < 4294967296 := half_lt _ (half_lt _ (crcX_lt c x h))

def crcL (c : Nat) (l : List UInt8) : Nat := l.foldl crcB c
theorem crcL_lt (c : Nat) (l : List UInt8) (h : c < 4294967296) : crcL c l < 4294967296 := by
  induction l generalizing c with
  | nil => exact h
  | cons x r ih => exact ih _ (crcB_lt c x h)

theorem crcL_take_snoc (c : Nat) (l : List UInt8) (k : Nat) (h : k < l.length) : crcL c (l.take (k + 1)) = crcB (crcL c (l.take k)) l[k] := by
  unfold crcL
  rw [List.take_succ_eq_append_getElem h, List.foldl_append]
  rfl

/-- the sum -/
def crcSum (l : List UInt8) : Nat := 4294967295 - crcL 4294967295 l
theorem crcSum_lt (l : List UInt8) : crcSum l < 4294967296 := by unfold crcSum; omega

/-! one byte otherwise -/

theorem tw4_top (a b : Nat) (ha : a < 16) (hb : b < 16) (h : tw 4 a / 268435456 = tw 4 b / 268435456) : a = b := by
  have key : ∀ a, a < 16 → ∀ b, b < 16 → tw 4 a / 268435456 = tw 4 b / 268435456 → a = b := by decide
  exact key a ha b hb h

theorem half_inj (a b : Nat) (ha : a < 4294967296) (hb : b < 4294967296) (h : half a = half b) : a = b := by
  unfold half at h
  have top : ∀ c : Nat, c < 4294967296 → ((c / 16) ^^^ tw 4 (c % 16)) / 268435456 = tw 4 (c % 16) / 268435456 := by
    intro c hc
    rw [show (268435456 : Nat) = 2 ^ 28 from rfl, ← Nat.shiftRight_eq_div_pow, ← Nat.shiftRight_eq_div_pow, Nat.shiftRight_xor_distrib]
    have : (c / 16) >>> 28 = 0 := by rw [Nat.shiftRight_eq_div_pow]; omega
    rw [this, Nat.zero_xor]
  have h1 : tw 4 (a % 16) / 268435456 = tw 4 (b % 16) / 268435456 := by rw [← top a ha, ← top b hb, h]
  have h2 : a % 16 = b % 16 := tw4_top _ _ (by omega) (by omega) h1
  rw [h2] at h
  have h3 : a / 16 = b / 16 := by
    have := congrArg (· ^^^ tw 4 (b % 16)) h
    simpa [Nat.xor_assoc] using this
  omega

theorem xor_cancel (a b x : Nat) (h : a ^^^ x = b ^^^ x) : a = b := by
  have := congrArg (· ^^^ x) h
  simpa [Nat.xor_assoc] using this

theorem crcB_inj (a b : Nat) (x : UInt8) (ha : a < 4294967296) (hb : b < 4294967296) (h : crcB a x = crcB b x) : a = b :=
  xor_cancel _ _ _ (half_inj _ _ (crcX_lt a x ha) (crcX_lt b x hb) (half_inj _ _ (half_lt _ (crcX_lt a x ha)) (half_lt _ (crcX_lt b x hb)) h))

theorem crcB_byte (a : Nat) (x y : UInt8) (ha : a < 4294967296) (h : crcB a x = crcB a y) : x = y := by
  have h1 := half_inj _ _ (crcX_lt a x ha) (crcX_lt a y ha) (half_inj _ _ (half_lt _ (crcX_lt a x ha)) (half_lt _ (crcX_lt a y ha)) h)
  rw [Nat.xor_comm a, Nat.xor_comm a] at h1
  exact UInt8.toNat_inj.1 (xor_cancel _ _ _ h1)

theorem crcL_inj (a b : Nat) (l : List UInt8) (ha : a < 4294967296) (hb : b < 4294967296) (h : crcL a l = crcL b l) : a = b := by
  induction l generalizing a b with
  | nil => exact h
  | cons x r ih => exact crcB_inj a b x ha hb (ih _ _ (crcB_lt a x ha) (crcB_lt b x hb) h)

/-- two rows that part in one byte alone have unlike sums -/
theorem crcSum_one (p s : List UInt8) (x y : UInt8) (h : crcSum (p ++ x :: s) = crcSum (p ++ y :: s)) : x = y := by
  unfold crcSum at h
  have h0 : (4294967295 : Nat) < 4294967296 := by omega
  have e : ∀ z, crcL 4294967295 (p ++ z :: s) = crcL (crcB (crcL 4294967295 p) z) s := by intro z; simp [crcL]
  have l1 := crcL_lt 4294967295 (p ++ x :: s) h0
  have l2 := crcL_lt 4294967295 (p ++ y :: s) h0
  have h1 : crcL 4294967295 (p ++ x :: s) = crcL 4294967295 (p ++ y :: s) := by omega
  rw [e, e] at h1
  have lp := crcL_lt 4294967295 p h0
  exact crcB_byte _ x y lp (crcL_inj _ _ s (crcB_lt _ x lp) (crcB_lt _ y lp) h1)

end Go.Proofs.YtgmpacndjmmgjaaGreat
end
section
namespace Go.Proofs.YtgmpacndjmmgjaaGreat
open Go.RowKit
set_option linter.unusedVariables false

/-- the table behind k rounds -/
def tabA (k : Nat) : Array Value := ((List.range 16).map fun j => if j < k then .int .u32 (tw 4 j : Nat) else .int .u32 0).toArray

theorem tabA_zero : tabA 0 = #[.int .u32 0, .int .u32 0, .int .u32 0, .int .u32 0, .int .u32 0, .int .u32 0, .int .u32 0, .int .u32 0, .int .u32 0, .int .u32 0, .int .u32 0, .int .u32 0, .int .u32 0, .int .u32 0, .int .u32 0, .int .u32 0] := rfl
theorem tabA_size (k : Nat) : (tabA k).size = 16 := by simp [tabA]
theorem tabA_at (k j : Nat) (h : j < 16) : (tabA k)[j]? = some (if j < k then .int .u32 (tw 4 j : Nat) else .int .u32 0) := by simp [tabA, h]
theorem tabA_set (k : Nat) (h : k < 16) : (tabA k).setIfInBounds k (.int .u32 (tw 4 k : Nat)) = tabA (k + 1) := by
  apply Array.ext_getElem?
  intro i
  rw [Array.getElem?_setIfInBounds]
  by_cases hi : i < 16
  · rw [tabA_at k i hi, tabA_at (k + 1) i hi]
    by_cases e : k = i
    · subst e; simp [tabA_size, h]
    · have : (i < k + 1) ↔ i < k := by omega
      simp only [e, if_false, this]
  · have h1 : (tabA k)[i]? = none := Array.getElem?_eq_none (by rw [tabA_size]; omega)
    have h2 : (tabA (k + 1))[i]? = none := Array.getElem?_eq_none (by rw [tabA_size]; omega)
    have : k ≠ i := by omega
    simp [h1, h2, this]
theorem tabA_get (k : Nat) (h : k < 16) : (tabA k)[k]? = some (.int .u32 0) := by rw [tabA_at k k h]; simp
theorem tabA_full (k : Nat) (h : k < 16) : (tabA 16)[k]? = some (.int .u32 (tw 4 k : Nat)) := by rw [tabA_at 16 k h]; simp [h]
theorem tabA_lit : tabA 16 = #[.int .u32 (tw 4 0 : Nat), .int .u32 (tw 4 1 : Nat), .int .u32 (tw 4 2 : Nat), .int .u32 (tw 4 3 : Nat), .int .u32 (tw 4 4 : Nat), .int .u32 (tw 4 5 : Nat), .int .u32 (tw 4 6 : Nat), .int .u32 (tw 4 7 : Nat), .int .u32 (tw 4 8 : Nat), .int .u32 (tw 4 9 : Nat), .int .u32 (tw 4 10 : Nat), .int .u32 (tw 4 11 : Nat), .int .u32 (tw 4 12 : Nat), .int .u32 (tw 4 13 : Nat), .int .u32 (tw 4 14 : Nat), .int .u32 (tw 4 15 : Nat)] := rfl

theorem tabA_one : (tabA 16).all (·.oneCell') = true := by rw [tabA_lit]; simp [Value.oneCell']

set_option maxRecDepth 100000 in
set_option maxHeartbeats 2000000 in
theorem table_any (w : World) :
    Calls Tryz.prog 129 #[] w fun e w' => e = .returned (.agg (tabA 16)) ∧ Chg Non w w' := by
  go_enter Tryz.func129, Tryz.ntmps129
  go_wp2
  go_loopw [5] (fun i wr => ∃ k : Nat, k ≤ 16 ∧ i = .int .i64 k ∧ wr.heap[w.heap.size + 1]? = some (.cells (tabA k) 151 (0, 0)) ∧ wr.heap[w.heap.size]? = some (.cells (tabA 0) 151 (0, 0)) ∧ Chg Non w wr) (fun i _ => 16 - (intOf i).toNat)
  case atStart => 
    refine ⟨0, by omega, rfl, ?_, ?_, ((Chg.refl _ _).alloc _).alloc _⟩
    · rw [tabA_zero]
      have h := fun o o' => (MapKept.heap_alloc (w.alloc o) o').1
      simp only [World.size_alloc] at h
      exact h _ _
    · rw [tabA_zero]
      refine (Below.heap_alloc _ _ _ (by simp)).trans (MapKept.heap_alloc _ _).1
  case round =>
    obtain ⟨k, hk, rfl, hb, hb0, hg⟩ := hrel
    by_cases hlt : k < 16
    · obtain ⟨wo, rfl⟩ : ∃ wo : World, wo = wr := ⟨_, rfl⟩
      have HB := Lib.hid hb
      have HB0 := Lib.hid hb0
      clear hb hb0
      go_wp2
      go_loop [3, 10] (fun c j => ∃ i : Nat, i ≤ 4 ∧ j = .int .i64 i ∧ c = .int .u32 (tw i k : Nat)) (fun _ j => 4 - (intOf j).toNat)
      case atStart => exact ⟨0, by omega, rfl, rfl⟩
      case round =>
        obtain ⟨i, hi, rfl, rfl⟩ := hrel
        have hc := tw_lt i k (by omega)
        have hs : tw (i + 1) k = tst (tw i k) := rfl
        have HS := Lib.hid hs
        clear hs
        by_cases hi4 : i < 4
        · obtain ⟨c, hcc⟩ : ∃ c, tw i k = c := ⟨_, rfl⟩
          rw [hcc] at hc HS ⊢
          clear hcc
          have h1 : bits .and .u32 (c : Int) 1 = ((c % 2 : Nat) : Int) := by
            have := u32_and_nat c 1 hc (by omega)
            rw [nat_mask1] at this
            exact this
          have h2 : ((c % 2 : Nat) : Int) ≤ 1 := by omega
          have h2' : (0 : Int) ≤ ((c % 2 : Nat) : Int) := by omega
          have h3 : bits .xor .u32 ((c : Int) / 2) (3988292384 * ((c % 2 : Nat) : Int)) = (tst c : Int) := by
            have := u32_xor_nat (c / 2) (3988292384 * (c % 2)) (by omega) (by omega)
            unfold tst
            rw [← this]
            simp
          obtain ⟨d, hd⟩ : ∃ d, c % 2 = d := ⟨_, rfl⟩
          rw [hd] at h1 h2 h2' h3
          clear hd
          go_wp2
          go_round
          case rel => exact ⟨i + 1, by omega, by go_num, by rw [HS.out]⟩
          case measure => simp [intOf]; omega
        · obtain rfl : i = 4 := by omega
          have hcell : wo.cell? ⟨w.heap.size + 1, k, none⟩ = some (.int .u32 0) := by
            simp only [World.cell?]; rw [HB.out]; exact tabA_get k hlt
          have hfr : wo.frozen? ⟨w.heap.size + 1, k, none⟩ = false := by
            simp only [World.frozen?]; rw [HB.out]; simp
          have hset := tabA_set k hlt
          obtain ⟨v, hv⟩ : ∃ v : Value, (Value.int .u32 (tw 4 k : Nat)) = v := ⟨_, rfl⟩
          obtain ⟨c, hcc⟩ : ∃ c, tw 4 k = c := ⟨_, rfl⟩
          rw [hcc] at hc hv hset ⊢
          clear hcc HS
          have HSet := Lib.hid hset
          clear hset hv
          go_wp2
          go_roundw
          case rel =>
            refine ⟨k + 1, by omega, by go_num, ?_, ?_, hg.setCell (.inr (by simp)) _⟩
            · rw [heap_setCell_same _ _ _ _ _ _ HB.out, HSet.out]
            · rw [heap_setCell_other _ _ _ _ (by simp)]
              exact HB0.out
          case measure => simp [intOf]; omega
    · obtain rfl : k = 16 := by omega
      have HB := Lib.hid hb
      have HB0 := Lib.hid hb0
      clear hb hb0
      go_wp2_with (first
        | (refine wpList_load_row (o := ⟨some 24, _, _, _, _, _⟩) rfl 151 (.tmp 1) rfl (w.heap.size + 1) rfl 151 (tabA 16) (0, 0) _ HB.out Tryz.underlying151 rfl (by kernel_rfl) ?_)
        | (refine wpList_store_row (o := ⟨none, .store 151 (.tmp 0) (.tmp 24), _, _, _, _⟩) rfl 151 (.tmp 0) (.tmp 24) rfl w.heap.size (tabA 16) rfl rfl 151 (tabA 0) HB0.out (by kernel_rfl) rfl tabA_one ?_))
      refine bodyPost_ret (results_cell_row Tryz.results129 _ _ w.heap.size 151 (tabA 16) (0, 0) _ rfl (setRow_heap _ _ _ _ _ _ HB0.out) Tryz.underlying151 rfl (by kernel_rfl)) rfl ⟨rfl, hg.setRow (.inr (Nat.le_refl _)) _⟩

theorem ones_xor (x : Nat) (h : x < 4294967296) : 4294967295 ^^^ x = 4294967295 - x := by
  have h1 : (4294967295 : Nat) = 2 ^ 32 - 1 := rfl
  have e : BitVec.allOnes 32 ^^^ BitVec.ofNat 32 x = ~~~ (BitVec.ofNat 32 x) := BitVec.allOnes_xor
  have := congrArg BitVec.toNat e
  rw [BitVec.toNat_xor, BitVec.toNat_not, BitVec.toNat_ofNat, BitVec.toNat_allOnes, Nat.mod_eq_of_lt (by omega)] at this
  exact this

set_option maxRecDepth 100000 in
set_option maxHeartbeats 2000000 in
theorem Add_any (A : Option Addr) (l : List UInt8) (cap : Nat) (w : World) (hr : Rd w A l) (hl : l.length ≤ 9223372036854775807) :
    Calls Tryz.prog 124 #[.int .u32 0, .slice A l.length cap] w fun e w' => e = .returned (.int .u32 (crcSum l : Nat)) ∧ Chg Non w w' := by
  go_enter Tryz.func124, Tryz.ntmps124
  go_wp2_with (first
    | (go_at_call 129; refine (table_any _).mono ?_; rintro e w1 ⟨rfl, hg1⟩)
    | (refine wpList_store_row (o := ⟨none, .store 151 (.tmp 5) (.tmp 8), _, _, _, _⟩) rfl 151 (.tmp 5) (.tmp 8) rfl w1.heap.size (tabA 16) rfl rfl 151 (tabA 0) (heap_alloc_new _ _) (by kernel_rfl) rfl tabA_one ?_))
  obtain ⟨W, hW⟩ : ∃ W, (w1.alloc (.cells (tabA 0) 151)).setRow w1.heap.size (tabA 16) = W := ⟨_, rfl⟩
  have HB := Lib.hid (show W.heap[w1.heap.size]? = some (.cells (tabA 16) 151 (0, 0)) from by rw [← hW]; exact setRow_heap _ _ _ _ _ _ (heap_alloc_new _ _))
  have hg : Chg Non w W := by
    rw [← hW]
    exact (hg1.alloc _).setRow (.inr hg1.size) _
  have HR := Lib.hid (hr.non hg)
  rw [show (w1.alloc (.cells #[.int .u32 0, .int .u32 0, .int .u32 0, .int .u32 0, .int .u32 0, .int .u32 0, .int .u32 0, .int .u32 0, .int .u32 0, .int .u32 0, .int .u32 0, .int .u32 0, .int .u32 0, .int .u32 0, .int .u32 0, .int .u32 0] 151)).setRow w1.heap.size (tabA 16) = W from hW]
  clear hW hr hg1
  go_loop [0, 13] (fun c i => ∃ k : Nat, k ≤ l.length ∧ i = .int .i64 k ∧ c = .int .u32 (crcL 4294967295 (l.take k) : Nat)) (fun _ i => l.length - (intOf i).toNat)
  case atStart => exact ⟨0, by omega, rfl, rfl⟩
  case round =>
    obtain ⟨k, hk, rfl, rfl⟩ := hrel
    have hc := crcL_lt 4294967295 (l.take k) (by omega)
    by_cases hlt : k < l.length
    · obtain ⟨b, o, rfl, hb, hcell⟩ := HR.out.at_ (by omega)
      have HC := Lib.hid hcell
      clear hcell
      have hcell := HC.out k hlt
      have hs := crcL_take_snoc 4294967295 l k hlt
      obtain ⟨c, hcc⟩ : ∃ c, crcL 4294967295 (l.take k) = c := ⟨_, rfl⟩
      rw [hcc] at hc hs ⊢
      clear hcc
      obtain ⟨x, hx⟩ : ∃ x, l[k]'hlt = x := ⟨_, rfl⟩
      rw [hx] at hcell hs
      clear hx
      have hx1 := crcX_lt c x hc
      have hx2 : bits .xor .u32 (c : Int) (x.toNat : Int) = ((c ^^^ x.toNat : Nat) : Int) := u32_xor_nat _ _ hc (by have := x.toNat_lt; omega)
      have hxl := x.toNat_lt
      have HS := Lib.hid hs
      clear hs
      have hd1 := half_lt _ hx1
      have HT : ∀ d : Nat, d < 4294967296 → W.cell? ⟨w1.heap.size, d % 16, none⟩ = some (.int .u32 (tw 4 (d % 16) : Nat)) := fun d hd => by
        simp only [World.cell?]; rw [HB.out]; exact tabA_full (d % 16) (by omega)
      have HH : ∀ d : Nat, d < 4294967296 → bits .xor .u32 ((d : Int) / 16) ((tw 4 (d % 16) : Nat) : Int) = ((half d : Nat) : Int) := fun d hd => by
        have := u32_xor_nat (d / 16) (tw 4 (d % 16)) (by omega) (tw_lt 4 _ (by omega))
        unfold half
        rw [← this]
        simp
      have t1 := HT _ hx1
      have t2 := HT _ hd1
      have a1 := HH _ hx1
      have a2 := HH _ hd1
      have hd2 := half_lt _ hd1
      have b1 := tw_lt 4 ((c ^^^ x.toNat) % 16) (by omega)
      have b2 := tw_lt 4 (half (c ^^^ x.toNat) % 16) (by omega)
      clear HT HH
      replace HS : Hid (crcL 4294967295 (l.take (k + 1)) = half (half (c ^^^ x.toNat))) := HS
      go_wp2
      refine wp_loop_rounds 3 ?_
      rw [rounds_succ]
      go_wp2
      rw [rounds_succ]
      go_wp2
      rw [rounds_succ]
      go_wp2
      go_round
      case rel => exact ⟨k + 1, by omega, by go_num, by rw [HS.out]⟩
      case measure => simp [intOf]; omega
    · have e : l.take k = l := List.take_of_length_le (by omega)
      rw [e] at hc ⊢
      have hf : bits .xor .u32 IntKind.u32.max (crcL 4294967295 l : Nat) = (crcSum l : Nat) := by
        have := u32_xor_nat 4294967295 (crcL 4294967295 l) (by omega) hc
        have e2 : (IntKind.u32.max : Int) = ((4294967295 : Nat) : Int) := rfl
        rw [e2, this, crcSum]
        congr 1
        exact ones_xor _ hc
      go_wp2
      go_ret
      exact ⟨rfl, hg⟩
set_option maxRecDepth 100000 in
set_option maxHeartbeats 2000000 in
theorem Sum_any (A : Option Addr) (l : List UInt8) (cap : Nat) (w : World) (hr : Rd w A l) (hl : l.length ≤ 9223372036854775807) :
    Calls Tryz.prog 111 #[.slice A l.length cap] w fun e w' => e = .returned (.int .u32 (crcSum l : Nat)) ∧ Chg Non w w' := by
  go_enter Tryz.func111, Tryz.ntmps111
  go_wp2_with (go_at_call 124; refine (Add_any _ _ _ _ hr hl).mono ?_; rintro e w1 ⟨rfl, hg1⟩)
  go_ret
  exact ⟨rfl, hg1⟩

end Go.Proofs.YtgmpacndjmmgjaaGreat
end
section
namespace Go.Proofs.YtgmpacndjmmgjaaGreat
open Go.RowKit
set_option linter.unusedVariables false

def crcPut (l : List UInt8) : List UInt8 := l ++ be (crcSum l) 4

set_option maxRecDepth 100000 in
set_option maxHeartbeats 2000000 in
theorem crcPut_any (A : Option Addr) (l : List UInt8) (cap : Nat) (w : World) (hr : Rd w A l) (hl : l.length ≤ 1000000) :
    Calls Tryz.prog 98 #[.slice A l.length cap] w (RetB w (crcPut l)) := by
  go_enter Tryz.func98, Tryz.ntmps98
  go_wp2_with fail
  refine (Sum_any A l cap w hr (by omega)).mono ?_
  rintro e w1 ⟨rfl, hg1⟩
  go_wp2_with fail
  refine (Put32 _ _ (crcSum_lt l)).mono ?_
  rintro e w2 ⟨A2, c2, rfl, hc2, hm2, ho2, hg2⟩
  go_wp2_with fail
  have h1 := (hr.non hg1).non hg2
  refine (Cat2 A A2 l (be (crcSum l) 4) cap c2 _ w2 _ rfl h1 ho2.rd (by rw [be_length]; omega) (crcPut l) rfl).mono ?_
  rintro e w3 ⟨A3, c3, rfl, hr3⟩
  go_wp2
  go_ret
  exact RetB.from ⟨A3, c3, rfl, hr3⟩ (hg1.then_non hg2)

def crcOk (b : List UInt8) : Bool := decide (4 ≤ b.length ∧ crcPut (b.take (b.length - 4)) = b)

set_option maxRecDepth 100000 in
set_option maxHeartbeats 2000000 in
/-- Check, where the bytes are at least 4 -/
theorem Check_any (A : Option Addr) (l : List UInt8) (cap : Nat) (w : World) (hr : Rd w A l) (h4 : 4 ≤ l.length) (hl : l.length ≤ 1000000) (hcap : l.length ≤ cap) (hm : cap ≤ maxLen) :
    Calls Tryz.prog 118 #[.slice A l.length cap] w fun e w' => (∃ v, e = .returned (.tuple #[v, .bool (crcOk l)])) ∧ Chg Non w w' := by
  unfold maxLen at hm
  have hlt : (l.take (l.length - 4)).length = l.length - 4 := by rw [List.length_take]; omega
  have hp := crcPut_any A (l.take (l.length - 4)) cap
  have hcut := fun W h => Cat1 A (l.take (l.length - 4)) cap 35 W _ rfl h (by omega)
  rw [hlt] at hp hcut
  have HP := Lib.hid hp
  have HK := Lib.hid hcut
  clear hp hcut
  have hok : crcOk l = decide (crcPut (l.take (l.length - 4)) = l) := by
    unfold crcOk
    simp [h4]
  have HOK := Lib.hid hok
  clear hok hlt
  by_cases he : crcPut (l.take (l.length - 4)) = l
  · have hd : decide (crcPut (l.take (l.length - 4)) = l) = true := by simpa using he
    have HE := Lib.hid he
    clear he
    go_enter Tryz.func118, Tryz.ntmps118
    go_wp2_with fail
    refine (HP.out w (hr.take (l.length - 4)) (by omega)).mono ?_
    rintro e w2 ⟨A2, c2, rfl, hc2, hm2, ho2, hg2⟩
    go_wp2_with fail
    refine (Same_any A2 A (crcPut (l.take (l.length - 4))) l c2 cap w2 ho2.rd (hr.non hg2)).mono ?_
    rintro e w3 ⟨rfl, rfl⟩
    go_wp2_with fail
    refine (HK.out w2 ((hr.take (l.length - 4)).non hg2)).mono ?_
    rintro e w4 ⟨A4, c4, rfl, hc4, hm4, ho4, hg4⟩
    go_wp2
    go_ret2
    exact ⟨⟨_, by rw [HOK.out, hd]; rfl⟩, hg2.then_non hg4⟩
  · have hd : decide (crcPut (l.take (l.length - 4)) = l) = false := by simpa using he
    have HE := Lib.hid he
    clear he
    go_enter Tryz.func118, Tryz.ntmps118
    go_wp2_with fail
    refine (HP.out w (hr.take (l.length - 4)) (by omega)).mono ?_
    rintro e w2 ⟨A2, c2, rfl, hc2, hm2, ho2, hg2⟩
    go_wp2_with fail
    refine (Same_any A2 A (crcPut (l.take (l.length - 4))) l c2 cap w2 ho2.rd (hr.non hg2)).mono ?_
    rintro e w3 ⟨rfl, rfl⟩
    go_wp2
    go_ret2
    exact ⟨⟨_, by rw [HOK.out, hd]; rfl⟩, hg2⟩
end Go.Proofs.YtgmpacndjmmgjaaGreat
end
section
namespace Go.Proofs.YtgmpacndjmmgjaaGreat
open Go.RowKit
set_option linter.unusedVariables false

/-- the bytes of a frame -/
def sealL (kind : UInt8) (b : List UInt8) : List UInt8 := crcPut ([kind, UInt8.ofNat b.length] ++ b ++ List.replicate (58 - b.length) 0)

def sizeL (s : List UInt8) : Nat := (s.getD 1 0).toNat

/-- is it a frame? -/
def wholeL (s : List UInt8) : Bool :=
  decide (s.length = 64) && (crcOk s && (decide (sizeL s ≤ 58) && decide ((s.drop (2 + sizeL s)).take (60 - (2 + sizeL s)) = List.replicate (60 - (2 + sizeL s)) 0)))

/-- a call hands back new bytes of its own, and one more value -/
def RetB2 (w : World) (l : List UInt8) (v : Value) (e : Ending) (w' : World) : Prop :=
  ∃ A c, e = .returned (.tuple #[.slice A l.length c, v]) ∧ l.length ≤ c ∧ c ≤ maxLen ∧ Own w.heap.size w' A l ∧ Chg Non w w'

theorem zeros_own (w : World) (n : Nat) (t : TypeId) : Own w.heap.size (w.alloc (.cells (Array.replicate n (.int .u8 0)) t)) (some ⟨w.heap.size, 0, none⟩) (List.replicate n 0) :=
  own_new _ _ _ _ (by simp [bv])

set_option maxRecDepth 100000 in
set_option maxHeartbeats 2000000 in
theorem Seal_any (kind : UInt8) (A : Option Addr) (l : List UInt8) (cap : Nat) (w : World) (hr : Rd w A l) (hl : l.length ≤ 58) :
    Calls Tryz.prog 73 #[.int .u8 (kind.toNat : Int), .slice A l.length cap] w (RetB2 w (sealL kind l) (.int .i64 0)) := by
  have hmk := fun W => mk_bytes (58 - (l.length : Int)) (by omega) (by omega) W
  have e1 : (58 - (l.length : Int)).toNat = 58 - l.length := by omega
  rw [e1] at hmk
  have e2 : ((58 - l.length : Nat) : Int) = 58 - (l.length : Int) := by omega
  clear e1 e2
  go_enter Tryz.func73, Tryz.ntmps73
  go_wp2_with fail
  have o1 : Own w.heap.size (w.alloc (.cells #[.int .u8 (kind.toNat : Int), .int .u8 (l.length : Int)] 5)) (some ⟨w.heap.size, 0, none⟩) [kind, UInt8.ofNat l.length] :=
    own_new _ _ _ _ (by simp [bv, Nat.mod_eq_of_lt (show l.length < 256 by omega)])
  have o3 := zeros_own (w.alloc (.cells #[.int .u8 (kind.toNat : Int), .int .u8 (l.length : Int)] 5)) (58 - l.length) 5
  simp only [World.size_alloc] at o3
  have hz : (List.replicate (58 - l.length) (0 : UInt8)).length = 58 - l.length := by simp
  have hc := fun t W g hg h1 h2 h3 => Cat3 (some ⟨w.heap.size, 0, none⟩) A (some ⟨w.heap.size + 1, 0, none⟩) [kind, UInt8.ofNat l.length] l (List.replicate (58 - l.length) 0) 2 cap (58 - l.length) t W g hg h1 h2 h3
    (by simp; omega) _ rfl
  rw [hz] at hc
  refine (hc _ _ _ (by simp) (o1.rd.non ((Chg.refl _ _).alloc _)) (hr.non (((Chg.refl _ _).alloc _).alloc _)) o3.rd).mono ?_
  clear hc o1 o3 hz hmk
  rintro e w1 h1
  have h2 := h1.from (((Chg.refl Non w).alloc _).alloc _)
  clear h1
  have hlen : ([kind, UInt8.ofNat l.length] ++ l ++ List.replicate (58 - l.length) 0).length = 60 := by simp; omega
  have hs : crcPut ([kind, UInt8.ofNat l.length] ++ l ++ List.replicate (58 - l.length) 0) = sealL kind l := rfl
  generalize [kind, UInt8.ofNat l.length] ++ l ++ List.replicate (58 - l.length) 0 = m at *
  obtain ⟨A1, c1, rfl, hc1, hm1, ho1, hg1⟩ := h2
  have HS := Lib.hid hs
  clear hs
  have hlen' : m.length ≤ 60 := by omega
  have HL := Lib.hid hlen
  clear hlen
  go_wp2_with fail
  refine (crcPut_any A1 m c1 w1 ho1.rd (by omega)).mono ?_
  rintro e w2 ⟨A2, c2, rfl, hc2, hm2, ho2, hg2⟩
  go_wp2
  go_ret2
  rw [← HS.out]
  exact ⟨A2, c2, rfl, hc2, hm2, ho2.mono hg1.size, hg1.then_non hg2⟩

set_option maxRecDepth 100000 in
set_option maxHeartbeats 2000000 in
theorem size_any (A : Option Addr) (l : List UInt8) (cap : Nat) (w : World) (hr : Rd w A l) (hl : 2 ≤ l.length) (hm : l.length ≤ 64) :
    Calls Tryz.prog 81 #[.slice A l.length cap] w fun e w' => e = .returned (.int .i64 (sizeL l : Nat)) ∧ w = w' := by
  obtain ⟨b, o, rfl, hb, hc⟩ := hr.at_ (by omega)
  have h1 := hc 1 (by omega)
  have hs : (l[1]'(by omega)).toNat = sizeL l := by simp [sizeL, List.getD, List.getElem?_eq_getElem (show 1 < l.length by omega)]
  rw [hs] at h1
  have hlt : sizeL l < 256 := by rw [← hs]; exact UInt8.toNat_lt _
  clear hc hs
  go_enter Tryz.func81, Tryz.ntmps81
  go_wp2
  go_ret
  exact ⟨rfl, rfl⟩

set_option maxRecDepth 100000 in
set_option maxHeartbeats 2000000 in
theorem whole1 (p : Nat) (A : Option Addr) (l : List UInt8) (cap : Nat) (w : World) (hp : w.cell? ⟨p, 0, none⟩ = some (.slice A l.length cap)) :
    Calls Tryz.prog 116 #[.pointer (some ⟨p, 0, none⟩)] w fun e w' => e = .returned (.bool (decide (l.length = 64))) ∧ w = w' := by
  by_cases h : l.length = 64
  · have hd : ((l.length : Int) == 64) = true := by simp; omega
    rw [decide_eq_true h]
    clear h
    go_enter Tryz.func116, Tryz.ntmps116
    go_wp2
    go_ret
    exact ⟨rfl, rfl⟩
  · have hd : ((l.length : Int) == 64) = false := by simp; omega
    rw [decide_eq_false h]
    clear h
    go_enter Tryz.func116, Tryz.ntmps116
    go_wp2
    go_ret
    exact ⟨rfl, rfl⟩

set_option maxRecDepth 100000 in
set_option maxHeartbeats 2000000 in
theorem whole2 (p : Nat) (A : Option Addr) (l : List UInt8) (cap : Nat) (w : World) (hp : w.cell? ⟨p, 0, none⟩ = some (.slice A l.length cap)) (hr : Rd w A l) (h64 : 64 ≤ l.length) (hl : l.length ≤ 64)
    (hcap : l.length ≤ cap) (hm : cap ≤ maxLen) :
    Calls Tryz.prog 117 #[.pointer (some ⟨p, 0, none⟩)] w fun e w' => e = .returned (.bool (crcOk l)) ∧ Chg Non w w' := by
  go_enter Tryz.func117, Tryz.ntmps117
  go_wp2_with fail
  refine (Check_any A l cap w hr (by omega) (by omega) hcap hm).mono ?_
  rintro e w1 ⟨⟨v, rfl⟩, hg⟩
  go_wp2
  go_ret
  exact ⟨rfl, hg⟩

set_option maxRecDepth 100000 in
set_option maxHeartbeats 2000000 in
theorem whole3 (p : Nat) (A : Option Addr) (l : List UInt8) (cap : Nat) (w : World) (hp : w.cell? ⟨p, 0, none⟩ = some (.slice A l.length cap)) (hr : Rd w A l) (h64 : 64 ≤ l.length) (hl : l.length ≤ 64) :
    Calls Tryz.prog 119 #[.pointer (some ⟨p, 0, none⟩)] w fun e w' => e = .returned (.bool (decide (sizeL l ≤ 58))) ∧ w = w' := by
  have e : decide (sizeL l ≤ 58) = decide ((sizeL l : Int) ≤ 58) := by simp; omega
  rw [e]
  clear e
  go_enter Tryz.func119, Tryz.ntmps119
  go_wp2_with fail
  refine (size_any A l cap w hr (by omega) hl).mono ?_
  rintro e w1 ⟨rfl, rfl⟩
  go_wp2
  go_ret
  exact ⟨rfl, rfl⟩

set_option maxRecDepth 100000 in
set_option maxHeartbeats 2000000 in
theorem whole4 (p : Nat) (A : Option Addr) (l : List UInt8) (cap : Nat) (w : World) (hp : w.cell? ⟨p, 0, none⟩ = some (.slice A l.length cap)) (hr : Rd w A l) (h64 : 64 ≤ l.length) (hl : l.length ≤ 64)
    (hcap : l.length ≤ cap) (hm : cap ≤ maxLen) (h58 : sizeL l ≤ 58) :
    Calls Tryz.prog 120 #[.pointer (some ⟨p, 0, none⟩)] w fun e w' => e = .returned (.bool (decide ((l.drop (2 + sizeL l)).take (60 - (2 + sizeL l)) = List.replicate (60 - (2 + sizeL l)) 0))) ∧ Chg Non w w' := by
  have hs := fun W h => size_any A l cap W h (by omega) hl
  obtain ⟨z, hz⟩ : ∃ z, sizeL l = z := ⟨_, rfl⟩
  rw [hz] at hs h58 ⊢
  unfold maxLen at hm
  clear hz
  obtain ⟨b, o, rfl, hb, hcell⟩ := hr.at_ (by omega)
  clear hcell
  have i1 : IntKind.i64.wrap (2 + (z : Int)) = 2 + (z : Int) := IntWalk.i64_in _ (by omega)
  have i2 : (0 : Int) ≤ 2 + (z : Int) := by omega
  have i3 : (2 + (z : Int)).toNat = 2 + z := by omega
  have hmk := fun W => mk_bytes ((60 - (2 + z) : Nat) : Int) (by omega) (by omega) W
  simp only [Int.toNat_natCast] at hmk
  have hS := fun B d W h k => Same_any (some ⟨b, o + (2 + z), none⟩) B ((l.drop (2 + z)).take (60 - (2 + z))) (List.replicate (60 - (2 + z)) 0) (cap - (2 + z)) d W h k
  have hl1 : ((l.drop (2 + z)).take (60 - (2 + z))).length = 60 - (2 + z) := by rw [List.length_take, List.length_drop]; omega
  rw [hl1, List.length_replicate] at hS
  clear hl1
  go_enter Tryz.func120, Tryz.ntmps120
  go_wp2_with fail
  go_quiet ((go_at_call 81; exact quiet_left (hs _ hr)))
  go_wp2_with fail
  refine (hS _ _ _ (by exact (((hr.drop (2 + z)).take (60 - (2 + z))).drewN nq).non ((Chg.refl _ _).alloc _)) (by exact (zeros_own (w.drewN nq) (60 - (2 + z)) 5).rd)).mono ?_
  rintro e w2 ⟨rfl, rfl⟩
  go_wp2
  go_ret
  exact ⟨rfl, ((Chg.refl _ _).drewN nq).alloc _⟩

set_option maxRecDepth 100000 in
set_option maxHeartbeats 2000000 in
theorem whole_any (A : Option Addr) (l : List UInt8) (cap : Nat) (w : World) (hr : Rd w A l) (h64 : 64 ≤ l.length) (hl : l.length ≤ 64) (hcap : l.length ≤ cap) (hm : cap ≤ maxLen) :
    Calls Tryz.prog 102 #[.slice A l.length cap] w fun e w' => e = .returned (.bool (wholeL l)) ∧ Chg Non w w' := by
  have x0 : ∀ (f1 f2 f3 f4 : Value) (W : World), (Instr.index 145 (.agg #[f1, f2, f3, f4]) (.int .i64 0)).run Tryz.prog W = .ok f1 W := fun _ _ _ _ _ => by kernel_rfl
  have x1 : ∀ (f1 f2 f3 f4 : Value) (W : World), (Instr.index 145 (.agg #[f1, f2, f3, f4]) (.int .i64 1)).run Tryz.prog W = .ok f2 W := fun _ _ _ _ _ => by kernel_rfl
  have x2 : ∀ (f1 f2 f3 f4 : Value) (W : World), (Instr.index 145 (.agg #[f1, f2, f3, f4]) (.int .i64 2)).run Tryz.prog W = .ok f3 W := fun _ _ _ _ _ => by kernel_rfl
  have x3 : ∀ (f1 f2 f3 f4 : Value) (W : World), (Instr.index 145 (.agg #[f1, f2, f3, f4]) (.int .i64 3)).run Tryz.prog W = .ok f4 W := fun _ _ _ _ _ => by kernel_rfl
  have hp0 : ∀ o, ((w.alloc (.cells #[.slice A l.length cap] 35)).alloc o).cell? ⟨w.heap.size, 0, none⟩ = some (.slice A l.length cap) := fun o => by
    simp only [World.cell?]; rw [heap_alloc2_old]; rfl
  have HP := Lib.hid hp0
  clear hp0
  have hW : wholeL l = (crcOk l && (decide (sizeL l ≤ 58) && decide ((l.drop (2 + sizeL l)).take (60 - (2 + sizeL l)) = List.replicate (60 - (2 + sizeL l)) 0))) := by
    unfold wholeL
    rw [decide_eq_true (show l.length = 64 by omega)]
    rfl
  have HW := Lib.hid hW
  clear hW
  have h64d : decide (l.length = 64) = true := decide_eq_true (by omega)
  have H64 := Lib.hid h64d
  clear h64d
  have w1 := fun W h => whole1 w.heap.size A l cap W h
  rw [H64.out] at w1
  have w2 := fun W h k => whole2 w.heap.size A l cap W h k h64 hl hcap hm
  have w3 := fun W h k => whole3 w.heap.size A l cap W h k h64 hl
  have w4 := fun W h k z => whole4 w.heap.size A l cap W h k h64 hl hcap hm z
  have hsz : ∀ o, ((w.alloc (.cells #[.slice A l.length cap] 35)).alloc o).heap.size = w.heap.size + 1 + 1 := fun o => by simp
  have HSz := Lib.hid hsz
  clear hsz
  obtain ⟨zb, hz⟩ : ∃ zb, decide ((l.drop (2 + sizeL l)).take (60 - (2 + sizeL l)) = List.replicate (60 - (2 + sizeL l)) 0) = zb := ⟨_, rfl⟩
  rw [hz] at w4 HW
  clear hz
  have hs3 : decide (sizeL l ≤ 58) = true ∨ decide (sizeL l ≤ 58) = false := by cases decide (sizeL l ≤ 58) <;> simp
  have hs4 : decide (sizeL l ≤ 58) = true → sizeL l ≤ 58 := fun h => of_decide_eq_true h
  obtain ⟨sb, hs⟩ : ∃ sb, decide (sizeL l ≤ 58) = sb := ⟨_, rfl⟩
  rw [hs] at w3 HW hs3 hs4
  clear hs
  obtain ⟨cb, hc⟩ : ∃ cb, crcOk l = cb := ⟨_, rfl⟩
  rw [hc] at w2 HW
  clear hc
  rw [HW.out]
  have W1 := Lib.hid w1
  have W2 := Lib.hid w2
  have W3 := Lib.hid w3
  have W4 := Lib.hid w4
  clear w1 w2 w3 w4
  cases cb with
  | false =>
    go_enter Tryz.func102, Tryz.ntmps102
    go_wp2_with fail
    refine wp_loop_rounds 5 ?_
    rw [rounds_succ]
    go_wp2_with fail
    refine (W1.out _ (HP.out _)).mono ?_
    rintro e w' ⟨rfl, rfl⟩
    go_wp2
    rw [rounds_succ]
    go_wp2_with fail
    refine (W2.out _ (HP.out _) (hr.non (((Chg.refl _ _).alloc _).alloc _))).mono ?_
    rintro e w' ⟨rfl, hg⟩
    go_wp2
    go_ret
    exact ⟨rfl, (((Chg.refl _ _).alloc _).alloc _).then_non hg⟩
  | true =>
    rcases hs3 with rfl | rfl
    · have hz58 := hs4 rfl
      clear hs4
      cases zb with
      | true =>
        go_enter Tryz.func102, Tryz.ntmps102
        go_wp2_with fail
        refine wp_loop_rounds 5 ?_
        rw [rounds_succ]
        go_wp2_with fail
        refine (W1.out _ (HP.out _)).mono ?_
        rintro e w' ⟨rfl, rfl⟩
        go_wp2
        rw [rounds_succ]
        go_wp2_with fail
        refine (W2.out _ (HP.out _) (hr.non (((Chg.refl _ _).alloc _).alloc _))).mono ?_
        rintro e w' ⟨rfl, hg⟩
        have hgw := (((Chg.refl Non w).alloc (.cells #[.slice A l.length cap] 35)).alloc _).then_non hg
        have hcw := hg.cell_some (HP.out _) (fun e => e)
        clear hg
        go_wp2
        rw [rounds_succ]
        go_wp2_with fail
        refine (W3.out _ hcw (hr.non hgw)).mono ?_
        rintro e w'' ⟨rfl, rfl⟩
        go_wp2
        rw [rounds_succ]
        go_wp2_with fail
        refine (W4.out _ hcw (hr.non hgw) hz58).mono ?_
        rintro e w2 ⟨rfl, hg2⟩
        go_wp2
        rw [rounds_succ]
        go_wp2
        go_ret
        exact ⟨rfl, hgw.then_non hg2⟩
      | false =>
        go_enter Tryz.func102, Tryz.ntmps102
        go_wp2_with fail
        refine wp_loop_rounds 5 ?_
        rw [rounds_succ]
        go_wp2_with fail
        refine (W1.out _ (HP.out _)).mono ?_
        rintro e w' ⟨rfl, rfl⟩
        go_wp2
        rw [rounds_succ]
        go_wp2_with fail
        refine (W2.out _ (HP.out _) (hr.non (((Chg.refl _ _).alloc _).alloc _))).mono ?_
        rintro e w' ⟨rfl, hg⟩
        have hgw := (((Chg.refl Non w).alloc (.cells #[.slice A l.length cap] 35)).alloc _).then_non hg
        have hcw := hg.cell_some (HP.out _) (fun e => e)
        clear hg
        go_wp2
        rw [rounds_succ]
        go_wp2_with fail
        refine (W3.out _ hcw (hr.non hgw)).mono ?_
        rintro e w'' ⟨rfl, rfl⟩
        go_wp2
        rw [rounds_succ]
        go_wp2_with fail
        refine (W4.out _ hcw (hr.non hgw) hz58).mono ?_
        rintro e w2 ⟨rfl, hg2⟩
        go_wp2
        go_ret
        exact ⟨rfl, hgw.then_non hg2⟩
    · clear hs4
      go_enter Tryz.func102, Tryz.ntmps102
      go_wp2_with fail
      refine wp_loop_rounds 5 ?_
      rw [rounds_succ]
      go_wp2_with fail
      refine (W1.out _ (HP.out _)).mono ?_
      rintro e w' ⟨rfl, rfl⟩
      go_wp2
      rw [rounds_succ]
      go_wp2_with fail
      refine (W2.out _ (HP.out _) (hr.non (((Chg.refl _ _).alloc _).alloc _))).mono ?_
      rintro e w' ⟨rfl, hg⟩
      have hgw := (((Chg.refl Non w).alloc (.cells #[.slice A l.length cap] 35)).alloc _).then_non hg
      have hcw := hg.cell_some (HP.out _) (fun e => e)
      clear hg
      go_wp2
      rw [rounds_succ]
      go_wp2_with fail
      refine (W3.out _ hcw (hr.non hgw)).mono ?_
      rintro e w'' ⟨rfl, rfl⟩
      go_wp2
      go_ret
      exact ⟨rfl, hgw⟩
end Go.Proofs.YtgmpacndjmmgjaaGreat
end
section
namespace Go.Proofs.YtgmpacndjmmgjaaGreat
open Go.RowKit
set_option linter.unusedVariables false

/-- the payload of a frame of a kind -/
def openL (kind : UInt8) (s : List UInt8) : Option (List UInt8) := if wholeL s = true ∧ s.getD 0 0 = kind then some ((s.drop 2).take (sizeL s)) else none

theorem wholeL_size {s : List UInt8} (h : wholeL s = true) : sizeL s ≤ 58 := by
  unfold wholeL at h
  simp only [Bool.and_eq_true, decide_eq_true_eq] at h
  exact h.2.2.1

set_option maxRecDepth 100000 in
set_option maxHeartbeats 2000000 in
theorem Kind_any (A : Option Addr) (l : List UInt8) (cap : Nat) (w : World) (hr : Rd w A l) (h64 : 64 ≤ l.length) (hl : l.length ≤ 64) (hcap : l.length ≤ cap) (hm : cap ≤ maxLen) :
    Calls Tryz.prog 79 #[.slice A l.length cap] w fun e w' => e = .returned (.tuple #[.int .u8 (if wholeL l then ((l.getD 0 0).toNat : Int) else 0), .bool (wholeL l)]) ∧ Chg Non w w' := by
  have hw := fun W h => whole_any A l cap W h h64 hl hcap hm
  have HW := Lib.hid hw
  clear hw
  obtain ⟨b, o, rfl, hb, hc⟩ := hr.at_ (by omega)
  have h0 := hc 0 (by omega)
  have hs : (l[0]'(by omega)).toNat = (l.getD 0 0).toNat := by simp [List.getD, List.getElem?_eq_getElem (show 0 < l.length by omega)]
  rw [hs, Nat.add_zero] at h0
  obtain ⟨x, hx⟩ : ∃ x, (l.getD 0 0) = x := ⟨_, rfl⟩
  rw [hx] at h0 ⊢
  clear hc hs hx
  obtain ⟨z, hz⟩ : ∃ z, wholeL l = z := ⟨_, rfl⟩
  rw [hz] at HW ⊢
  clear hz
  cases z with
  | false =>
    go_enter Tryz.func79, Tryz.ntmps79
    go_wp2_with fail
    refine (HW.out w hr).mono ?_
    rintro e w1 ⟨rfl, hg⟩
    go_wp2
    go_ret2
    exact ⟨rfl, hg⟩
  | true =>
    go_enter Tryz.func79, Tryz.ntmps79
    go_wp2_with fail
    refine (HW.out w hr).mono ?_
    rintro e w1 ⟨rfl, hg⟩
    have h1 := hg.cell_some h0 (fun e => e)
    go_wp2
    go_ret2
    exact ⟨rfl, hg⟩

set_option maxRecDepth 100000 in
set_option maxHeartbeats 2000000 in
theorem Open_some (kind : UInt8) (A : Option Addr) (l m : List UInt8) (cap : Nat) (w : World) (hr : Rd w A l) (h64 : 64 ≤ l.length) (hl : l.length ≤ 64) (hcap : l.length ≤ cap) (hm : cap ≤ maxLen) (ho : openL kind l = some m) :
    Calls Tryz.prog 52 #[.int .u8 (kind.toNat : Int), .slice A l.length cap] w (RetB2 w m (.int .i64 0)) := by
  have hk := fun W h => Kind_any A l cap W h h64 hl hcap hm
  unfold openL at ho
  by_cases hq : wholeL l = true ∧ l.getD 0 0 = kind
  · rw [if_pos hq] at ho
    obtain ⟨hq1, hq2⟩ := hq
    injection ho with ho
    have h58 := wholeL_size hq1
    simp only [hq1, if_true, hq2] at hk
    have HK := Lib.hid hk
    have hsz := fun W h => size_any A l cap W h (by omega) hl
    have hml : m.length = sizeL l := by rw [← ho, List.length_take, List.length_drop]; omega
    obtain ⟨z, hz⟩ : ∃ z, sizeL l = z := ⟨_, rfl⟩
    rw [hz] at hsz h58 ho hml
    have HZ := Lib.hid hsz
    clear hk hsz hz hq1 hq2
    subst hml
    have HO := Lib.hid ho
    clear ho
    obtain ⟨b, o, rfl, hb, hc⟩ := hr.at_ (by omega)
    clear hc
    unfold maxLen at hm
    have hr2 : Rd w (some ⟨b, o + 2, none⟩) m := by
      have := (hr.drop 2).take m.length
      rw [HO.out] at this
      exact this
    have h58' : (m.length : Int) ≤ 58 := by omega
    have hkk := kind.toNat_lt
    have hkx : (((kind.toNat : Int)) != (kind.toNat : Int)) = false := by simp
    go_enter Tryz.func52, Tryz.ntmps52
    go_wp2_with fail
    refine (HK.out w hr).mono ?_
    rintro e w1 ⟨rfl, hg⟩
    go_wp2_with fail
    refine (HZ.out w1 (hr.non hg)).mono ?_
    rintro e w2 ⟨rfl, rfl⟩
    go_wp2_with fail
    refine (Cat1 (some ⟨b, o + 2, none⟩) m (cap - 2) _ w1 _ rfl (hr2.non hg) (by omega)).mono ?_
    rintro e w3 ⟨A3, c3, rfl, hc3, hm3, ho3, hg3⟩
    go_wp2
    go_ret2
    exact ⟨A3, c3, rfl, hc3, hm3, ho3.mono hg.size, hg.then_non hg3⟩
  · rw [if_neg hq] at ho
    cases ho

set_option maxRecDepth 100000 in
set_option maxHeartbeats 2000000 in
theorem Open_none (kind : UInt8) (A : Option Addr) (l : List UInt8) (cap : Nat) (w : World) (hr : Rd w A l) (h64 : 64 ≤ l.length) (hl : l.length ≤ 64) (hcap : l.length ≤ cap) (hm : cap ≤ maxLen) (ho : openL kind l = none) :
    Calls Tryz.prog 52 #[.int .u8 (kind.toNat : Int), .slice A l.length cap] w fun e w' => e = .returned (.tuple #[.slice none 0 0, .int .i64 70]) ∧ Chg Non w w' := by
  have hk := fun W h => Kind_any A l cap W h h64 hl hcap hm
  unfold openL at ho
  cases hz : wholeL l with
  | false =>
    rw [hz] at hk
    have HK := Lib.hid hk
    clear hk hz ho
    go_enter Tryz.func52, Tryz.ntmps52
    go_wp2_with fail
    refine (HK.out w hr).mono ?_
    rintro e w1 ⟨rfl, hg⟩
    go_wp2
    go_ret2
    exact ⟨rfl, hg⟩
  | true =>
    rw [hz] at hk ho
    have hne : l.getD 0 0 ≠ kind := by
      intro h
      simp only [h, and_self, if_true] at ho
      cases ho
    obtain ⟨x, hx⟩ : ∃ x, l.getD 0 0 = x := ⟨_, rfl⟩
    rw [hx] at hk hne
    have hd : ((x.toNat : Int) != (kind.toNat : Int)) = true := by
      rw [bne_iff_ne]
      intro h
      exact hne (UInt8.toNat_inj.1 (by omega))
    simp only [if_true] at hk
    have HK := Lib.hid hk
    clear hk hz ho hx hne
    go_enter Tryz.func52, Tryz.ntmps52
    go_wp2_with fail
    refine (HK.out w hr).mono ?_
    rintro e w1 ⟨rfl, hg⟩
    go_wp2
    go_ret2
    exact ⟨rfl, hg⟩
end Go.Proofs.YtgmpacndjmmgjaaGreat
end
section
namespace Go.Proofs.YtgmpacndjmmgjaaGreat
open Go.RowKit
set_option linter.unusedVariables false

theorem flat_at {sec : List (List UInt8)} (h : ∀ s ∈ sec, s.length = 64) (i : Nat) (hi : i < sec.length) (j : Nat) (hj : j < 64) : sec.flatten[i * 64 + j]? = (sec[i]'hi)[j]? := by
  induction sec generalizing i with
  | nil => simp at hi
  | cons s r ih =>
    have hs := h s (List.mem_cons_self)
    rw [List.flatten_cons]
    cases i with
    | zero => rw [List.getElem?_append_left (by omega)]; simp
    | succ i =>
      rw [List.getElem?_append_right (by omega), hs]
      have := ih (fun t ht => h t (List.mem_cons_of_mem _ ht)) i (by simpa using hi)
      rw [show (i + 1) * 64 + j - 64 = i * 64 + j from by omega, this]
      simp

theorem flat_len {sec : List (List UInt8)} (h : ∀ s ∈ sec, s.length = 64) : sec.flatten.length = sec.length * 64 := by
  induction sec with
  | nil => rfl
  | cons s r ih => rw [List.flatten_cons, List.length_append, h s List.mem_cons_self, ih (fun t ht => h t (List.mem_cons_of_mem _ ht)), List.length_cons]; omega

theorem sec_range {w : World} {ps : Nat} {t : TypeId} {sec : List (List UInt8)} (hb : w.heap[ps]? = some (.cells (sec.flatten.map bv).toArray t (0, 0))) (h : ∀ s ∈ sec, s.length = 64) (i : Nat) (hi : i < sec.length) :
    w.rangeAt ps (i * 64) ((sec[i]'hi).map bv) := by
  intro j v hv
  rw [List.getElem?_map] at hv
  obtain ⟨x, hx, rfl⟩ := Option.map_eq_some_iff.1 hv
  have hl := h _ (List.getElem_mem hi)
  have hj : j < 64 := by rw [← hl]; exact (List.getElem?_eq_some_iff.1 hx).1
  rw [cell_of_row _ _ _ _ _ _ hb]
  simp only [List.getElem?_toArray, List.getElem?_map, flat_at h i hi j hj, hx]
  rfl

theorem secV_size (l : List UInt8) (h : l.length = 64) : (l.map bv).toArray.size = 64 := by simp [h]
theorem secV_one (l : List UInt8) : ((l.map bv).toArray).all (·.oneCell') = true := all_oneCell_toArray (bv_one l)
theorem zSec_one : zSec.all (·.oneCell') = true := by
  have : zSec = ((List.replicate 64 (0 : UInt8)).map bv).toArray := rfl
  rw [this]; exact secV_one _
theorem info_sec : (Tryz.prog.info? 75).map (·.size) = some 64 := by kernel_rfl

/-- which operation: a cheap look ahead of a dear law -/
theorem sel {P : Program} {ops : Array Oper} {rest : List Oper} {a : Act} {w : World} {Q : Exit → Act → World → Prop} (d : Option Tmp) (op : Op) {ty : TypeId} {pos : String} {af : Array Edge} {g : Option (Nat × Bool)}
    (h : wpList P ops Q (⟨d, op, ty, pos, af, g⟩ :: rest) a w) : wpList P ops Q (⟨d, op, ty, pos, af, g⟩ :: rest) a w := h

/-- a whole row stored: the world behind it is a letter -/
theorem wpList_store_rowA {P : Program} {w : World} {ops : Array Oper} {rest : List Oper} {o : Oper} {a : Act} {Q : Exit → Act → World → Prop} (hgd : o.guard = none) (ty : TypeId) (x y : Operand) (ho : o.op = .store ty x y)
    (g : Nat) (cells : Array Value) (hx : a.eval x = .pointer (some ⟨g, 0, none⟩)) (hy : a.eval y = .agg cells)
    (t : TypeId) (old : Array Value) (hg : w.heap[g]? = some (.cells old t (0, 0))) (hi : (P.info? ty).map (·.size) = some cells.size)
    (hold : old.size = cells.size) (h1 : cells.all (·.oneCell') = true)
    (h : ∀ W, Chg (fun k => k = g) w W → W.heap[g]? = some (.cells cells t (0, 0)) → wpList P ops Q rest (a.put o.dst undef) W) : wpList P ops Q (o :: rest) a w :=
  wpList_store_row hgd ty x y ho g cells hx hy t old hg hi hold h1 (h _ ((Chg.refl (fun k => k = g) _).setRow (.inl rfl) _) (setRow_heap _ _ _ _ _ _ hg))

/-- a sector's cells, behind a name -/
def secA (l : List UInt8) : Array Value := (l.map bv).toArray
theorem secA_size (l : List UInt8) (h : l.length = 64) : (secA l).size = 64 := secV_size l h
theorem secA_one (l : List UInt8) : (secA l).all (·.oneCell') = true := secV_one l
theorem wpList_load_sec {w : World} {ops : Array Oper} {rest : List Oper} {op : Oper} {a : Act} {Q : Exit → Act → World → Prop} (hgd : op.guard = none) (x : Operand) (ho : op.op = .load 75 x)
    (b o : Nat) (hx : a.eval x = .pointer (some ⟨b, o, none⟩)) (l : List UInt8) (hc : w.rangeAt b o (l.map bv)) (hl : l.length = 64)
    (h : wpList Tryz.prog ops Q rest (a.put op.dst (.agg (secA l))) w) : wpList Tryz.prog ops Q (op :: rest) a w :=
  wpList_load_mid hgd 75 x ho b o hx (l.map bv) _ hc Tryz.underlying75 rfl (by rw [List.length_map, hl]; exact info_sec) h

theorem own_of_block {W : World} {B g : Nat} {t : TypeId} {l : List UInt8} (h : W.heap[g]? = some (.cells (l.map bv).toArray t (0, 0))) (hB : B ≤ g) : Own B W (some ⟨g, 0, none⟩) l := by
  intro i x hx
  refine ⟨g, 0, rfl, hB, ?_, frozen_of_row _ _ _ _ _ h⟩
  rw [cell_of_row _ _ _ _ _ _ h, Nat.zero_add]
  simp [hx, bv]

set_option maxRecDepth 100000 in
set_option maxHeartbeats 2000000 in
theorem Read_any (pd ps pm : Nat) (D : Dk) (i : Nat) (w : World) (h : IsD w pd ps pm D) (hup : D.up = true) (hi : i < D.sec.length) :
    Calls Tryz.prog 13 #[.pointer (some ⟨pd, 0, none⟩), .int .i64 (i : Int)] w (RetB2 w (D.at_ i) (.int .i64 0)) := by
  obtain ⟨A, c, _, h1, h2, _⟩ := h.cells
  have hok := h.1
  have hrd := ready_ok pd ps pm D w h
  have hr1 : D.ready = 0 := by unfold Dk.ready; rw [hup]; rfl
  rw [hr1] at hrd
  have hhas := has_ok pd ps pm D i w h
  rw [decide_eq_true (show (0 : Int) ≤ i ∧ (i : Int) < D.sec.length from ⟨by omega, by omega⟩)] at hhas
  have HR := Lib.hid hrd
  have HH := Lib.hid hhas
  clear hrd hhas hr1
  have hlen : D.sec.length ≤ 1024 := hok.most
  have hlk := run_lookup h.2.choose_spec.choose_spec.2.2.1 (fun p hp => by have := (hok.keys p hp).1; omega) i (by omega) w rfl true
  have hrg := sec_range h.2.choose_spec.choose_spec.2.1 hok.secs i hi
  have hsl := hok.secs _ (List.getElem_mem hi)
  unfold Dk.at_
  have hcl : ∀ l, look D.cache i = some l → l.length = 64 := by
    intro l hl
    unfold look at hl
    obtain ⟨p, hp, rfl⟩ := Option.map_eq_some_iff.1 hl
    exact (hok.keys p (List.mem_of_find?_eq_some hp)).2
  cases hl : look D.cache i with
  | some l =>
    rw [hl] at hlk
    have hl64 := hcl l hl
    have HL := Lib.hid hl64
    clear hcl hl64 hl
    have HG := Lib.hid hrg
    have HS := Lib.hid hsl
    clear hrg hsl
    simp only [Option.isSome_some, if_true, Option.getD_some] at hlk ⊢
    go_enter Tryz.func13, Tryz.ntmps13
    go_wp2_with fail
    refine HR.out.mono ?_
    rintro e w' ⟨rfl, rfl⟩
    go_wp2_with fail
    refine HH.out.mono ?_
    rintro e w' ⟨rfl, rfl⟩
    go_wp2_with (refine sel none (.store 75 (.tmp 7) (.tmp 25)) ?_; refine wpList_store_row rfl 75 (.tmp 7) (.tmp 25) rfl w.heap.size (l.map bv).toArray rfl rfl 75 _ (heap_alloc_new _ _) (by rw [secV_size l HL.out]; exact info_sec) (by rw [secV_size l HL.out]; rfl) (secV_one l) ?_)
    have hb := setRow_heap (w.alloc (.cells zSec 75)) w.heap.size _ (l.map bv).toArray _ _ (heap_alloc_new _ _)
    have hg : Chg Non w ((w.alloc (.cells zSec 75)).setRow w.heap.size (l.map bv).toArray) := ((Chg.refl _ _).alloc _).setRow (.inr (Nat.le_refl _)) _
    go_ret2
    exact ⟨some ⟨w.heap.size, 0, none⟩, 64, by rw [HL.out]; rfl, by rw [HL.out]; omega, by unfold maxLen; omega, own_of_block hb (Nat.le_refl _), hg⟩
  | none =>
    rw [hl] at hlk
    clear hcl hl
    have HG := Lib.hid hrg
    have HS := Lib.hid hsl
    clear hrg hsl
    have hgd : D.sec.getD i [] = D.sec[i]'hi := by simp [List.getD, List.getElem?_eq_getElem hi]
    simp only [Option.isSome_none, if_true, Option.getD_none, hgd] at hlk ⊢
    clear hgd
    obtain ⟨s, hs⟩ : ∃ s, D.sec[i]'hi = s := ⟨_, rfl⟩
    rw [hs] at HG HS ⊢
    clear hs
    go_enter Tryz.func13, Tryz.ntmps13
    go_wp2_with fail
    refine HR.out.mono ?_
    rintro e w' ⟨rfl, rfl⟩
    go_wp2_with fail
    refine HH.out.mono ?_
    rintro e w' ⟨rfl, rfl⟩
    have hlt := h.lt
    go_wp2_with (first
      | (refine sel none (.store 75 (.tmp 7) (.tmp 25)) ?_
         refine wpList_store_rowA rfl 75 (.tmp 7) (.tmp 25) rfl w.heap.size zSec rfl rfl 75 _ (heap_alloc_new _ _) info_sec rfl zSec_one ?_
         intro W hgW hbW
         have hg1 : Chg Non w W := ((Chg.refl Non w).alloc _).then_new hgW (fun x e => by rw [e]; exact Nat.le_refl _)
         have HBW := Lib.hid hbW
         have HGW := Lib.hid (show W.rangeAt ps (i * 64) (s.map bv) from fun j v hv => hg1.cell_some (HG.out j v hv) (fun e => e))
         have k1 : W.cell? ⟨pd, 1, none⟩ = some (.slice (some ⟨ps, 0, none⟩) D.sec.length D.sec.length) := hg1.cell_some h1 (fun e => e)
         clear hbW hgW)
      | (refine sel (some 35) (.load 75 (.tmp 34)) ?_
         refine wpList_load_sec rfl (.tmp 34) rfl ps (i * 64) rfl s HGW.out HS.out ?_)
      | (refine sel none (.store 75 (.tmp 7) (.tmp 35)) ?_
         refine wpList_store_rowA rfl 75 (.tmp 7) (.tmp 35) rfl w.heap.size (secA s) rfl rfl 75 zSec HBW.out (by rw [secA_size _ HS.out]; exact info_sec) (by rw [secA_size _ HS.out]; rfl) (secA_one _) ?_
         intro W2 hgW2 hbW2
         have hg2 : Chg Non w W2 := hg1.then_new hgW2 (fun x e => by rw [e]; exact Nat.le_refl _)
         have HB2 := Lib.hid hbW2
         clear hbW2 hgW2))
    go_ret2
    exact ⟨some ⟨w.heap.size, 0, none⟩, 64, by rw [HS.out]; rfl, by rw [HS.out]; omega, by unfold maxLen; omega, own_of_block HB2.out (Nat.le_refl _), hg2⟩

set_option maxRecDepth 100000 in
set_option maxHeartbeats 2000000 in
theorem Read_down (pd ps pm : Nat) (D : Dk) (i : Int) (w : World) (h : IsD w pd ps pm D) (hup : D.up = false) :
    Calls Tryz.prog 13 #[.pointer (some ⟨pd, 0, none⟩), .int .i64 i] w fun e w' => e = .returned (.tuple #[.slice none 0 0, .int .i64 60]) ∧ w = w' := by
  have hrd := ready_ok pd ps pm D w h
  have hr1 : D.ready = 60 := by unfold Dk.ready; rw [hup]; rfl
  rw [hr1] at hrd
  have HR := Lib.hid hrd
  clear hrd hr1
  go_enter Tryz.func13, Tryz.ntmps13
  go_wp2_with fail
  refine HR.out.mono ?_
  rintro e w' ⟨rfl, rfl⟩
  go_wp2
  go_ret2
  exact ⟨rfl, rfl⟩

set_option maxRecDepth 100000 in
set_option maxHeartbeats 2000000 in
theorem Read_no_sector (pd ps pm : Nat) (D : Dk) (i : Int) (w : World) (h : IsD w pd ps pm D) (hup : D.up = true) (hi : ¬ (0 ≤ i ∧ i < D.sec.length)) :
    Calls Tryz.prog 13 #[.pointer (some ⟨pd, 0, none⟩), .int .i64 i] w fun e w' => e = .returned (.tuple #[.slice none 0 0, .int .i64 61]) ∧ w = w' := by
  have hrd := ready_ok pd ps pm D w h
  have hr1 : D.ready = 0 := by unfold Dk.ready; rw [hup]; rfl
  rw [hr1] at hrd
  have hh := has_ok pd ps pm D i w h
  rw [decide_eq_false hi] at hh
  have HR := Lib.hid hrd
  have HH := Lib.hid hh
  clear hrd hr1 hh hi
  go_enter Tryz.func13, Tryz.ntmps13
  go_wp2_with fail
  refine HR.out.mono ?_
  rintro e w' ⟨rfl, rfl⟩
  go_wp2_with fail
  refine HH.out.mono ?_
  rintro e w' ⟨rfl, rfl⟩
  go_wp2
  go_ret2
  exact ⟨rfl, rfl⟩

theorem info_sec3 : (Tryz.prog.info? 75).map (fun i => (i.zero, i.size, i.bytes)) = some (some (.agg zSec), 64, 64) := by kernel_rfl

theorem madeSec (n : Nat) : madeCells zSec (n * 64) = ((List.replicate n (List.replicate 64 (0 : UInt8))).flatten.map bv).toArray := by
  apply Array.ext_getElem?
  intro i
  by_cases hi : i < n * 64
  · have hz : ∀ k, k < 64 → zSec[k]? = some (.int .u8 0) := by intro k hk; simp [zSec, hk]
    have h1 : (madeCells zSec (n * 64))[i]? = some (.int .u8 0) := by
      simp only [madeCells, Array.getElem?_map]
      rw [Array.getElem?_range, if_pos hi, Option.map_some, getElem!_def]
      have := hz (i % 64) (Nat.mod_lt _ (by omega))
      have hs : zSec.size = 64 := rfl
      rw [hs, this]
    have h2 : (List.replicate n (List.replicate 64 (0 : UInt8))).flatten[i]? = some 0 := by
      rw [List.flatten_replicate_replicate]
      simp [hi]
    rw [h1, List.getElem?_toArray, List.getElem?_map, h2]
    rfl
  · have h1 : (madeCells zSec (n * 64))[i]? = none := Array.getElem?_eq_none (by rw [size_madeCells]; omega)
    have h2 : ((List.replicate n (List.replicate 64 (0 : UInt8))).flatten.map bv).toArray[i]? = none := Array.getElem?_eq_none (by
      rw [List.flatten_replicate_replicate]; simp; omega)
    rw [h1, h2]

theorem new_ok (n : Nat) (h1 : n ≤ 1024) : (Dk.new n).Ok :=
  ⟨fun s hs => by rw [(List.mem_replicate.1 hs).2, List.length_replicate], fun p hp => (by cases hp), List.nodup_nil, (by simpa [Dk.new] using h1), Int.le_refl _⟩

set_option maxRecDepth 100000 in
set_option maxHeartbeats 2000000 in
theorem New_ok (n : Nat) (w : World) (h1 : 1 ≤ n) (h2 : n ≤ 1024) :
    Calls Tryz.prog 5 #[.int .i64 (n : Int)] w fun e w' => ∃ pd ps pm, e = .returned (.tuple #[.pointer (some ⟨pd, 0, none⟩), .int .i64 0]) ∧ IsD w' pd ps pm (Dk.new n) ∧ w.heap.size ≤ pd ∧ w.heap.size ≤ ps ∧ w.heap.size ≤ pm ∧ Chg Non w w' := by
  obtain ⟨i0, hi0, hz0, hs0, hb0⟩ := info_parts info_sec3
  have hmk : ∀ W : World, (Instr.makeSlice 56 (.int .i64 (n : Int)) (.int .i64 (n : Int))).run Tryz.prog W = .ok (.slice (some ⟨W.heap.size, 0, none⟩) n n) (W.alloc (.cells (((Dk.new n).sec.flatten.map bv).toArray) 75)) := fun W => by
    have h := run_make (P := Tryz.prog) W 56 75 i0 (.agg zSec) Tryz.underlying56 hi0 hz0 .i64 .i64 n n (by omega) (Int.le_refl _) (by rw [hb0]; omega) (by omega)
    rw [h, hs0]
    show Result.ok _ (W.alloc (.cells (madeCells zSec (n * 64)) _)) = _
    rw [madeSec]
    rfl
  have hmm := @run_makeMap Tryz.prog
  obtain ⟨X, hX⟩ : ∃ X, ((Dk.new n).sec.flatten.map bv).toArray = X := ⟨_, rfl⟩
  rw [hX] at hmk
  have HX := Lib.hid hX
  clear hX hi0 hz0 hs0 hb0
  go_enter Tryz.func5, Tryz.ntmps5
  go_wp2
  go_ret2
  have a1 := fun o o' o'' => heap_alloc2_new ((w.alloc o)) o' o''
  have e1 : ∀ o : Obj, (w.alloc o).heap.size = w.heap.size + 1 := fun o => by simp
  have e2 : ∀ o o' : Obj, ((w.alloc o).alloc o').heap.size = w.heap.size + 1 + 1 := fun o o' => by simp
  have b3 : ∀ o o' o'' : Obj, (((w.alloc o).alloc o').alloc o'').heap[w.heap.size + 1 + 1]? = some o'' := fun o o' o'' => by
    have := heap_alloc_new ((w.alloc o).alloc o') o''
    rw [e2] at this
    exact this
  have b2 : ∀ o o' o'' : Obj, (((w.alloc o).alloc o').alloc o'').heap[w.heap.size + 1]? = some o' := fun o o' o'' => by
    rw [Below.heap_alloc ((w.alloc o).alloc o') o'' _ (by rw [e2]; omega)]
    exact heap_alloc2_new w o o'
  have b1 : ∀ o o' o'' : Obj, (((w.alloc o).alloc o').alloc o'').heap[w.heap.size]? = some o := fun o o' o'' => by
    rw [Below.heap_alloc ((w.alloc o).alloc o') o'' _ (by rw [e2]; omega)]
    exact heap_alloc2_old w o o'
  refine ⟨w.heap.size + 1 + 1, w.heap.size, w.heap.size + 1, rfl, ⟨new_ok n h2, none, 0, ?_, ?_, ⟨#[], 0, b2 _ _ _, ⟨by simp, by simp, by simp⟩, rfl⟩, Rd.nil _ _, (fun b o e => by cases e), Nat.le_refl _, by simp⟩, by omega, Nat.le_refl _, by omega, (((Chg.refl _ _).alloc _).alloc _).alloc _⟩
  · rw [b3]
    simp only [dCells, Dk.new, List.length_replicate]
    rfl
  · rw [b1, HX.out]
end Go.Proofs.YtgmpacndjmmgjaaGreat
end
section
namespace Go.Proofs.YtgmpacndjmmgjaaGreat
open Go.RowKit
set_option linter.unusedVariables false

section
variable {P : Program} {md : Region.Mode} {ops : Array Oper} {Q : Exit → Act → World → Prop} {fuel : Nat} {listed : Array Bool} {a : Act} {w : World} {K : Act → World → Prop} {i : Nat}

theorem g_one (i : Nat) (hr : Region.ready md ops listed = [i]) (h : wpOp P ops Q i (wpAny P md ops Q fuel (listed.setIfInBounds i true)) a w) : wpAny P md ops Q (fuel + 1) listed a w := by
  refine ⟨fun h0 => ?_, fun j hj => ?_⟩
  · rw [hr] at h0; cases h0
  · rw [hr, List.mem_singleton] at hj
    subst hj
    exact h

theorem g_two (i j : Nat) (hr : Region.ready md ops listed = [i, j]) (h : wpOp P ops Q i (wpAny P md ops Q fuel (listed.setIfInBounds i true)) a w) (h' : wpOp P ops Q j (wpAny P md ops Q fuel (listed.setIfInBounds j true)) a w) : wpAny P md ops Q (fuel + 1) listed a w := by
  refine ⟨fun h0 => ?_, fun k hk => ?_⟩
  · rw [hr] at h0; cases h0
  · rw [hr, List.mem_cons, List.mem_singleton] at hk
    rcases hk with rfl | rfl
    · exact h
    · exact h'

theorem g_three (i j l : Nat) (hr : Region.ready md ops listed = [i, j, l]) (h : wpOp P ops Q i (wpAny P md ops Q fuel (listed.setIfInBounds i true)) a w) (h' : wpOp P ops Q j (wpAny P md ops Q fuel (listed.setIfInBounds j true)) a w)
    (h'' : wpOp P ops Q l (wpAny P md ops Q fuel (listed.setIfInBounds l true)) a w) : wpAny P md ops Q (fuel + 1) listed a w := by
  refine ⟨fun h0 => ?_, fun k hk => ?_⟩
  · rw [hr] at h0; cases h0
  · rw [hr, List.mem_cons, List.mem_cons, List.mem_singleton] at hk
    rcases hk with rfl | rfl | rfl
    · exact h
    · exact h'
    · exact h''

theorem g_pure (d : Option Tmp) (v : Value) {oi : Oper} (hi : ops[i]? = some oi) (hdst : oi.dst = d) (hw : Region.wanted oi (yielded ops a.tmps) = true) (he : (execOp a.eval oi).run P w = .ok (.value v) w) (h : K (a.put d v) w) : wpOp P ops Q i K a w := by
  subst hdst
  unfold wpOp
  simp only [hi, hw, if_true, Oper.wp, he, Oper.upon]
  exact .inl h

theorem g_skip (d : Option Tmp) {oi : Oper} (hi : ops[i]? = some oi) (hdst : oi.dst = d) (hw : Region.wanted oi (yielded ops a.tmps) = false) (h : K (a.put d undef) w) : wpOp P ops Q i K a w := by
  subst hdst
  unfold wpOp
  simp only [hi, hw, Bool.false_eq_true, if_false]
  exact h

theorem g_any {oi : Oper} (hi : ops[i]? = some oi) (hw : Region.wanted oi (yielded ops a.tmps) = true) (h : ∀ K' : Act → World → Prop, (∀ a w, K a w → K' a w) → Oper.wp P oi a w K' Q) : wpOp P ops Q i K a w :=
  wpOp_step hi (fun K' hK => by rw [if_pos hw]; exact h K' hK)

theorem g_load (d : Option Tmp) (ty : TypeId) (x : Operand) (b o : Nat) (C : Array Value) (td : TypeDesc) {oi : Oper} (hi : ops[i]? = some oi) (hdst : oi.dst = d) (ho : oi.op = .load ty x) (hw : Region.wanted oi (yielded ops a.tmps) = true)
    (hx : a.eval x = .pointer (some ⟨b, o, none⟩)) (hR : w.rangeAt b o C.toList) (hu : P.underlying ty = some td) (hd : td.isRow = true) (hz : (P.info? ty).map (·.size) = some C.size) (h : K (a.put d (.agg C)) w) : wpOp P ops Q i K a w := by
  subst hdst
  exact g_any hi hw (fun K' hK => wp_load_mid ty x ho b o hx C.toList td hR hu hd (by rw [hz, Array.length_toList]) (hK _ _ h))

theorem g_store (ty : TypeId) (x y : Operand) (g : Nat) (C : Array Value) {oi : Oper} (hi : ops[i]? = some oi) (hdst : oi.dst = none) (ho : oi.op = .store ty x y) (hw : Region.wanted oi (yielded ops a.tmps) = true)
    (hx : a.eval x = .pointer (some ⟨g, 0, none⟩)) (hy : a.eval y = .agg C) (t : TypeId) (hold : ∃ old : Array Value, w.heap[g]? = some (.cells old t (0, 0)) ∧ old.size = C.size) (hz : (P.info? ty).map (·.size) = some C.size)
    (h1 : C.all (·.oneCell') = true) (h : ∀ W, Chg (fun k => k = g) w W → W.heap[g]? = some (.cells C t (0, 0)) → K a W) : wpOp P ops Q i K a w := by
  obtain ⟨old, hg, hold⟩ := hold
  have hput : a.put oi.dst undef = a := by rw [hdst]; rfl
  exact g_any hi hw (fun K' hK => wp_store_row ty x y ho g C hx hy t old hg hz hold h1 (by
    rw [hput]
    exact hK _ _ (h _ ((Chg.refl (fun k => k = g) _).setRow (.inl rfl) _) (setRow_heap w g old C t (0, 0) hg))))

/-- the ways through a region meet again: one frame, and what is known of the world -/
theorem wp_cutA {id : Nat} {b : Bool} (a' : Act) (R : World → Prop) (h : (Code.region id ops b).wp P (fun e x v => e = .normal ∧ x = a' ∧ R v) a w) (hk : ∀ v, R v → Q .normal a' v) : (Code.region id ops b).wp P Q a w :=
  Code.wp_mono (fun e x v ⟨he, hx, hr⟩ => by subst he; subst hx; exact hk v hr) h

theorem wp_cutB {id : Nat} {b : Bool} {α : Type} (f : α → Act → Act) (R : α → World → Prop) (h : (Code.region id ops b).wp P (fun e x v => e = .normal ∧ ∃ y, x = f y a ∧ R y v) a w) (hk : ∀ y v, R y v → Q .normal (f y a) v) : (Code.region id ops b).wp P Q a w :=
  Code.wp_mono (fun e x v ⟨he, y, hx, hr⟩ => by subst he; subst hx; exact hk y v hr) h

theorem g_step (d : Option Tmp) (v : Value) (w' : World) {oi : Oper} (hi : ops[i]? = some oi) (hdst : oi.dst = d) (hw : Region.wanted oi (yielded ops a.tmps) = true) (he : (execOp a.eval oi).run P w = .ok (.value v) w') (h : K (a.put d v) w') : wpOp P ops Q i K a w := by
  subst hdst
  unfold wpOp
  simp only [hi, hw, if_true, Oper.wp, he, Oper.upon]
  exact .inl h

theorem g_four (i j l m : Nat) (hr : Region.ready md ops listed = [i, j, l, m]) (h : wpOp P ops Q i (wpAny P md ops Q fuel (listed.setIfInBounds i true)) a w) (h' : wpOp P ops Q j (wpAny P md ops Q fuel (listed.setIfInBounds j true)) a w)
    (h'' : wpOp P ops Q l (wpAny P md ops Q fuel (listed.setIfInBounds l true)) a w) (h4 : wpOp P ops Q m (wpAny P md ops Q fuel (listed.setIfInBounds m true)) a w) : wpAny P md ops Q (fuel + 1) listed a w := by
  refine ⟨fun h0 => ?_, fun k hk => ?_⟩
  · rw [hr] at h0; cases h0
  · rw [hr, List.mem_cons, List.mem_cons, List.mem_cons, List.mem_singleton] at hk
    rcases hk with rfl | rfl | rfl | rfl
    · exact h
    · exact h'
    · exact h''
    · exact h4

theorem wpList_wanted {rest : List Oper} {o : Oper} (hw : Region.wanted o (yielded ops a.tmps) = true) (h : ∀ K : Act → World → Prop, (∀ a w, wpList P ops Q rest a w → K a w) → o.wp P a w K Q) : wpList P ops Q (o :: rest) a w :=
  wpList_step fun K hK => by rw [if_pos hw]; exact h K hK
/-- an operation of a plain region that is wanted and computes -/
theorem wpList_pureW {rest : List Oper} {o : Oper} (d : Option Tmp) (v : Value) (hdst : o.dst = d) (hw : Region.wanted o (yielded ops a.tmps) = true) (he : (execOp a.eval o).run P w = .ok (.value v) w) (h : wpList P ops Q rest (a.put d v) w) : wpList P ops Q (o :: rest) a w := by
  subst hdst
  refine wpList_wanted hw fun K hK => ?_
  simp only [Oper.wp, he, Oper.upon]
  exact hK _ _ h
/-- a load of a whole row, wanted -/
theorem wpList_loadW {rest : List Oper} {o : Oper} (d : Option Tmp) (ty : TypeId) (x : Operand) (b off : Nat) (C : Array Value) (td : TypeDesc) (hdst : o.dst = d) (ho : o.op = .load ty x) (hw : Region.wanted o (yielded ops a.tmps) = true)
    (hx : a.eval x = .pointer (some ⟨b, off, none⟩)) (hR : w.rangeAt b off C.toList) (hu : P.underlying ty = some td) (hd : td.isRow = true) (hz : (P.info? ty).map (·.size) = some C.size) (h : wpList P ops Q rest (a.put d (.agg C)) w) : wpList P ops Q (o :: rest) a w := by
  subst hdst
  exact wpList_wanted hw fun K hK => wp_load_mid ty x ho b off hx C.toList td hR hu hd (by rw [hz, Array.length_toList]) (hK _ _ h)

/-- an operation of a plain region that computes -/
theorem wpList_pure {rest : List Oper} {o : Oper} (hgd : o.guard = none) (d : Option Tmp) (v : Value) (hdst : o.dst = d) (he : (execOp a.eval o).run P w = .ok (.value v) w) (h : wpList P ops Q rest (a.put d v) w) : wpList P ops Q (o :: rest) a w := by
  subst hdst
  refine wpList_plain hgd fun K hK => ?_
  simp only [Oper.wp, he, Oper.upon]
  exact hK _ _ h
end
end Go.Proofs.YtgmpacndjmmgjaaGreat
end
section
namespace Go.Proofs.YtgmpacndjmmgjaaGreat
open Go.RowKit
set_option linter.unusedVariables false

/-- a walk stops here -/
structure Hole1 (p : Prop) : Prop where
  out : p
/-- a row of bytes of its own (since B), or none yet -/
def OwnB (B : Nat) (w : World) (v : Value) (l : List UInt8) : Prop := w.ownsRow B 5 1 v l.length (l.map bv)
theorem OwnB.nil (B : Nat) (w : World) : OwnB B w (.slice none 0 0) [] := World.ownsRow_nil _ _ _ _
theorem OwnB.non {B : Nat} {w w' : World} {v : Value} {l : List UInt8} (h : OwnB B w v l) (hg : Chg Non w w') : OwnB B w' v l := own_chg h hg
theorem OwnB.slice {B : Nat} {w : World} {v : Value} {l : List UInt8} (h : OwnB B w v l) : ∃ A c, v = .slice A l.length c ∧ l.length ≤ c ∧ c ≤ maxLen ∧ Own B w A l := by
  rcases h.2 with ⟨rfl, h0⟩ | ⟨g, cap, cur, rfl, hB, hg, h1, h2, h3, h4⟩
  · have : l = [] := List.eq_nil_of_length_eq_zero h0
    subst this
    exact ⟨none, 0, rfl, Nat.le_refl _, by simp, Own.nil _ _ _⟩
  · refine ⟨_, cap, rfl, h1, h2, fun i x hx => ⟨g, 0, rfl, hB, ?_, frozen_of_row _ _ _ _ _ hg⟩⟩
    have := h.cells (g := g) rfl i (bv x) (by rw [List.getElem?_map, hx]; rfl)
    rw [add_plain] at this
    exact this
theorem OwnB.ret {w w' : World} {v : Value} {l : List UInt8} (h : OwnB w.heap.size w' v l) (hg : Chg Non w w') : RetB w l (.returned v) w' := by
  obtain ⟨A, c, rfl, h1, h2, h3⟩ := h.slice
  exact ⟨A, c, rfl, h1, h2, h3, hg⟩

theorem OwnB.mono {B B' : Nat} {w : World} {v : Value} {l : List UInt8} (h : OwnB B w v l) (hB : B' ≤ B) : OwnB B' w v l :=
  ⟨h.1, h.2.imp id fun ⟨g, cap, cur, h1, h2, h3⟩ => ⟨g, cap, cur, h1, Nat.le_trans hB h2, h3⟩⟩
/-- a call hands back a row of bytes of its own: more may be put behind it -/
def RetO (w : World) (l : List UInt8) (e : Ending) (w' : World) : Prop := ∃ v, e = .returned v ∧ OwnB w.heap.size w' v l ∧ Chg Non w w'
theorem RetO.retB {w w' : World} {l : List UInt8} {e : Ending} (h : RetO w l e w') : RetB w l e w' := by
  obtain ⟨v, rfl, h1, h2⟩ := h
  exact h1.ret h2
set_option maxRecDepth 10000 in
/-- one byte is put behind -/
theorem wpList_snoc {ops : Array Oper} {rest : List Oper} {o : Oper} {a : Act} {w : World} {Q : Exit → Act → World → Prop} (hgd : o.guard = none) (s x : Operand)
    (ho : o.op = .call { callee := .builtin .append, args := #[s, x], argTypes := #[35, 35] })
    (B : Nat) (v : Value) (l : List UInt8) (hs : a.eval s = v) (hown : OwnB B w v l) (b : Nat) (y : UInt8) (hx : a.eval x = .slice (some ⟨b, 0, none⟩) 1 1) (hb : w.cell? ⟨b, 0, none⟩ = some (.int .u8 (y.toNat : Int)))
    (hl : l.length ≤ 1000000) (hB : B ≤ w.heap.size)
    (h : ∀ v2 w2, OwnB B w2 v2 (l ++ [y]) → Chg (fun k => B ≤ k) w w2 → wpList Tryz.prog ops Q rest (a.put o.dst v2) w2) : wpList Tryz.prog ops Q (o :: rest) a w := by
  obtain ⟨i0, hi0, hz0, hs0, hb0⟩ := info_parts info_u8
  refine wpList_append_lies w hgd s x 35 ho B 5 i0 _ 1 1 Tryz.underlying35 hi0 hz0 hs0 hb0 rfl (by omega) v l.length (l.map bv) hs hown ⟨b, 0, none⟩ 1 1 [bv y] hx rfl ?_ ?_ (by omega) (by unfold maxLen; omega) (by omega) hB _ rfl ?_
  · intro j u hu
    cases j with
    | zero =>
      simp only [List.getElem?_cons_zero, Option.some.injEq] at hu
      subst hu
      rw [add_plain]
      exact hb
    | succ j => simp at hu
  · intro u hu
    simp only [List.mem_singleton] at hu
    subst hu
    rfl
  · intro g cap w2 h2 hgrow hat hlt
    refine h _ _ ?_ ?_
    · unfold OwnB
      rw [List.length_append, List.map_append]
      exact h2
    · refine (Chg.refl (fun k => B ≤ k) w).grown hgrow fun g' hg' => .inl ?_
      rcases hown.2 with ⟨rfl, _⟩ | ⟨g2, cap2, cur, rfl, hB2, _⟩
      · simp [Value.ownBlock] at hg'
      · obtain rfl : g2 = g' := by simpa [Value.ownBlock] using hg'
        exact hB2

set_option maxRecDepth 100000 in
set_option maxHeartbeats 2000000 in
theorem rCat (A1 : Option Addr) (l1 : List UInt8) (c1 : Nat) (A2 : Option Addr) (l2 : List UInt8) (c2 : Nat) (w : World) (h1 : Rd w A1 l1) (h2 : Rd w A2 l2) (hl : l1.length + l2.length ≤ 1000000) :
    Calls Tryz.prog 66 #[.slice A1 l1.length c1, .slice A2 l2.length c2] w (RetB w (l1 ++ l2)) := by
  have H1 := Lib.hid h1
  have H2 := Lib.hid h2
  clear h1 h2
  go_enter Tryz.func66, Tryz.ntmps66
  go_wp2_with fail
  go_loopw [5, 6] (fun v i wr => ∃ k : Nat, k ≤ l1.length ∧ i = .int .i64 k ∧ OwnB w.heap.size wr v (l1.take k) ∧ Chg Non w wr) (fun _ i _ => l1.length - (intOf i).toNat)
  case atStart => exact ⟨0, by omega, rfl, OwnB.nil _ _, Chg.refl _ _⟩
  case round =>
    obtain ⟨k, hk, rfl, hO, hC⟩ := hrel
    have HO := Lib.hid hO
    have HC := Lib.hid hC
    clear hO hC
    by_cases hlt : k < l1.length
    · obtain ⟨b, o, rfl, _, hcell⟩ := (H1.out.non HC.out).at_ (by omega)
      have hk1 := hcell k hlt
      have hlt' : decide ((k : Int) < (l1.length : Int)) = true := by simpa using hlt
      clear hcell
      go_wp2_with (first
        | (refine sel (some 20) (.call { callee := .builtin .append, args := #[.tmp 14, .tmp 19], argTypes := #[35, 35] }) ?_
           refine Hole1.out ?_))
      refine ⟨?_⟩
      refine wpList_snoc rfl (.tmp 14) (.tmp 19) rfl w.heap.size u5 (l1.take k) rfl (HO.out.non ((Chg.refl _ _).alloc _)) wr.heap.size l1[k] rfl (by go_simp) (by simp; omega) (by have := HC.out.size; simp; omega) ?_
      intro v2 w2 hO2 hg2
      have HO2 := Lib.hid hO2
      have HG2 := Lib.hid ((HC.out.alloc _).then_new hg2 (fun x e => e))
      clear hO2 hg2
      go_wp2_with fail
      case roundEnd =>
        refine ⟨⟨k + 1, by omega, by simp, ?_, HG2.out⟩, by simp [intOf]; omega⟩
        rw [← List.take_append_getElem hlt]
        exact HO2.out
    · obtain rfl : k = l1.length := by omega
      have HO1 : Hid (OwnB w.heap.size wr u5 l1) := Lib.hid (by have := HO.out; rwa [List.take_length] at this)
      go_wp2_with fail
      clear HO
      go_loopw [5, 7] (fun v i wr => ∃ k : Nat, k ≤ l2.length ∧ i = .int .i64 k ∧ OwnB w.heap.size wr v (l1 ++ l2.take k) ∧ Chg Non w wr) (fun _ i _ => l2.length - (intOf i).toNat)
      case atStart => exact ⟨0, by omega, rfl, by rw [List.take_zero, List.append_nil]; exact HO1.out, HC.out⟩
      case round =>
        obtain ⟨k, hk, rfl, hO, hC⟩ := hrel
        have HO := Lib.hid hO
        have HC := Lib.hid hC
        clear hO hC
        by_cases hlt : k < l2.length
        · obtain ⟨b, o, rfl, _, hcell⟩ := (H2.out.non HC.out).at_ (by omega)
          have hk1 := hcell k hlt
          have hlt' : decide ((k : Int) < (l2.length : Int)) = true := by simpa using hlt
          clear hcell
          go_wp2_with (first
            | (refine sel (some 33) (.call { callee := .builtin .append, args := #[.tmp 27, .tmp 32], argTypes := #[35, 35] }) ?_
               refine Hole1.out ?_))
          refine ⟨?_⟩
          refine wpList_snoc rfl (.tmp 27) (.tmp 32) rfl w.heap.size u5 (l1 ++ l2.take k) rfl (HO.out.non ((Chg.refl _ _).alloc _)) wr.heap.size l2[k] rfl (by go_simp) (by simp; omega) (by have := HC.out.size; simp; omega) ?_
          intro v2 w2 hO2 hg2
          have HO2 := Lib.hid hO2
          have HG2 := Lib.hid ((HC.out.alloc _).then_new hg2 (fun x e => e))
          clear hO2 hg2
          go_wp2_with fail
          case roundEnd =>
            refine ⟨⟨k + 1, by omega, by simp, ?_, HG2.out⟩, by simp [intOf]; omega⟩
            rw [← List.take_append_getElem hlt, ← List.append_assoc]
            exact HO2.out
        · obtain rfl : k = l2.length := by omega
          have HO3 := Lib.hid (by have := HO.out; rwa [List.take_length] at this)
          go_wp2_with fail
          go_ret
          exact HO3.out.ret HC.out

set_option maxRecDepth 100000 in
set_option maxHeartbeats 400000 in
theorem rCopy (A : Option Addr) (l : List UInt8) (c : Nat) (w : World) (h : Rd w A l) (hl : l.length ≤ 1000000) :
    Calls Tryz.prog 36 #[.slice A l.length c] w (RetB w l) := by
  have HC := Lib.hid (fun W (hg : Chg Non w W) => rCat none [] 0 A l c W (Rd.nil _ _) (h.non hg) (by simpa using hl))
  clear h
  go_enter Tryz.func36, Tryz.ntmps36
  go_wp2_with fail
  refine (HC.out _ (Chg.refl _ _)).mono ?_
  rintro e u ⟨A2, c2, rfl, h1, h2, h3, h4⟩
  have HR := Lib.hid (show RetB w l (.returned (.slice A2 l.length c2)) u from ⟨A2, c2, rfl, h1, h2, h3, h4⟩)
  clear h1 h2 h3 h4
  go_wp2_with fail
  go_ret
  exact HR.out
end Go.Proofs.YtgmpacndjmmgjaaGreat
end
section
namespace Go.Proofs.YtgmpacndjmmgjaaGreat
open Go.RowKit
set_option linter.unusedVariables false

set_option maxRecDepth 100000 in
set_option maxHeartbeats 2000000 in
theorem rPutO (x n : Nat) (w : World) (hx : x < 18446744073709551616) (hn : n ≤ 1000) :
    Calls Tryz.prog 76 #[.int .u64 (x : Int), .int .i64 (n : Int)] w (RetO w (be x n)) := by
  go_enter Tryz.func76, Tryz.ntmps76
  go_wp2_with fail
  go_loopw [0, 5, 6] (fun xv v i wr => ∃ k : Nat, ∃ t : List UInt8, ∃ y : Nat, k ≤ n ∧ i = .int .i64 k ∧ xv = .int .u64 (y : Int) ∧ y < 18446744073709551616 ∧ t.length = k ∧ be x n = be y (n - k) ++ t.reverse ∧ OwnB w.heap.size wr v t ∧ Chg Non w wr) (fun _ _ i _ => n - (intOf i).toNat)
  case atStart => exact ⟨0, [], x, by omega, rfl, rfl, hx, rfl, by simp, OwnB.nil _ _, Chg.refl _ _⟩
  case round =>
    obtain ⟨k, t, y, hk, rfl, rfl, hy, htl, hbe, hO, hC⟩ := hrel
    have HO := Lib.hid hO
    have HC := Lib.hid hC
    have HBE := Lib.hid hbe
    clear hO hC hbe
    by_cases hlt : k < n
    · have hlt' : decide ((k : Int) < (n : Int)) = true := by simpa using hlt
      have hz : ((UInt8.ofNat y).toNat : Int) = (y : Int) % 256 := by rw [UInt8.toNat_ofNat']; omega
      have hq : (y : Int).tdiv 256 = ((y / 256 : Nat) : Int) := by
        rw [Int.tdiv_eq_ediv_of_nonneg (by omega)]; omega
      go_wp2_with (first
        | (refine sel (some 19) (.call { callee := .builtin .append, args := #[.tmp 14, .tmp 18], argTypes := #[35, 35] }) ?_
           refine Hole1.out ?_))
      refine ⟨?_⟩
      refine wpList_snoc rfl (.tmp 14) (.tmp 18) rfl w.heap.size u5 t rfl (HO.out.non ((Chg.refl _ _).alloc _)) wr.heap.size (UInt8.ofNat y) rfl (by rw [hz]; go_simp) (by omega) (by have := HC.out.size; simp; omega) ?_
      intro v2 w2 hO2 hg2
      have HO2 := Lib.hid hO2
      have HG2 := Lib.hid ((HC.out.alloc _).then_new hg2 (fun x e => e))
      clear hO2 hg2
      go_wp2_with fail
      case roundEnd =>
        refine ⟨⟨k + 1, t ++ [UInt8.ofNat y], y / 256, by omega, by simp, by simp, by omega, by simp [htl], ?_, HO2.out, HG2.out⟩, by simp [intOf]; omega⟩
        rw [HBE.out, show n - k = (n - (k + 1)) + 1 by omega, be, List.reverse_append]
        simp
    · obtain rfl : k = n := by omega
      have hb : be x k = t.reverse := by have := HBE.out; rw [Nat.sub_self] at this; simpa [be] using this
      subst htl
      have hwl : IntKind.i64.wrap ((t.length : Int) - 1) = (t.length : Int) - 1 := Go.IntWalk.i64_in _ (by omega)
      clear HBE
      obtain ⟨A, c, rfl, hl1, hl2, ho⟩ := HO.out.slice
      have HR := Lib.hid ho.rd
      clear ho
      go_wp2_with fail
      go_loopw [7, 8] (fun v i wr2 => ∃ j : Nat, j ≤ t.length ∧ i = .int .i64 ((j : Int) - 1) ∧ OwnB wr.heap.size wr2 v (t.drop j).reverse ∧ Chg Non wr wr2) (fun _ i _ => (intOf i + 1).toNat)
      case atStart => exact ⟨t.length, Nat.le_refl _, rfl, by rw [List.drop_length]; exact OwnB.nil _ _, Chg.refl _ _⟩
      case round =>
        obtain ⟨j, hj, rfl, hO2, hC2⟩ := hrel
        have HO2 := Lib.hid hO2
        have HC2 := Lib.hid hC2
        clear hO2 hC2
        cases j with
        | zero =>
          have HO3 := Lib.hid (by have := HO2.out; rwa [List.drop_zero] at this)
          go_wp2_with fail
          go_ret
          rw [hb]
          exact ⟨_, rfl, HO3.out.mono HC.out.size, HC.out.then_non HC2.out⟩
        | succ j =>
          have hji : ((j + 1 : Nat) : Int) - 1 = (j : Int) := by omega
          rw [hji]
          obtain ⟨b, o, rfl, _, hcell⟩ := (HR.out.non HC2.out).at_ (by omega)
          have hk1 := hcell j (by omega)
          have hd : decide (0 ≤ (j : Int)) = true := by simp
          have hjl : j < t.length := by omega
          have hwj : IntKind.i64.wrap ((j : Int) - 1) = (j : Int) - 1 := Go.IntWalk.i64_in _ (by omega)
          clear hcell hji
          go_wp2_with (first
            | (refine sel (some 35) (.call { callee := .builtin .append, args := #[.tmp 29, .tmp 34], argTypes := #[35, 35] }) ?_
               refine Hole1.out ?_))
          refine ⟨?_⟩
          refine wpList_snoc rfl (.tmp 29) (.tmp 34) rfl _ u7 (t.drop (j + 1)).reverse rfl (HO2.out.non ((Chg.refl _ _).alloc _)) wr.heap.size t[j] rfl (by go_simp) (by simp; omega) (by have := HC2.out.size; simp; omega) ?_
          intro v2 w2 hO3 hg3
          have HO3 := Lib.hid hO3
          have HG3 := Lib.hid ((HC2.out.alloc _).then_new hg3 (fun x e => e))
          clear hO3 hg3
          go_wp2_with fail
          case roundEnd =>
            refine ⟨⟨j, by omega, rfl, ?_, HG3.out⟩, by simp [intOf]⟩
            rw [List.drop_eq_getElem_cons hjl, List.reverse_cons]
            exact HO3.out
theorem rPut (x n : Nat) (w : World) (hx : x < 18446744073709551616) (hn : n ≤ 1000) :
    Calls Tryz.prog 76 #[.int .u64 (x : Int), .int .i64 (n : Int)] w (RetB w (be x n)) := (rPutO x n w hx hn).mono fun _ _ h => h.retB
end Go.Proofs.YtgmpacndjmmgjaaGreat
end
section
namespace Go.Proofs.YtgmpacndjmmgjaaGreat
open Go.RowKit
set_option linter.unusedVariables false

section
variable {P : Program} {md : Region.Mode} {ops : Array Oper} {Q : Exit → Act → World → Prop} {S : World → Prop} {fuel : Nat} {listed : Array Bool} {a : Act} {w : World}

/-- an operation that computes is taken first -/
theorem h_pure (i : Nat) (d : Option Tmp) (v : Value) {oi : Oper} (hi : ops[i]? = some oi) (hs : Region.noSelect ops = true) (hf : Region.free md ops listed i = true) (hr : (Region.ready md ops listed).contains i = true)
    (hdst : oi.dst = d) (hQ : ∀ c a w, Q (.panic c) (a.put d v) w → Q (.panic c) a w) (hw : Region.wanted oi (yielded ops a.tmps) = true) (he : ∀ w, S w → (execOp a.eval oi).run P w = .ok (.value v) w) (hS : S w)
    (h : wpAnyH P md ops Q S fuel (listed.setIfInBounds i true) (a.put d v) w) : wpAnyH P md ops Q S (fuel + 1) listed a w := by
  subst hdst
  exact wpAnyH_take hi hs hf hr hQ (.inl ⟨hw, he⟩) hS h

/-- one that is not wanted -/
theorem h_skip (i : Nat) (d : Option Tmp) {oi : Oper} (hi : ops[i]? = some oi) (hs : Region.noSelect ops = true) (hf : Region.free md ops listed i = true) (hr : (Region.ready md ops listed).contains i = true)
    (hdst : oi.dst = d) (hQ : ∀ c a w, Q (.panic c) (a.put d undef) w → Q (.panic c) a w) (hw : Region.wanted oi (yielded ops a.tmps) = false) (hS : S w)
    (h : wpAnyH P md ops Q S fuel (listed.setIfInBounds i true) (a.put d undef) w) : wpAnyH P md ops Q S (fuel + 1) listed a w := by
  subst hdst
  exact wpAnyH_take hi hs hf hr hQ (.inr ⟨hw, rfl⟩) hS h

/-- the one that may come up -/
theorem h_one (i : Nat) {oi : Oper} (hr : Region.ready md ops listed = [i]) (hi : ops[i]? = some oi) (hw : Region.wanted oi (yielded ops a.tmps) = true)
    (h : ∀ K : Act → World → Prop, Shut (∀ a w, S w → (S w → wpAnyH P md ops Q S fuel (listed.setIfInBounds i true) a w) → K a w) → Oper.wp P oi a w K Q) : wpAnyH P md ops Q S (fuel + 1) listed a w :=
  wpAnyH_ready hr (by simp) (AllReadyH.cons hi (fun K hK => by rw [if_pos hw]; exact h K hK) AllReadyH.nil)

/-- a load of a whole row -/
theorem h_load (i : Nat) (dd : Option Tmp) {oi : Oper} (ty : TypeId) (x : Operand) (b o : Nat) (C : Array Value) (d : TypeDesc) (hi : ops[i]? = some oi) (hs : Region.noSelect ops = true) (hf : Region.free md ops listed i = true) (hr : (Region.ready md ops listed).contains i = true)
    (hdst : oi.dst = dd) (ho : oi.op = .load ty x) (hQ : ∀ c a w, Q (.panic c) (a.put dd (.agg C)) w → Q (.panic c) a w) (hw : Region.wanted oi (yielded ops a.tmps) = true)
    (hx : a.eval x = .pointer (some ⟨b, o, none⟩)) (hR : ∀ w, S w → w.rangeAt b o C.toList) (hu : P.underlying ty = some d) (hd : d.isRow = true) (hz : (P.info? ty).map (·.size) = some C.size) (hS : S w)
    (h : wpAnyH P md ops Q S fuel (listed.setIfInBounds i true) (a.put dd (.agg C)) w) : wpAnyH P md ops Q S (fuel + 1) listed a w := by
  subst hdst
  exact wpAnyH_take hi hs hf hr hQ (yieldsIf_load_mid hw ty x ho b o hx C.toList d hR hu hd (by rw [hz, Array.length_toList])) hS h

/-- a store of a whole row -/
theorem h_store (i : Nat) {oi : Oper} (ty : TypeId) (x y : Operand) (g : Nat) (C : Array Value) (hr : Region.ready md ops listed = [i]) (hi : ops[i]? = some oi) (hw : Region.wanted oi (yielded ops a.tmps) = true)
    (hdst : oi.dst = none) (ho : oi.op = .store ty x y) (hx : a.eval x = .pointer (some ⟨g, 0, none⟩)) (hy : a.eval y = .agg C) (t : TypeId) (hold : ∃ old : Array Value, w.heap[g]? = some (.cells old t (0, 0)) ∧ old.size = C.size) (hz : (P.info? ty).map (·.size) = some C.size)
    (h1 : C.all (·.oneCell') = true) (hS : ∀ W, Chg (fun k => k = g) w W → W.heap[g]? = some (.cells C t (0, 0)) → S W)
    (h : ∀ W, Chg (fun k => k = g) w W → W.heap[g]? = some (.cells C t (0, 0)) → wpAnyH P md ops Q S fuel (listed.setIfInBounds i true) a W) : wpAnyH P md ops Q S (fuel + 1) listed a w := by
  obtain ⟨old, hg, hold⟩ := hold
  have hput : a.put oi.dst undef = a := by rw [hdst]; rfl
  have k1 : Chg (fun k => k = g) w (w.setRow g C) := (Chg.refl (fun k => k = g) _).setRow (.inl rfl) _
  have k2 := setRow_heap w g old C t (0, 0) hg
  exact h_one i hr hi hw (fun K hK => wp_store_row ty x y ho g C hx hy t old hg hz hold h1 (by rw [hput]; exact hK.out _ _ (hS _ k1 k2) (fun _ => h _ k1 k2)))
end
end Go.Proofs.YtgmpacndjmmgjaaGreat
end
section
namespace Go.Proofs.YtgmpacndjmmgjaaGreat
open Go.RowKit
set_option linter.unusedVariables false

set_option maxRecDepth 100000 in
set_option maxHeartbeats 2000000 in
theorem rOrder (A1 : Option Addr) (l1 : List UInt8) (c1 : Nat) (A2 : Option Addr) (l2 : List UInt8) (c2 : Nat) (w : World) (h1 : Rd w A1 l1) (h2 : Rd w A2 l2) (hl1 : l1.length ≤ 1000000) (hl2 : l2.length ≤ 1000000) :
    Calls Tryz.prog 37 #[.slice A1 l1.length c1, .slice A2 l2.length c2] w fun e w' => ∃ o : Int, e = .returned (.int .i64 o) ∧ (o = 0 ↔ l1 = l2) ∧ Chg Non w w' := by
  have H1 := Lib.hid h1
  have H2 := Lib.hid h2
  clear h1 h2
  go_enter Tryz.func37, Tryz.ntmps37
  go_wp2_with fail
  go_loopw [5] (fun i wr => ∃ k : Nat, k ≤ l1.length ∧ k ≤ l2.length ∧ i = .int .i64 k ∧ l1.take k = l2.take k ∧ Chg Non w wr) (fun i _ => l1.length - (intOf i).toNat)
  case atStart => exact ⟨0, by omega, by omega, rfl, rfl, Chg.refl _ _⟩
  case round =>
    obtain ⟨k, hk1, hk2, rfl, ht, hC⟩ := hrel
    have HC := Lib.hid hC
    have HT := Lib.hid ht
    clear hC ht
    by_cases hlt1 : k < l1.length
    · have d1 : decide ((k : Int) < (l1.length : Int)) = true := by simpa using hlt1
      by_cases hlt2 : k < l2.length
      · have d2 : decide ((k : Int) < (l2.length : Int)) = true := by simpa using hlt2
        obtain ⟨b1, o1, rfl, _, hcell1⟩ := (H1.out.non HC.out).at_ (by omega)
        obtain ⟨b2, o2, rfl, _, hcell2⟩ := (H2.out.non HC.out).at_ (by omega)
        have HK1 := Lib.hid (hcell1 k hlt1)
        have HK2 := Lib.hid (hcell2 k hlt2)
        clear hcell1 hcell2
        go_wp2_with fail
        refine wp_region_held_drew (S := Chg Non wr) (by kernel_rfl) (Chg.refl Non wr).drew (fun _ => ?_)
        refine h_pure 0 (some 18) (.slice (some ⟨b1, o1, none⟩) l1.length c1) rfl (by kernel_rfl) (by kernel_rfl) (by kernel_rfl) (by kernel_rfl) (fun _ _ _ h => h) (by kernel_rfl) (fun w e => by go_simp) ((Chg.refl Non wr).drew) ?_
        simp only [Act.put, List.setIfInBounds_toArray, List.set_cons_zero, List.set_cons_succ]
        refine h_pure 1 (some 19) (.int .i64 (k : Int)) rfl (by kernel_rfl) (by kernel_rfl) (by kernel_rfl) (by kernel_rfl) (fun _ _ _ h => h) (by kernel_rfl) (fun w e => by go_simp) ((Chg.refl Non wr).drew) ?_
        simp only [Act.put, List.setIfInBounds_toArray, List.set_cons_zero, List.set_cons_succ]
        refine h_pure 2 (some 20) (.pointer (some ⟨b1, o1 + k, none⟩)) rfl (by kernel_rfl) (by kernel_rfl) (by kernel_rfl) (by kernel_rfl) (fun _ _ _ h => h) (by kernel_rfl) (fun w e => by go_simp; try (intro hh; omega)) ((Chg.refl Non wr).drew) ?_
        simp only [Act.put, List.setIfInBounds_toArray, List.set_cons_zero, List.set_cons_succ]
        refine h_pure 3 (some 21) (.int .u8 (l1[k].toNat : Int)) rfl (by kernel_rfl) (by kernel_rfl) (by kernel_rfl) (by kernel_rfl) (fun _ _ _ h => h) (by kernel_rfl) (fun w e => by have := e.cell_some HK1.out (fun e => e); go_simp) ((Chg.refl Non wr).drew) ?_
        simp only [Act.put, List.setIfInBounds_toArray, List.set_cons_zero, List.set_cons_succ]
        refine h_pure 4 (some 22) (.slice (some ⟨b2, o2, none⟩) l2.length c2) rfl (by kernel_rfl) (by kernel_rfl) (by kernel_rfl) (by kernel_rfl) (fun _ _ _ h => h) (by kernel_rfl) (fun w e => by go_simp) ((Chg.refl Non wr).drew) ?_
        simp only [Act.put, List.setIfInBounds_toArray, List.set_cons_zero, List.set_cons_succ]
        refine h_pure 5 (some 23) (.int .i64 (k : Int)) rfl (by kernel_rfl) (by kernel_rfl) (by kernel_rfl) (by kernel_rfl) (fun _ _ _ h => h) (by kernel_rfl) (fun w e => by go_simp) ((Chg.refl Non wr).drew) ?_
        simp only [Act.put, List.setIfInBounds_toArray, List.set_cons_zero, List.set_cons_succ]
        refine h_pure 6 (some 24) (.pointer (some ⟨b2, o2 + k, none⟩)) rfl (by kernel_rfl) (by kernel_rfl) (by kernel_rfl) (by kernel_rfl) (fun _ _ _ h => h) (by kernel_rfl) (fun w e => by go_simp; try (intro hh; omega)) ((Chg.refl Non wr).drew) ?_
        simp only [Act.put, List.setIfInBounds_toArray, List.set_cons_zero, List.set_cons_succ]
        refine h_pure 7 (some 25) (.int .u8 (l2[k].toNat : Int)) rfl (by kernel_rfl) (by kernel_rfl) (by kernel_rfl) (by kernel_rfl) (fun _ _ _ h => h) (by kernel_rfl) (fun w e => by have := e.cell_some HK2.out (fun e => e); go_simp) ((Chg.refl Non wr).drew) ?_
        simp only [Act.put, List.setIfInBounds_toArray, List.set_cons_zero, List.set_cons_succ]
        refine h_pure 8 (some 26) (.bool (decide ((l1[k].toNat : Int) < (l2[k].toNat : Int)))) rfl (by kernel_rfl) (by kernel_rfl) (by kernel_rfl) (by kernel_rfl) (fun _ _ _ h => h) (by kernel_rfl) (fun w e => by go_simp) ((Chg.refl Non wr).drew) ?_
        simp only [Act.put, List.setIfInBounds_toArray, List.set_cons_zero, List.set_cons_succ]
        refine wpAnyH_done (by kernel_rfl) ?_ _
        have hne : l1[k].toNat ≠ l2[k].toNat → l1 ≠ l2 := fun h e => by subst e; exact h rfl
        by_cases ha : l1[k].toNat < l2[k].toNat
        · have da : decide ((l1[k].toNat : Int) < (l2[k].toNat : Int)) = true := by simpa using ha
          have hn := hne (by omega)
          go_wp2_with fail
          go_ret
          exact ⟨-1, rfl, ⟨fun h => by omega, fun h => absurd h hn⟩, HC.out.drew⟩
        have da : decide ((l1[k].toNat : Int) < (l2[k].toNat : Int)) = false := by simpa using ha
        go_wp2_with fail
        refine wp_region_held_drew (S := Chg Non wr) (by kernel_rfl) (Chg.refl Non wr).drew.drew (fun _ => ?_)
        refine h_pure 0 (some 27) (.slice (some ⟨b1, o1, none⟩) l1.length c1) rfl (by kernel_rfl) (by kernel_rfl) (by kernel_rfl) (by kernel_rfl) (fun _ _ _ h => h) (by kernel_rfl) (fun w e => by go_simp) ((Chg.refl Non wr).drew.drew) ?_
        simp only [Act.put, List.setIfInBounds_toArray, List.set_cons_zero, List.set_cons_succ]
        refine h_pure 1 (some 28) (.int .i64 (k : Int)) rfl (by kernel_rfl) (by kernel_rfl) (by kernel_rfl) (by kernel_rfl) (fun _ _ _ h => h) (by kernel_rfl) (fun w e => by go_simp) ((Chg.refl Non wr).drew.drew) ?_
        simp only [Act.put, List.setIfInBounds_toArray, List.set_cons_zero, List.set_cons_succ]
        refine h_pure 2 (some 29) (.pointer (some ⟨b1, o1 + k, none⟩)) rfl (by kernel_rfl) (by kernel_rfl) (by kernel_rfl) (by kernel_rfl) (fun _ _ _ h => h) (by kernel_rfl) (fun w e => by go_simp; try (intro hh; omega)) ((Chg.refl Non wr).drew.drew) ?_
        simp only [Act.put, List.setIfInBounds_toArray, List.set_cons_zero, List.set_cons_succ]
        refine h_pure 3 (some 30) (.int .u8 (l1[k].toNat : Int)) rfl (by kernel_rfl) (by kernel_rfl) (by kernel_rfl) (by kernel_rfl) (fun _ _ _ h => h) (by kernel_rfl) (fun w e => by have := e.cell_some HK1.out (fun e => e); go_simp) ((Chg.refl Non wr).drew.drew) ?_
        simp only [Act.put, List.setIfInBounds_toArray, List.set_cons_zero, List.set_cons_succ]
        refine h_pure 4 (some 31) (.slice (some ⟨b2, o2, none⟩) l2.length c2) rfl (by kernel_rfl) (by kernel_rfl) (by kernel_rfl) (by kernel_rfl) (fun _ _ _ h => h) (by kernel_rfl) (fun w e => by go_simp) ((Chg.refl Non wr).drew.drew) ?_
        simp only [Act.put, List.setIfInBounds_toArray, List.set_cons_zero, List.set_cons_succ]
        refine h_pure 5 (some 32) (.int .i64 (k : Int)) rfl (by kernel_rfl) (by kernel_rfl) (by kernel_rfl) (by kernel_rfl) (fun _ _ _ h => h) (by kernel_rfl) (fun w e => by go_simp) ((Chg.refl Non wr).drew.drew) ?_
        simp only [Act.put, List.setIfInBounds_toArray, List.set_cons_zero, List.set_cons_succ]
        refine h_pure 6 (some 33) (.pointer (some ⟨b2, o2 + k, none⟩)) rfl (by kernel_rfl) (by kernel_rfl) (by kernel_rfl) (by kernel_rfl) (fun _ _ _ h => h) (by kernel_rfl) (fun w e => by go_simp; try (intro hh; omega)) ((Chg.refl Non wr).drew.drew) ?_
        simp only [Act.put, List.setIfInBounds_toArray, List.set_cons_zero, List.set_cons_succ]
        refine h_pure 7 (some 34) (.int .u8 (l2[k].toNat : Int)) rfl (by kernel_rfl) (by kernel_rfl) (by kernel_rfl) (by kernel_rfl) (fun _ _ _ h => h) (by kernel_rfl) (fun w e => by have := e.cell_some HK2.out (fun e => e); go_simp) ((Chg.refl Non wr).drew.drew) ?_
        simp only [Act.put, List.setIfInBounds_toArray, List.set_cons_zero, List.set_cons_succ]
        refine h_pure 8 (some 35) (.bool (decide ((l2[k].toNat : Int) < (l1[k].toNat : Int)))) rfl (by kernel_rfl) (by kernel_rfl) (by kernel_rfl) (by kernel_rfl) (fun _ _ _ h => h) (by kernel_rfl) (fun w e => by go_simp) ((Chg.refl Non wr).drew.drew) ?_
        simp only [Act.put, List.setIfInBounds_toArray, List.set_cons_zero, List.set_cons_succ]
        refine wpAnyH_done (by kernel_rfl) ?_ _
        by_cases hb : l2[k].toNat < l1[k].toNat
        · have db : decide ((l2[k].toNat : Int) < (l1[k].toNat : Int)) = true := by simpa using hb
          have hn := hne (by omega)
          go_wp2_with fail
          go_ret
          exact ⟨1, rfl, ⟨fun h => by omega, fun h => absurd h hn⟩, HC.out.drew.drew⟩
        have db : decide ((l2[k].toNat : Int) < (l1[k].toNat : Int)) = false := by simpa using hb
        have heq : l1[k] = l2[k] := UInt8.toNat_inj.1 (by omega)
        go_wp2_with fail
        case roundEnd =>
          refine ⟨⟨k + 1, by omega, by omega, by simp, ?_, HC.out.drew.drew⟩, by simp [intOf]; omega⟩
          rw [← List.take_append_getElem hlt1, ← List.take_append_getElem hlt2, HT.out, heq]
      · obtain rfl : k = l2.length := by omega
        have d2 : decide ((l2.length : Int) < (l2.length : Int)) = false := by simp
        have hn : l1 ≠ l2 := fun e => by rw [e] at hlt1; omega
        have d3 : decide ((l1.length : Int) < (l2.length : Int)) = false := by simp; omega
        have d4 : decide ((l2.length : Int) < (l1.length : Int)) = true := by simpa using hlt1
        go_wp2_with fail
        go_ret
        exact ⟨1, rfl, ⟨fun h => by omega, fun h => absurd h hn⟩, HC.out⟩
    · obtain rfl : k = l1.length := by omega
      have d1 : decide ((l1.length : Int) < (l1.length : Int)) = false := by simp
      by_cases hlt2 : l1.length < l2.length
      · have d3 : decide ((l1.length : Int) < (l2.length : Int)) = true := by simpa using hlt2
        have hn : l1 ≠ l2 := fun e => by rw [e] at hlt2; omega
        go_wp2_with fail
        go_ret
        exact ⟨-1, rfl, ⟨fun h => by omega, fun h => absurd h hn⟩, HC.out⟩
      · have d3 : decide ((l1.length : Int) < (l2.length : Int)) = false := by simpa using hlt2
        have d4 : decide ((l2.length : Int) < (l1.length : Int)) = false := by simp; omega
        have he : l1 = l2 := by have := HT.out; rwa [List.take_length, List.take_of_length_le (by omega)] at this
        go_wp2_with fail
        go_ret
        exact ⟨0, rfl, ⟨fun _ => he, fun _ => rfl⟩, HC.out⟩

set_option maxRecDepth 100000 in
set_option maxHeartbeats 400000 in
theorem rSame (A1 : Option Addr) (l1 : List UInt8) (c1 : Nat) (A2 : Option Addr) (l2 : List UInt8) (c2 : Nat) (w : World) (h1 : Rd w A1 l1) (h2 : Rd w A2 l2) (hl1 : l1.length ≤ 1000000) (hl2 : l2.length ≤ 1000000) :
    Calls Tryz.prog 15 #[.slice A1 l1.length c1, .slice A2 l2.length c2] w fun e w' => e = .returned (.bool (decide (l1 = l2))) ∧ Chg Non w w' := by
  have HO := Lib.hid (rOrder A1 l1 c1 A2 l2 c2 w h1 h2 hl1 hl2)
  clear h1 h2
  obtain ⟨q, hq⟩ : ∃ q, decide (l1 = l2) = q := ⟨_, rfl⟩
  rw [hq]
  go_enter Tryz.func15, Tryz.ntmps15
  go_wp2_with fail
  refine HO.out.mono ?_
  rintro e u ⟨o, rfl, ho, hg⟩
  have HG := Lib.hid hg
  have hd : (o == 0) = q := by
    rw [← hq, Bool.eq_iff_iff, beq_iff_eq, decide_eq_true_eq]
    exact ho
  clear hg ho hq
  go_wp2_with fail
  go_ret
  exact ⟨rfl, HG.out⟩
end Go.Proofs.YtgmpacndjmmgjaaGreat
end
section
namespace Go.Proofs.YtgmpacndjmmgjaaGreat
open Go.RowKit
set_option linter.unusedVariables false

/-- block p is a reader with the bytes l in front, and its error -/
def IsR (w : World) (p : Nat) (l : List UInt8) (er : Int) : Prop :=
  ∃ A c, w.heap[p]? = some (.cells #[.slice A l.length c, .bool true, .int .i64 er] 109 (0, 0)) ∧ Rd w A l ∧ l.length ≤ c ∧ c ≤ maxLen

def At (p : Nat) : Nat → Prop := fun k => k = p

theorem rd_ne {w : World} {p : Nat} {A : Option Addr} {l : List UInt8} {v : Value} {er : Int} {t : TypeId} {fr : Nat × Nat} (hb : w.heap[p]? = some (.cells #[v, .bool true, .int .i64 er] t fr)) (hv : ∀ x : UInt8, v ≠ .int .u8 (x.toNat : Int)) (h : Rd w A l) :
    ∀ b o, A = some ⟨b, o, none⟩ → l ≠ [] → ¬ At p b := by
  rintro b o rfl hne rfl
  obtain ⟨x, r, rfl⟩ := List.exists_cons_of_ne_nil hne
  obtain ⟨b', o', e, hc⟩ := h 0 x rfl
  injection e with e
  injection e with e1 e2
  subst e1 e2
  rw [cell_of_row _ _ _ _ _ _ hb] at hc
  have hn := hv x
  match h' : o + 0, hc with
  | 0, hc => simp at hc; exact hn hc
  | 1, hc => simp at hc
  | 2, hc => simp at hc
  | n + 3, hc => simp at hc

theorem IsR.non {w w' : World} {p : Nat} {l : List UInt8} {er : Int} (h : IsR w p l er) (hg : Chg Non w w') : IsR w' p l er := by
  obtain ⟨A, c, hb, hr, hc⟩ := h
  exact ⟨A, c, (hg.block p (Array.getElem?_eq_some_iff.1 hb).1 (fun e => e)).trans hb, hr.non hg, hc⟩
theorem IsR.lt {w : World} {p : Nat} {l : List UInt8} {er : Int} (h : IsR w p l er) : p < w.heap.size := by
  obtain ⟨A, c, hb, _⟩ := h
  exact (Array.getElem?_eq_some_iff.1 hb).1

set_option maxRecDepth 100000 in
set_option maxHeartbeats 2000000 in
theorem rwhole_any (p : Nat) (l : List UInt8) (er : Int) (w : World) (hR : IsR w p l er) :
    Calls Tryz.prog 107 #[.pointer (some ⟨p, 0, none⟩)] w fun e w' => e = .returned (.bool (er == 0)) ∧ w = w' := by
  obtain ⟨A, c, hb, hr, hc⟩ := hR
  have h1 : w.cell? ⟨p, 1, none⟩ = some (.bool true) := by rw [cell_of_row _ _ _ _ _ _ hb]; rfl
  have h2 : w.cell? ⟨p, 2, none⟩ = some (.int .i64 er) := by rw [cell_of_row _ _ _ _ _ _ hb]; rfl
  clear hb
  go_enter Tryz.func107, Tryz.ntmps107
  go_wp2
  go_ret
  exact ⟨rfl, rfl⟩

theorem isR_set {w w' : World} {p c : Nat} {A A' : Option Addr} {l l' : List UInt8} {er er' : Int} {cs : Array Value} (hb : w.heap[p]? = some (.cells cs 109 (0, 0)))
    (hb' : w'.heap[p]? = some (.cells #[.slice A' l'.length c, .bool true, .int .i64 er'] 109 (0, 0))) (hg : Chg (At p) w w') (hr : Rd w A' l') (hne : ∀ b o, A' = some ⟨b, o, none⟩ → l' ≠ [] → ¬ At p b)
    (hc : l'.length ≤ c) (hm : c ≤ maxLen) : IsR w' p l' er' := ⟨A', c, hb', hr.keep hg hne, hc, hm⟩

set_option maxRecDepth 100000 in
set_option maxHeartbeats 2000000 in
theorem breaks_ok (p : Nat) (l : List UInt8) (w : World) (hR : IsR w p l 0) :
    Calls Tryz.prog 105 #[.pointer (some ⟨p, 0, none⟩)] w fun e w' => e = .returned (.tuple #[]) ∧ IsR w' p [] 50 ∧ Chg (At p) w w' := by
  have hw := rwhole_any p l 0 w hR
  obtain ⟨A, c, hb, hr, hc⟩ := hR
  have h0 : w.cell? ⟨p, 0, none⟩ = some (.slice A l.length c) := by rw [cell_of_row _ _ _ _ _ _ hb]; rfl
  have h2 : w.cell? ⟨p, 2, none⟩ = some (.int .i64 0) := by rw [cell_of_row _ _ _ _ _ _ hb]; rfl
  have f0 : w.frozen? ⟨p, 0, none⟩ = false := frozen_of_row _ _ _ _ _ hb
  have f2 : w.frozen? ⟨p, 2, none⟩ = false := frozen_of_row _ _ _ _ _ hb
  have HB := Lib.hid hb
  have HW := Lib.hid hw
  clear hb hw
  go_enter Tryz.func105, Tryz.ntmps105
  go_wp2_with fail
  refine HW.out.mono ?_
  rintro e w' ⟨rfl, rfl⟩
  go_wp2
  go_end0
  refine ⟨rfl, ⟨none, 0, ?_, Rd.nil _ _, by simp, by simp⟩, ((Chg.refl (At p) _).setCell (p := ⟨p, 0, none⟩) (.inl rfl) _).setCell (p := ⟨p, 2, none⟩) (.inl rfl) _⟩
  rw [heap_setCell_same _ _ _ _ _ _ (heap_setCell_same _ _ _ _ _ _ HB.out)]
  rfl

set_option maxRecDepth 100000 in
set_option maxHeartbeats 2000000 in
theorem breaks_no (p : Nat) (l : List UInt8) (er : Int) (w : World) (hR : IsR w p l er) (he : er ≠ 0) :
    Calls Tryz.prog 105 #[.pointer (some ⟨p, 0, none⟩)] w fun e w' => e = .returned (.tuple #[]) ∧ w = w' := by
  have hw := rwhole_any p l er w hR
  rw [show (er == 0) = false by simpa using he] at hw
  have HW := Lib.hid hw
  clear hw
  go_enter Tryz.func105, Tryz.ntmps105
  go_wp2_with fail
  refine HW.out.mono ?_
  rintro e w' ⟨rfl, rfl⟩
  go_wp2
  go_end0
  exact ⟨rfl, rfl⟩

theorem take_ne {l : List UInt8} {n : Nat} (h : l.take n ≠ []) : l ≠ [] := by rintro rfl; simp at h

theorem take_close {w : World} {p n c : Nat} {A : Option Addr} {l : List UInt8} (hb : w.heap[p]? = some (.cells #[.slice A l.length c, .bool true, .int .i64 0] 109 (0, 0))) (hr : Rd w A l) (hn : n ≤ l.length)
    (hc : l.length ≤ c) (hm : c ≤ maxLen) (X : Option Addr) (hX : l.drop n ≠ [] → X = A.map (·.add n)) (d : Nat) (hd1 : l.length - n ≤ d) (hd2 : d ≤ maxLen) :
    IsR (w.setCell ⟨p, 0, none⟩ (.slice X (l.length - n) d)) p (l.drop n) 0 ∧ Chg (At p) w (w.setCell ⟨p, 0, none⟩ (.slice X (l.length - n) d)) := by
  have hne := rd_ne hb (fun x => by simp) hr
  have hg : Chg (At p) w (w.setCell ⟨p, 0, none⟩ (.slice X (l.length - n) d)) := (Chg.refl (At p) _).setCell (p := ⟨p, 0, none⟩) (.inl rfl) _
  have hrd : Rd w X (l.drop n) := by
    by_cases h : l.drop n = []
    · rw [h]; exact Rd.nil _ _
    · rw [hX h]
      have h0 : 0 < l.length := by
        rcases Nat.eq_zero_or_pos l.length with h0 | h0
        · exact absurd (List.drop_of_length_le (by omega)) h
        · exact h0
      obtain ⟨b, o, rfl, _, _⟩ := hr.at_ h0
      simp only [Option.map_some, add_plain]
      exact hr.drop n
  refine ⟨⟨X, d, ?_, hrd.keep hg ?_, by rw [List.length_drop]; exact hd1, hd2⟩, hg⟩
  · rw [heap_setCell_same _ _ _ _ _ _ hb, List.length_drop]; rfl
  · intro b o e h
    rw [hX h] at e
    obtain ⟨a, ha, e'⟩ := Option.map_eq_some_iff.1 e
    have h0 : l ≠ [] := by rintro rfl; simp at h
    obtain ⟨b', o', rfl, _, _⟩ := hr.at_ (List.length_pos_iff.2 h0)
    injection ha with ha
    subst ha
    rw [add_plain] at e'
    injection e' with e1 e2
    subst e1
    exact hne _ _ rfl h0

set_option maxRecDepth 100000 in
set_option maxHeartbeats 2000000 in
theorem take_ok (p n : Nat) (l : List UInt8) (w : World) (hR : IsR w p l 0) (hn : n ≤ l.length) :
    Calls Tryz.prog 104 #[.pointer (some ⟨p, 0, none⟩), .int .i64 n] w fun e w' => ∃ A, e = .returned (.tuple #[.slice A n n, .bool true]) ∧ Rd w' A (l.take n) ∧ IsR w' p (l.drop n) 0 ∧ Chg (At p) w w' := by
  have hw := rwhole_any p l 0 w hR
  obtain ⟨A, c, hb, hr, hc, hm⟩ := hR
  have h0 : w.cell? ⟨p, 0, none⟩ = some (.slice A l.length c) := by rw [cell_of_row _ _ _ _ _ _ hb]; rfl
  have f0 : w.frozen? ⟨p, 0, none⟩ = false := frozen_of_row _ _ _ _ _ hb
  have hne := rd_ne hb (fun x => by simp) hr
  have HB := Lib.hid hb
  have HW := Lib.hid hw
  clear hb hw
  unfold maxLen at hm
  have hd : decide ((n : Int) > l.length) = false := by simp; omega
  go_enter Tryz.func104, Tryz.ntmps104
  go_wp2_with fail
  refine HW.out.mono ?_
  rintro e w' ⟨rfl, rfl⟩
  by_cases hnl : n < l.length
  · have hcn : ¬ c = n := by omega
    go_wp2
    go_ret2
    have hcl := take_close HB.out hr hn hc (by unfold maxLen; omega) (A.map (·.add n)) (fun _ => rfl) (c - n) (by omega) (by unfold maxLen; omega)
    exact ⟨A, rfl, (hr.take n).keep hcl.2 (fun b o e h => hne b o e (take_ne h)), hcl⟩
  · have hcl := fun X d h1 h2 => take_close HB.out hr hn hc (by unfold maxLen; omega) X (fun h => absurd (List.drop_of_length_le (by omega)) h) d h1 h2
    have HCl := Lib.hid hcl
    clear hcl
    go_wp2
    all_goals
      go_ret2
      refine ⟨A, rfl, (hr.take n).keep ?_ (fun b o e h => hne b o e (take_ne h)), HCl.out _ _ (by omega) (by unfold maxLen; omega)⟩
      exact (Chg.refl (At p) _).setCell (p := ⟨p, 0, none⟩) (.inl rfl) _

set_option maxRecDepth 100000 in
set_option maxHeartbeats 2000000 in
theorem take_short (p n : Nat) (l : List UInt8) (w : World) (hR : IsR w p l 0) (hn : l.length < n) :
    Calls Tryz.prog 104 #[.pointer (some ⟨p, 0, none⟩), .int .i64 n] w fun e w' => e = .returned (.tuple #[.slice none 0 0, .bool false]) ∧ IsR w' p [] 50 ∧ Chg (At p) w w' := by
  have hw := rwhole_any p l 0 w hR
  have hbr := breaks_ok p l w hR
  obtain ⟨A, c, hb, hr, hc, hm⟩ := hR
  have h0 : w.cell? ⟨p, 0, none⟩ = some (.slice A l.length c) := by rw [cell_of_row _ _ _ _ _ _ hb]; rfl
  have HB := Lib.hid hb
  have HW := Lib.hid hw
  have HBr := Lib.hid hbr
  clear hb hw hbr
  have hd : decide ((n : Int) > l.length) = true := by simp; omega
  go_enter Tryz.func104, Tryz.ntmps104
  go_wp2_with fail
  refine HW.out.mono ?_
  rintro e w' ⟨rfl, rfl⟩
  go_wp2_with fail
  refine HBr.out.mono ?_
  rintro e w' ⟨rfl, hR, hg⟩
  go_wp2
  go_ret2
  exact ⟨rfl, hR, hg⟩

set_option maxRecDepth 100000 in
set_option maxHeartbeats 2000000 in
theorem take_broken (p : Nat) (n : Int) (l : List UInt8) (er : Int) (w : World) (hR : IsR w p l er) (he : er ≠ 0) :
    Calls Tryz.prog 104 #[.pointer (some ⟨p, 0, none⟩), .int .i64 n] w fun e w' => e = .returned (.tuple #[.slice none 0 0, .bool false]) ∧ w = w' := by
  have hw := rwhole_any p l er w hR
  rw [show (er == 0) = false by simpa using he] at hw
  have hbr := breaks_no p l er w hR he
  have HW := Lib.hid hw
  have HBr := Lib.hid hbr
  clear hw hbr
  go_enter Tryz.func104, Tryz.ntmps104
  go_wp2_with fail
  refine HW.out.mono ?_
  rintro e w' ⟨rfl, rfl⟩
  go_wp2_with fail
  refine HBr.out.mono ?_
  rintro e w' ⟨rfl, rfl⟩
  go_wp2
  go_ret2
  exact ⟨rfl, rfl⟩

/-! ### a number -/
def i64 (n : Nat) : Int := wrap64 n

set_option maxRecDepth 100000 in
set_option maxHeartbeats 2000000 in
theorem Int1_ok (A : Option Addr) (l : List UInt8) (w : World) (hr : Rd w A l) (hl : l.length = 8) :
    Calls Tryz.prog 83 #[.slice A 8 8] w fun e w' => e = .returned (.tuple #[.int .i64 (i64 (num l)), .bool true]) ∧ w = w' := by
  have hld := Load64_ok A l 8 w hr hl (by omega) (by omega)
  have e : i64 (num l) = wrap64 (num l : Nat) := rfl
  have HL := Lib.hid hld
  have HE := Lib.hid e
  clear hld e
  obtain ⟨x, hx⟩ : ∃ x, num l = x := ⟨_, rfl⟩
  rw [hx] at HL HE ⊢
  clear hx
  go_enter Tryz.func83, Tryz.ntmps83
  go_wp2_with fail
  refine HL.out.mono ?_
  rintro e w' ⟨rfl, rfl⟩
  go_wp2
  go_ret2
  rw [HE.out]
  exact ⟨rfl, rfl⟩

set_option maxRecDepth 100000 in
set_option maxHeartbeats 2000000 in
theorem fieldInt_ok (p : Nat) (l : List UInt8) (w : World) (hR : IsR w p l 0) (hn : 8 ≤ l.length) :
    Calls Tryz.prog 82 #[.pointer (some ⟨p, 0, none⟩), .int .i64 8, .func (.func 83) #[] #[]] w fun e w' => e = .returned (.int .i64 (i64 (num (l.take 8)))) ∧ IsR w' p (l.drop 8) 0 ∧ Chg (At p) w w' := by
  have ht := take_ok p 8 l w hR hn
  have HT := Lib.hid ht
  clear ht
  have hl8 : (l.take 8).length = 8 := by rw [List.length_take]; omega
  have HI := Lib.hid (fun A W h => Int1_ok A (l.take 8) W h hl8)
  clear hl8
  go_enter Tryz.func82, Tryz.ntmps82
  go_wp2_with fail
  refine HT.out.mono ?_
  rintro e w1 ⟨A, rfl, hr, hR1, hg⟩
  go_wp2_with fail
  refine (HI.out A w1 hr).mono ?_
  rintro e w2 ⟨rfl, rfl⟩
  go_wp2
  go_ret
  exact ⟨rfl, hR1, hg⟩

set_option maxRecDepth 100000 in
set_option maxHeartbeats 2000000 in
theorem fieldInt_short (p : Nat) (l : List UInt8) (w : World) (hR : IsR w p l 0) (hn : l.length < 8) :
    Calls Tryz.prog 82 #[.pointer (some ⟨p, 0, none⟩), .int .i64 8, .func (.func 83) #[] #[]] w fun e w' => e = .returned (.int .i64 0) ∧ IsR w' p [] 50 ∧ Chg (At p) w w' := by
  have ht := take_short p 8 l w hR hn
  have HT := Lib.hid ht
  clear ht
  go_enter Tryz.func82, Tryz.ntmps82
  go_wp2_with fail
  refine HT.out.mono ?_
  rintro e w1 ⟨rfl, hR1, hg⟩
  go_wp2
  go_ret
  exact ⟨rfl, hR1, hg⟩

set_option maxRecDepth 100000 in
set_option maxHeartbeats 2000000 in
theorem fieldInt_broken (p : Nat) (l : List UInt8) (er : Int) (w : World) (hR : IsR w p l er) (he : er ≠ 0) :
    Calls Tryz.prog 82 #[.pointer (some ⟨p, 0, none⟩), .int .i64 8, .func (.func 83) #[] #[]] w fun e w' => e = .returned (.int .i64 0) ∧ w = w' := by
  have ht := take_broken p 8 l er w hR he
  have HT := Lib.hid ht
  clear ht
  go_enter Tryz.func82, Tryz.ntmps82
  go_wp2_with fail
  refine HT.out.mono ?_
  rintro e w1 ⟨rfl, rfl⟩
  go_wp2
  go_ret
  exact ⟨rfl, rfl⟩

/-- what a number read off leaves: the number, what stands in front, the error -/
def rdInt (l : List UInt8) (er : Int) : Int × List UInt8 × Int :=
  if er = 0 then (if 8 ≤ l.length then (i64 (num (l.take 8)), l.drop 8, 0) else (0, [], 50)) else (0, l, er)

set_option maxRecDepth 100000 in
set_option maxHeartbeats 2000000 in
theorem RInt_any (p : Nat) (l : List UInt8) (er : Int) (w : World) (hR : IsR w p l er) :
    Calls Tryz.prog 54 #[.pointer (some ⟨p, 0, none⟩)] w fun e w' => e = .returned (.int .i64 (rdInt l er).1) ∧ IsR w' p (rdInt l er).2.1 (rdInt l er).2.2 ∧ Chg (At p) w w' := by
  have hf : Calls Tryz.prog 82 #[.pointer (some ⟨p, 0, none⟩), .int .i64 8, .func (.func 83) #[] #[]] w fun e w' => e = .returned (.int .i64 (rdInt l er).1) ∧ IsR w' p (rdInt l er).2.1 (rdInt l er).2.2 ∧ Chg (At p) w w' := by
    unfold rdInt
    by_cases he : er = 0
    · subst he
      by_cases hl : 8 ≤ l.length
      · simp only [hl, if_true]
        exact fieldInt_ok p l w hR hl
      · simp only [hl, if_true, if_false]
        exact fieldInt_short p l w hR (by omega)
    · simp only [he, if_false]
      refine (fieldInt_broken p l er w hR he).mono ?_
      rintro e w' ⟨rfl, rfl⟩
      exact ⟨rfl, hR, Chg.refl _ _⟩
  have HF := Lib.hid hf
  clear hf
  obtain ⟨⟨x, l', er'⟩, hq⟩ : ∃ q, rdInt l er = q := ⟨_, rfl⟩
  rw [hq] at HF ⊢
  clear hq
  go_enter Tryz.func54, Tryz.ntmps54
  go_wp2_with fail
  refine HF.out.mono ?_
  rintro e w1 ⟨rfl, hR1, hg⟩
  go_wp2
  go_ret
  exact ⟨rfl, hR1, hg⟩

set_option maxRecDepth 100000 in
set_option maxHeartbeats 2000000 in
theorem End_any (p : Nat) (l : List UInt8) (er : Int) (w : World) (hR : IsR w p l er) :
    Calls Tryz.prog 58 #[.pointer (some ⟨p, 0, none⟩)] w fun e w' => e = .returned (.int .i64 (if er = 0 ∧ l ≠ [] then 50 else er)) ∧ w = w' := by
  have hw := rwhole_any p l er w hR
  obtain ⟨A, c, hb, hr, hc, hm⟩ := hR
  have h0 : w.cell? ⟨p, 0, none⟩ = some (.slice A l.length c) := by rw [cell_of_row _ _ _ _ _ _ hb]; rfl
  have h1 : w.cell? ⟨p, 1, none⟩ = some (.bool true) := by rw [cell_of_row _ _ _ _ _ _ hb]; rfl
  have h2 : w.cell? ⟨p, 2, none⟩ = some (.int .i64 er) := by rw [cell_of_row _ _ _ _ _ _ hb]; rfl
  clear hb
  unfold maxLen at hm
  have HW := Lib.hid hw
  clear hw
  -- Left
  have hleft : Calls Tryz.prog 91 #[.pointer (some ⟨p, 0, none⟩)] w fun e w' => e = .returned (.int .i64 (if er = 0 then (l.length : Int) else 0)) ∧ w = w' := by
    by_cases he : er = 0
    · subst he
      go_enter Tryz.func91, Tryz.ntmps91
      go_wp2_with fail
      refine HW.out.mono ?_
      rintro e w1 ⟨rfl, rfl⟩
      go_wp2
      go_ret
      exact ⟨rfl, rfl⟩
    · have hd : (er == 0) = false := by simpa using he
      simp only [he, if_false]
      go_enter Tryz.func91, Tryz.ntmps91
      go_wp2_with fail
      refine HW.out.mono ?_
      rintro e w1 ⟨rfl, rfl⟩
      go_wp2
      go_ret
      exact ⟨rfl, rfl⟩
  have herr : Calls Tryz.prog 92 #[.pointer (some ⟨p, 0, none⟩)] w fun e w' => e = .returned (.int .i64 er) ∧ w = w' := by
    go_enter Tryz.func92, Tryz.ntmps92
    go_wp2
    go_ret
    exact ⟨rfl, rfl⟩
  have HL := Lib.hid hleft
  have HE := Lib.hid herr
  clear hleft herr
  by_cases hq : er = 0 ∧ l ≠ []
  · rw [if_pos hq]
    obtain ⟨rfl, hne⟩ := hq
    have hpos : 0 < l.length := List.length_pos_iff.2 hne
    simp only [if_true] at HL
    go_enter Tryz.func58, Tryz.ntmps58
    go_wp2_with fail
    refine HL.out.mono ?_
    rintro e w1 ⟨rfl, rfl⟩
    go_wp2
    go_ret
    exact ⟨rfl, rfl⟩
  · rw [if_neg hq]
    have hz : (if er = 0 then (l.length : Int) else 0) = 0 := by
      by_cases he : er = 0
      · subst he
        have : l = [] := by
          rcases l with _ | ⟨x, r⟩
          · rfl
          · exact absurd ⟨rfl, by simp⟩ hq
        subst this
        rfl
      · simp [he]
    rw [hz] at HL
    clear hq hz
    go_enter Tryz.func58, Tryz.ntmps58
    go_wp2_with fail
    refine HL.out.mono ?_
    rintro e w1 ⟨rfl, rfl⟩
    go_wp2_with fail
    refine HE.out.mono ?_
    rintro e w1 ⟨rfl, rfl⟩
    go_wp2
    go_ret
    exact ⟨rfl, rfl⟩

set_option maxRecDepth 100000 in
set_option maxHeartbeats 2000000 in
theorem NewReader_ok (A : Option Addr) (l : List UInt8) (c : Nat) (w : World) (hr : Rd w A l) (hl : l.length ≤ 65536) :
    Calls Tryz.prog 53 #[.slice A l.length c] w fun e w' => e = .returned (.pointer (some ⟨w.heap.size, 0, none⟩)) ∧ IsR w' w.heap.size l 0 ∧ Chg Non w w' := by
  have hd : decide ((l.length : Int) > 65536) = false := by simp; omega
  go_enter Tryz.func53, Tryz.ntmps53
  go_wp2_with fail
  refine (Cat1 A l c _ _ _ (by simp) (hr.non ((Chg.refl _ _).alloc _)) (by omega)).mono ?_
  rintro e w1 ⟨A1, c1, rfl, hc1, hm1, ho1, hg1⟩
  have hb1 : w1.heap[w.heap.size]? = some (.cells #[.slice none 0 0, .bool true, .int .i64 0] 109 (0, 0)) := (hg1.block _ (by simp) (fun e => e)).trans (heap_alloc_new _ _)
  have h0 : w1.cell? ⟨w.heap.size, 0, none⟩ = some (.slice none 0 0) := by rw [cell_of_row _ _ _ _ _ _ hb1]; rfl
  have f0 : w1.frozen? ⟨w.heap.size, 0, none⟩ = false := frozen_of_row _ _ _ _ _ hb1
  have HB := Lib.hid hb1
  clear hb1
  have hsz : w.heap.size < w1.heap.size := by have := hg1.size; simp at this; omega
  go_wp2
  go_ret
  have hgs : Chg (At w.heap.size) w1 (w1.setCell ⟨w.heap.size, 0, none⟩ (.slice A1 l.length c1)) := (Chg.refl (At w.heap.size) _).setCell (p := ⟨w.heap.size, 0, none⟩) (.inl rfl) _
  refine ⟨rfl, ⟨A1, c1, ?_, ho1.rd.keep hgs ?_, hc1, hm1⟩, ?_⟩
  · rw [heap_setCell_same _ _ _ _ _ _ HB.out]; rfl
  · rintro b o rfl hne h
    have := ho1.ge hne
    simp at this
    unfold At at h
    omega
  · exact (((Chg.refl Non w).alloc _).then_non hg1).setCell (.inr (Nat.le_refl _)) _
end Go.Proofs.YtgmpacndjmmgjaaGreat
end
