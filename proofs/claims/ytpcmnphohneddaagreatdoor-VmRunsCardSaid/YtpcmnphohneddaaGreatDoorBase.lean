/- Frames and bytes: plain predicates on worlds. No program in sight. -/
import Derived.WalkKit
import Derived.WalkSpells
import Derived.WalkLawsBesides
import Derived.Deep.Draws
import Derived.Lib.Hide
import Derived.Deep.QuietTactic
import Derived.BigQuiet
import Derived.IntWalk
namespace Go.Proofs.YtpcmnphohneddaaGreatDoor
open Go.RowKit

/-- w' is w, but for the blocks of S and new ones. -/
structure Chg (S : Nat → Prop) (w w' : World) : Prop where
  os : w'.os = w.os
  tape : w'.tape = w.tape
  output : w'.output = w.output
  size : w.heap.size ≤ w'.heap.size
  block : ∀ k, k < w.heap.size → ¬ S k → w'.heap[k]? = w.heap[k]?

def Non : Nat → Prop := fun _ => False

namespace Chg
variable {S T U : Nat → Prop} {a b c w w' : World}
theorem refl (S : Nat → Prop) (w : World) : Chg S w w := ⟨rfl, rfl, rfl, Nat.le_refl _, fun _ _ _ => rfl⟩
theorem trans (h : Chg S a b) (k : Chg T b c) (hS : ∀ x, S x → U x) (hT : ∀ x, x < a.heap.size → T x → U x) : Chg U a c :=
  ⟨k.os.trans h.os, k.tape.trans h.tape, k.output.trans h.output, Nat.le_trans h.size k.size, fun i hi hn =>
    (k.block i (Nat.lt_of_lt_of_le hi h.size) (fun e => hn (hT i hi e))).trans (h.block i hi (fun e => hn (hS i e)))⟩
theorem trans_same (h : Chg S a b) (k : Chg S b c) : Chg S a c := h.trans k (fun _ h => h) (fun _ _ h => h)
/-- what comes behind changes none of the old -/
theorem then_non (h : Chg S a b) (k : Chg Non b c) : Chg S a c := h.trans k (fun _ h => h) (fun _ _ h => h.elim)
theorem non_then (h : Chg Non a b) (k : Chg S b c) : Chg S a c := h.trans k (fun _ h => h.elim) (fun _ _ h => h)
/-- what comes behind changes only what is new -/
theorem then_new (h : Chg S a b) (k : Chg T b c) (hT : ∀ x, T x → a.heap.size ≤ x) : Chg S a c := h.trans k (fun _ h => h) (fun x hx h => absurd (hT x h) (by omega))
theorem mono (h : Chg S a b) (hS : ∀ x, S x → T x) : Chg T a b := ⟨h.os, h.tape, h.output, h.size, fun i hi hn => h.block i hi (fun e => hn (hS i e))⟩
theorem of_non (h : Chg Non a b) : Chg S a b := h.mono fun _ e => e.elim
theorem drew (h : Chg S a w) : Chg S a w.drew := ⟨h.os, h.tape, h.output, h.size, h.block⟩
theorem drewN (h : Chg S a w) (n : Nat) : Chg S a (w.drewN n) := ⟨h.os, h.tape, h.output, h.size, h.block⟩
theorem alloc (h : Chg S a w) (o : Obj) : Chg S a (w.alloc o) :=
  ⟨h.os, h.tape, h.output, Nat.le_trans h.size (by simp), fun i hi hn => (Below.heap_alloc w o i (Nat.lt_of_lt_of_le hi h.size)).trans (h.block i hi hn)⟩
theorem setCell (h : Chg S a w) {p : Addr} (hp : S p.block ∨ a.heap.size ≤ p.block) (u : Value) : Chg S a (w.setCell p u) :=
  ⟨h.os, h.tape, h.output, by simpa [World.setCell] using h.size, fun i hi hn => (Below.heap_setCell w p u i (by
    rintro rfl
    rcases hp with hp | hp
    · exact hn hp
    · omega)).trans (h.block i hi hn)⟩
theorem setRow (h : Chg S a w) {g : Nat} (hp : S g ∨ a.heap.size ≤ g) (cs : Array Value) : Chg S a (w.setRow g cs) :=
  ⟨h.os, h.tape, h.output, by simpa [World.setRow] using h.size, fun i hi hn => (setRow_other w g i cs (by
    rintro rfl
    rcases hp with hp | hp
    · exact hn hp
    · omega)).trans (h.block i hi hn)⟩
theorem of_below {B : Nat} (h : Below B w w') (hB : w.heap.size ≤ B) : Chg S w w' := ⟨h.os, h.tape, h.output, h.size, fun i hi _ => h.block i (by omega)⟩
theorem below {B : Nat} (h : Chg S w w') (hS : ∀ k, S k → B ≤ k) (hB : B ≤ w.heap.size) : Below B w w' :=
  ⟨h.os, h.tape, h.output, h.size, fun i hi => h.block i (by omega) (fun e => absurd (hS i e) (by omega))⟩
theorem below_non (h : Chg Non w w') : Below w.heap.size w w' := h.below (fun _ e => e.elim) (Nat.le_refl _)
theorem grown {row : Option Nat} (h : Chg S a w) (hg : w.grownBy w' row) (hr : ∀ g, row = some g → S g ∨ a.heap.size ≤ g) : Chg S a w' :=
  ⟨hg.os.trans h.os, hg.tape.trans h.tape, hg.output.trans h.output, Nat.le_trans h.size hg.size, fun i hi hn =>
    (hg.block i (Nat.lt_of_lt_of_le hi h.size) (fun e => by
      rcases hr i e.symm with h' | h'
      · exact hn h'
      · omega)).trans (h.block i hi hn)⟩
theorem cell (h : Chg S w w') {p : Addr} (hp : p.block < w.heap.size) (hn : ¬ S p.block) : w'.cell? p = w.cell? p := World.cell?_of_block (h.block p.block hp hn)
theorem frozen (h : Chg S w w') {p : Addr} (hp : p.block < w.heap.size) (hn : ¬ S p.block) : w'.frozen? p = w.frozen? p := World.frozen?_of_block (h.block p.block hp hn)
end Chg

theorem lt_of_cell {w : World} {p : Addr} {v : Value} (h : w.cell? p = some v) : p.block < w.heap.size := by
  rcases Nat.lt_or_ge p.block w.heap.size with hlt | hge
  · exact hlt
  · simp [World.cell?, Array.getElem?_eq_none hge] at h

theorem Chg.cell_some {S : Nat → Prop} {w w' : World} (h : Chg S w w') {p : Addr} {v : Value} (hc : w.cell? p = some v) (hn : ¬ S p.block) : w'.cell? p = some v :=
  (h.cell (lt_of_cell hc) hn).trans hc

/-- a byte as a value -/
def bv (x : UInt8) : Value := .int .u8 (x.toNat : Int)

/-- the slice that begins at A holds the bytes l -/
def Rd (w : World) (A : Option Addr) (l : List UInt8) : Prop :=
  ∀ (i : Nat) (x : UInt8), l[i]? = some x → ∃ b o, A = some ⟨b, o, none⟩ ∧ w.cell? ⟨b, o + i, none⟩ = some (.int .u8 (x.toNat : Int))

theorem Rd.nil (w : World) (A : Option Addr) : Rd w A [] := fun i x h => by simp at h

theorem Rd.at_ {w : World} {A : Option Addr} {l : List UInt8} (h : Rd w A l) (h0 : 0 < l.length) :
    ∃ b o, A = some ⟨b, o, none⟩ ∧ b < w.heap.size ∧ ∀ i (hi : i < l.length), w.cell? ⟨b, o + i, none⟩ = some (.int .u8 (l[i].toNat : Int)) := by
  obtain ⟨b, o, rfl, hc⟩ := h 0 l[0] (List.getElem?_eq_getElem h0)
  refine ⟨b, o, rfl, lt_of_cell hc, fun i hi => ?_⟩
  obtain ⟨b', o', e, hc'⟩ := h i l[i] (List.getElem?_eq_getElem hi)
  simp only [Option.some.injEq, Addr.mk.injEq, and_true] at e
  obtain ⟨rfl, rfl⟩ := e
  exact hc'

theorem Rd.of_at {w : World} {b o : Nat} {l : List UInt8} (h : ∀ i (hi : i < l.length), w.cell? ⟨b, o + i, none⟩ = some (.int .u8 (l[i].toNat : Int))) : Rd w (some ⟨b, o, none⟩) l := by
  intro i x hx
  obtain ⟨hi, rfl⟩ := List.getElem?_eq_some_iff.1 hx
  exact ⟨b, o, rfl, h i hi⟩

theorem Rd.keep {S : Nat → Prop} {w w' : World} {A : Option Addr} {l : List UInt8} (h : Rd w A l) (hc : Chg S w w') (hn : ∀ b o, A = some ⟨b, o, none⟩ → l ≠ [] → ¬ S b) : Rd w' A l := by
  intro i x hx
  obtain ⟨b, o, rfl, hcell⟩ := h i x hx
  exact ⟨b, o, rfl, hc.cell_some hcell (hn b o rfl (by rintro rfl; simp at hx))⟩

theorem Rd.non {w w' : World} {A : Option Addr} {l : List UInt8} (h : Rd w A l) (hc : Chg Non w w') : Rd w' A l := h.keep hc fun _ _ _ _ e => e.elim

theorem Rd.drop {w : World} {b o : Nat} {l : List UInt8} (h : Rd w (some ⟨b, o, none⟩) l) (k : Nat) : Rd w (some ⟨b, o + k, none⟩) (l.drop k) := by
  intro i x hx
  rw [List.getElem?_drop] at hx
  obtain ⟨b', o', e, hc⟩ := h (k + i) x hx
  simp only [Option.some.injEq, Addr.mk.injEq, and_true] at e
  obtain ⟨rfl, rfl⟩ := e
  exact ⟨b, o + k, rfl, by rw [Nat.add_assoc]; exact hc⟩

theorem Rd.take {w : World} {A : Option Addr} {l : List UInt8} (h : Rd w A l) (k : Nat) : Rd w A (l.take k) := by
  intro i x hx
  have hk : i < k := by have := (List.getElem?_eq_some_iff.1 hx).1; rw [List.length_take] at this; omega
  rw [List.getElem?_take_of_lt hk] at hx
  exact h i x hx

/-- the slice that begins at A holds the bytes l, in a block from B on, and may be written -/
def Own (B : Nat) (w : World) (A : Option Addr) (l : List UInt8) : Prop :=
  ∀ (i : Nat) (x : UInt8), l[i]? = some x → ∃ b o, A = some ⟨b, o, none⟩ ∧ B ≤ b ∧ w.cell? ⟨b, o + i, none⟩ = some (.int .u8 (x.toNat : Int)) ∧ w.frozen? ⟨b, o + i, none⟩ = false

theorem Own.rd {B : Nat} {w : World} {A : Option Addr} {l : List UInt8} (h : Own B w A l) : Rd w A l := fun i x hx => by
  obtain ⟨b, o, e, _, hc, _⟩ := h i x hx
  exact ⟨b, o, e, hc⟩
theorem Own.nil (B : Nat) (w : World) (A : Option Addr) : Own B w A [] := fun i x h => by simp at h
theorem Own.mono {B B' : Nat} {w : World} {A : Option Addr} {l : List UInt8} (h : Own B w A l) (hB : B' ≤ B) : Own B' w A l := fun i x hx => by
  obtain ⟨b, o, e, hb, hc, hf⟩ := h i x hx
  exact ⟨b, o, e, by omega, hc, hf⟩
theorem Own.keep {S : Nat → Prop} {B : Nat} {w w' : World} {A : Option Addr} {l : List UInt8} (h : Own B w A l) (hc : Chg S w w') (hn : ∀ b o, A = some ⟨b, o, none⟩ → B ≤ b → l ≠ [] → ¬ S b) : Own B w' A l := by
  intro i x hx
  obtain ⟨b, o, rfl, hb, hcell, hf⟩ := h i x hx
  have hne := hn b o rfl hb (by rintro rfl; simp at hx)
  exact ⟨b, o, rfl, hb, hc.cell_some hcell hne, (hc.frozen (lt_of_cell hcell) hne).trans hf⟩
theorem Own.non {B : Nat} {w w' : World} {A : Option Addr} {l : List UInt8} (h : Own B w A l) (hc : Chg Non w w') : Own B w' A l := h.keep hc fun _ _ _ _ _ e => e.elim
theorem Own.ge {B : Nat} {w : World} {b o : Nat} {l : List UInt8} (h : Own B w (some ⟨b, o, none⟩) l) (h0 : l ≠ []) : B ≤ b := by
  obtain ⟨x, r, rfl⟩ := List.exists_cons_of_ne_nil h0
  obtain ⟨b', o', e, hb, _⟩ := h 0 x rfl
  simp only [Option.some.injEq, Addr.mk.injEq, and_true] at e
  obtain ⟨rfl, rfl⟩ := e
  exact hb

theorem own_new (w : World) (t : TypeId) (cs : Array Value) (l : List UInt8) (h : cs.toList = l.map bv) : Own w.heap.size (w.alloc (.cells cs t)) (some ⟨w.heap.size, 0, none⟩) l := by
  intro i x hx
  have hb : (w.alloc (.cells cs t)).heap[w.heap.size]? = some (.cells cs t (0, 0)) := (MapKept.heap_alloc w _).1
  have hc : cs[i]? = some (bv x) := by
    rw [← Array.getElem?_toList, h, List.getElem?_map, hx]; rfl
  exact ⟨w.heap.size, 0, rfl, Nat.le_refl _, by rw [Nat.zero_add]; simp only [World.cell?]; rw [hb]; exact hc, by simp only [World.frozen?]; rw [hb]; simp⟩

/-- a call hands back new bytes of its own; nothing that was there has turned -/
def RetB (w : World) (l : List UInt8) (e : Ending) (w' : World) : Prop :=
  ∃ A c, e = .returned (.slice A l.length c) ∧ l.length ≤ c ∧ c ≤ maxLen ∧ Own w.heap.size w' A l ∧ Chg Non w w'

theorem RetB.from {w w1 w' : World} {l : List UInt8} {e : Ending} (h : RetB w1 l e w') (hg : Chg Non w w1) : RetB w l e w' := by
  obtain ⟨A, c, he, hc, hm, ho, hg'⟩ := h
  exact ⟨A, c, he, hc, hm, ho.mono hg.size, hg.then_non hg'⟩

theorem quiet_left {P : Program} {f : FuncId} {args : Array Value} {w : World} {n : Nat} {v : Value}
    (h : Calls P f args (w.drewN n) fun e w' => e = .returned v ∧ w.drewN n = w') : Calls P f args (w.drewN n) fun e w'' => e = .returned v ∧ ∃ m, w'' = w.drewN m :=
  h.mono fun _ _ ⟨he, hm⟩ => ⟨he, n, hm.symm⟩
theorem quiet_add_left {P : Program} {f : FuncId} {args : Array Value} {w : World} {a n : Nat} {v : Value}
    (h : Calls P f args (w.drewN (a + n)) fun e w' => e = .returned v ∧ w.drewN (a + n) = w') :
    Calls P f args (w.drewN (a + n)) fun e w'' => e = .returned v ∧ ∃ m, w'' = w.drewN (a + m) :=
  h.mono fun _ _ ⟨he, hm⟩ => ⟨he, n, hm.symm⟩
theorem Rd.drewN {w : World} {A : Option Addr} {l : List UInt8} (h : Rd w A l) (n : Nat) : Rd (w.drewN n) A l := h

end Go.Proofs.YtpcmnphohneddaaGreatDoor
