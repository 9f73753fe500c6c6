/- KernelTime, part 1 of 28: contracts of the functions that it reaches, and the laws that they need, merged and shortened (from my texts XBase, XDeep, XIsaP, XVmP, XAny, XHeld, XMini, XGen, XIsa1, XIsa2, XIsa3). -/
import Derived.WalkKit
import Derived.WalkSpells
import Derived.WalkLawsBesides
import Derived.Deep.Draws
import Derived.Lib.Hide
import Derived.Deep.QuietTactic
import Derived.BigQuiet
import Derived.IntWalk
import Derived.Deep.MidRow
import Derived.Lib.AtoiAll
import Derived.Lib.ItoaNum
import Derived.Lib.Split
import Derived.Lib.SplitLaws
import Derived.Lib.Join
import Derived.RegionTactic
import Derived.Deep.RegionHeld3
import Derived.Test.YtmnaleaghfbclaaGreatDoorRows
namespace Go.Proofs.YtmnaleaghfbclaaGreatDoor
set_option linter.unusedVariables false
set_option linter.unusedSimpArgs false
set_option maxHeartbeats 8000000
section
open Go.RowKit
structure Chg (S : Nat → Prop) (w w' : World) : Prop where
 os : w'.os = w.os
 tape : w'.tape = w.tape
 output : w'.output = w.output
 size : w.heap.size ≤ w'.heap.size
 block : ∀ k, k < w.heap.size → ¬ S k → w'.heap[k]? = w.heap[k]?
def Non : Nat → Prop := fun _ => False
namespace Chg
variable {S T U : Nat → Prop} {a b c w w' : World}
theorem refl (S : Nat → Prop) (w : World) : Chg S w w := ⟨rfl, rfl, rfl, Nat.le_refl _, fun _ _ _ => rfl⟩
theorem trans (h : Chg S a b) (k : Chg T b c) (hS : ∀ x, S x → U x) (hT : ∀ x, x < a.heap.size → T x → U x) : Chg U a c :=
 ⟨k.os.trans h.os, k.tape.trans h.tape, k.output.trans h.output, Nat.le_trans h.size k.size, fun i hi hn =>
   (k.block i (Nat.lt_of_lt_of_le hi h.size) (fun e => hn (hT i hi e))).trans (h.block i hi (fun e => hn (hS i e)))⟩
theorem trans_same (h : Chg S a b) (k : Chg S b c) : Chg S a c := h.trans k (fun _ h => h) (fun _ _ h => h)
theorem then_non (h : Chg S a b) (k : Chg Non b c) : Chg S a c := h.trans k (fun _ h => h) (fun _ _ h => h.elim)
theorem non_then (h : Chg Non a b) (k : Chg S b c) : Chg S a c := h.trans k (fun _ h => h.elim) (fun _ _ h => h)
theorem then_new (h : Chg S a b) (k : Chg T b c) (hT : ∀ x, T x → a.heap.size ≤ x) : Chg S a c := h.trans k (fun _ h => h) (fun x hx h => absurd (hT x h) (by omega))
theorem mono (h : Chg S a b) (hS : ∀ x, S x → T x) : Chg T a b := ⟨h.os, h.tape, h.output, h.size, fun i hi hn => h.block i hi (fun e => hn (hS i e))⟩
theorem of_non (h : Chg Non a b) : Chg S a b := h.mono fun _ e => e.elim
theorem drew (h : Chg S a w) : Chg S a w.drew := ⟨h.os, h.tape, h.output, h.size, h.block⟩
theorem drewN (h : Chg S a w) (n : Nat) : Chg S a (w.drewN n) := ⟨h.os, h.tape, h.output, h.size, h.block⟩
theorem alloc (h : Chg S a w) (o : Obj) : Chg S a (w.alloc o) :=
 ⟨h.os, h.tape, h.output, Nat.le_trans h.size (by simp), fun i hi hn => (Below.heap_alloc w o i (Nat.lt_of_lt_of_le hi h.size)).trans (h.block i hi hn)⟩
theorem setCell (h : Chg S a w) {p : Addr} (hp : S p.block ∨ a.heap.size ≤ p.block) (u : Value) : Chg S a (w.setCell p u) :=
 ⟨h.os, h.tape, h.output, by simpa [World.setCell] using h.size, fun i hi hn => (Below.heap_setCell w p u i (by
   rintro rfl
   rcases hp with hp | hp
   · exact hn hp
   · omega)).trans (h.block i hi hn)⟩
theorem setRow (h : Chg S a w) {g : Nat} (hp : S g ∨ a.heap.size ≤ g) (cs : Array Value) : Chg S a (w.setRow g cs) :=
 ⟨h.os, h.tape, h.output, by simpa [World.setRow] using h.size, fun i hi hn => (setRow_other w g i cs (by
   rintro rfl
   rcases hp with hp | hp
   · exact hn hp
   · omega)).trans (h.block i hi hn)⟩
theorem of_below {B : Nat} (h : Below B w w') (hB : w.heap.size ≤ B) : Chg S w w' := ⟨h.os, h.tape, h.output, h.size, fun i hi _ => h.block i (by omega)⟩
theorem below {B : Nat} (h : Chg S w w') (hS : ∀ k, S k → B ≤ k) (hB : B ≤ w.heap.size) : Below B w w' :=
 ⟨h.os, h.tape, h.output, h.size, fun i hi => h.block i (by omega) (fun e => absurd (hS i e) (by omega))⟩
theorem below_non (h : Chg Non w w') : Below w.heap.size w w' := h.below (fun _ e => e.elim) (Nat.le_refl _)
theorem grown {row : Option Nat} (h : Chg S a w) (hg : w.grownBy w' row) (hr : ∀ g, row = some g → S g ∨ a.heap.size ≤ g) : Chg S a w' :=
 ⟨hg.os.trans h.os, hg.tape.trans h.tape, hg.output.trans h.output, Nat.le_trans h.size hg.size, fun i hi hn =>
   (hg.block i (Nat.lt_of_lt_of_le hi h.size) (fun e => by
     rcases hr i e.symm with h' | h'
     · exact hn h'
     · omega)).trans (h.block i hi hn)⟩
theorem cell (h : Chg S w w') {p : Addr} (hp : p.block < w.heap.size) (hn : ¬ S p.block) : w'.cell? p = w.cell? p := World.cell?_of_block (h.block p.block hp hn)
theorem frozen (h : Chg S w w') {p : Addr} (hp : p.block < w.heap.size) (hn : ¬ S p.block) : w'.frozen? p = w.frozen? p := World.frozen?_of_block (h.block p.block hp hn)
end Chg
theorem lt_of_cell {w : World} {p : Addr} {v : Value} (h : w.cell? p = some v) : p.block < w.heap.size := by
 rcases Nat.lt_or_ge p.block w.heap.size with hlt | hge
 ·exact hlt
 ·simp [World.cell?, Array.getElem?_eq_none hge] at h
theorem Chg.cell_some {S : Nat → Prop} {w w' : World} (h : Chg S w w') {p : Addr} {v : Value} (hc : w.cell? p = some v) (hn : ¬ S p.block) : w'.cell? p = some v :=
 (h.cell (lt_of_cell hc) hn).trans hc
def bv (x : UInt8) : Value := .int .u8 (x.toNat : Int)
def Rd (w : World) (A : Option Addr) (l : List UInt8) : Prop :=
 ∀ (i : Nat) (x : UInt8), l[i]? = some x → ∃ b o, A = some ⟨b, o, none⟩ ∧ w.cell? ⟨b, o + i, none⟩ = some (.int .u8 (x.toNat : Int))
theorem Rd.nil (w : World) (A : Option Addr) : Rd w A [] := fun i x h => by simp at h
theorem Rd.at_ {w : World} {A : Option Addr} {l : List UInt8} (h : Rd w A l) (h0 : 0 < l.length) :
  ∃ b o, A = some ⟨b, o, none⟩ ∧ b < w.heap.size ∧ ∀ i (hi : i < l.length), w.cell? ⟨b, o + i, none⟩ = some (.int .u8 (l[i].toNat : Int)) := by
 obtain ⟨b, o, rfl, hc⟩ := h 0 l[0] (List.getElem?_eq_getElem h0)
 refine ⟨b, o, rfl, lt_of_cell hc, fun i hi => ?_⟩
 obtain ⟨b', o', e, hc'⟩ := h i l[i] (List.getElem?_eq_getElem hi)
 simp only [Option.some.injEq, Addr.mk.injEq, and_true] at e
 obtain ⟨rfl, rfl⟩ := e
 exact hc'
theorem Rd.keep {S : Nat → Prop} {w w' : World} {A : Option Addr} {l : List UInt8} (h : Rd w A l) (hc : Chg S w w') (hn : ∀ b o, A = some ⟨b, o, none⟩ → l ≠ [] → ¬ S b) : Rd w' A l := by
 intro i x hx
 obtain ⟨b, o, rfl, hcell⟩ := h i x hx
 exact ⟨b, o, rfl, hc.cell_some hcell (hn b o rfl (by rintro rfl; simp at hx))⟩
theorem Rd.non {w w' : World} {A : Option Addr} {l : List UInt8} (h : Rd w A l) (hc : Chg Non w w') : Rd w' A l := h.keep hc fun _ _ _ _ e => e.elim
theorem Rd.drop {w : World} {b o : Nat} {l : List UInt8} (h : Rd w (some ⟨b, o, none⟩) l) (k : Nat) : Rd w (some ⟨b, o + k, none⟩) (l.drop k) := by
 intro i x hx
 rw [List.getElem?_drop] at hx
 obtain ⟨b', o', e, hc⟩ := h (k + i) x hx
 simp only [Option.some.injEq, Addr.mk.injEq, and_true] at e
 obtain ⟨rfl, rfl⟩ := e
 exact ⟨b, o + k, rfl, by rw [Nat.add_assoc]; exact hc⟩
theorem Rd.take {w : World} {A : Option Addr} {l : List UInt8} (h : Rd w A l) (k : Nat) : Rd w A (l.take k) := by
 intro i x hx
 have hk : i < k := by have := (List.getElem?_eq_some_iff.1 hx).1; rw [List.length_take] at this; omega
 rw [List.getElem?_take_of_lt hk] at hx
 exact h i x hx
def Own (B : Nat) (w : World) (A : Option Addr) (l : List UInt8) : Prop :=
 ∀ (i : Nat) (x : UInt8), l[i]? = some x → ∃ b o, A = some ⟨b, o, none⟩ ∧ B ≤ b ∧ w.cell? ⟨b, o + i, none⟩ = some (.int .u8 (x.toNat : Int)) ∧ w.frozen? ⟨b, o + i, none⟩ = false
theorem Own.rd {B : Nat} {w : World} {A : Option Addr} {l : List UInt8} (h : Own B w A l) : Rd w A l := fun i x hx => by
 obtain ⟨b, o, e, _, hc, _⟩ := h i x hx
 exact ⟨b, o, e, hc⟩
theorem Own.nil (B : Nat) (w : World) (A : Option Addr) : Own B w A [] := fun i x h => by simp at h
theorem Own.mono {B B' : Nat} {w : World} {A : Option Addr} {l : List UInt8} (h : Own B w A l) (hB : B' ≤ B) : Own B' w A l := fun i x hx => by
 obtain ⟨b, o, e, hb, hc, hf⟩ := h i x hx
 exact ⟨b, o, e, by omega, hc, hf⟩
theorem Own.keep {S : Nat → Prop} {B : Nat} {w w' : World} {A : Option Addr} {l : List UInt8} (h : Own B w A l) (hc : Chg S w w') (hn : ∀ b o, A = some ⟨b, o, none⟩ → B ≤ b → l ≠ [] → ¬ S b) : Own B w' A l := by
 intro i x hx
 obtain ⟨b, o, rfl, hb, hcell, hf⟩ := h i x hx
 have hne := hn b o rfl hb (by rintro rfl; simp at hx)
 exact ⟨b, o, rfl, hb, hc.cell_some hcell hne, (hc.frozen (lt_of_cell hcell) hne).trans hf⟩
theorem Own.non {B : Nat} {w w' : World} {A : Option Addr} {l : List UInt8} (h : Own B w A l) (hc : Chg Non w w') : Own B w' A l := h.keep hc fun _ _ _ _ _ e => e.elim
theorem Own.ge {B : Nat} {w : World} {b o : Nat} {l : List UInt8} (h : Own B w (some ⟨b, o, none⟩) l) (h0 : l ≠ []) : B ≤ b := by
 obtain ⟨x, r, rfl⟩ := List.exists_cons_of_ne_nil h0
 obtain ⟨b', o', e, hb, _⟩ := h 0 x rfl
 simp only [Option.some.injEq, Addr.mk.injEq, and_true] at e
 obtain ⟨rfl, rfl⟩ := e
 exact hb
def RetB (w : World) (l : List UInt8) (e : Ending) (w' : World) : Prop :=
 ∃ A c, e = .returned (.slice A l.length c) ∧ l.length ≤ c ∧ c ≤ maxLen ∧ Own w.heap.size w' A l ∧ Chg Non w w'
end
section
open Go.RowKit
def From (B : Nat) : Nat → Prop := fun b => B ≤ b
def Upto (B : Nat) : Nat → Prop := fun b => b < B
theorem range_keepS {S : Nat → Prop} {w w' : World} {b o : Nat} {vs : List Value} (h : w.rangeAt b o vs) (hg : Chg S w w') (hn : ¬ S b) : w'.rangeAt b o vs := fun j v hv => hg.cell_some (h j v hv) hn
def RdL {α : Type} (R : World → α → List Value → Prop) (I : Nat → Prop) (sz : Nat) (w : World) (A : Option Addr) (l : List α) : Prop :=
 ∀ (i : Nat) (a : α), l[i]? = some a → ∃ b o vs, A = some ⟨b, o, none⟩ ∧ I b ∧ vs.length = sz ∧ w.rangeAt b (o + i * sz) vs ∧ R w a vs
namespace RdL
variable {α : Type} {R R' : World → α → List Value → Prop} {I I' S : Nat → Prop} {sz : Nat} {w w' : World} {A : Option Addr} {l : List α}
theorem nil (R : World → α → List Value → Prop) (I : Nat → Prop) (sz : Nat) (w : World) (A : Option Addr) : RdL R I sz w A [] := fun i a h => by simp at h
theorem keep (h : RdL R I sz w A l) (hg : Chg S w w') (hI : ∀ b, I b → ¬ S b) (hR : ∀ a vs, a ∈ l → R w a vs → R w' a vs) : RdL R I sz w' A l := by
 intro i a ha
 obtain ⟨b, o, vs, e, hb, hl, hc, hr⟩ := h i a ha
 exact ⟨b, o, vs, e, hb, hl, range_keepS hc hg (hI b hb), hR a vs (List.mem_of_getElem? ha) hr⟩
theorem non (h : RdL R I sz w A l) (hg : Chg Non w w') (hR : ∀ a vs, R w a vs → R w' a vs) : RdL R I sz w' A l := h.keep hg (fun _ _ e => e) (fun a vs _ => hR a vs)
theorem mono (h : RdL R I sz w A l) (hI : ∀ b, I b → I' b) (hR : ∀ a vs, a ∈ l → R w a vs → R' w a vs) : RdL R' I' sz w A l := by
 intro i a ha
 obtain ⟨b, o, vs, e, hb, hl, hc, hr⟩ := h i a ha
 exact ⟨b, o, vs, e, hI b hb, hl, hc, hR a vs (List.mem_of_getElem? ha) hr⟩
theorem at_ (h : RdL R I sz w A l) (h0 : 0 < l.length) : ∃ b o, A = some ⟨b, o, none⟩ ∧ I b ∧ ∀ i a, l[i]? = some a → ∃ vs, vs.length = sz ∧ w.rangeAt b (o + i * sz) vs ∧ R w a vs := by
 obtain ⟨b, o, vs, rfl, hb, _⟩ := h 0 l[0] (List.getElem?_eq_getElem h0)
 refine ⟨b, o, rfl, hb, fun i a ha => ?_⟩
 obtain ⟨b', o', vs', e, hb', hl, hc, hr⟩ := h i a ha
 injection e with e
 injection e with e1 e2 _
 subst e1 e2
 exact ⟨vs', hl, hc, hr⟩
theorem drop {b o : Nat} (h : RdL R I sz w (some ⟨b, o, none⟩) l) (k : Nat) : RdL R I sz w (some ⟨b, o + k * sz, none⟩) (l.drop k) := by
 intro i a ha
 rw [List.getElem?_drop] at ha
 obtain ⟨b', o', vs, e, hb, hl, hc, hr⟩ := h (k + i) a ha
 injection e with e
 injection e with e1 e2 _
 subst e1 e2
 exact ⟨_, _, vs, rfl, hb, hl, by rw [Nat.add_assoc, ← Nat.add_mul]; exact hc, hr⟩
end RdL
def SlV {α : Type} (R : World → α → List Value → Prop) (I : Nat → Prop) (sz : Nat) (w : World) (l : List α) (v : Value) : Prop :=
 ∃ A c, v = .slice A l.length c ∧ l.length ≤ c ∧ c ≤ maxLen ∧ RdL R I sz w A l
theorem SlV.keep {α : Type} {R : World → α → List Value → Prop} {I S : Nat → Prop} {sz : Nat} {w w' : World} {l : List α} {v : Value} (h : SlV R I sz w l v) (hg : Chg S w w') (hI : ∀ b, I b → ¬ S b) (hR : ∀ a vs, a ∈ l → R w a vs → R w' a vs) : SlV R I sz w' l v := by
 obtain ⟨A, c, h1, h2, h3, h4⟩ := h
 exact ⟨A, c, h1, h2, h3, h4.keep hg hI hR⟩
theorem SlV.mono {α : Type} {R R' : World → α → List Value → Prop} {I I' : Nat → Prop} {sz : Nat} {w : World} {l : List α} {v : Value} (h : SlV R I sz w l v) (hI : ∀ b, I b → I' b) (hR : ∀ a vs, a ∈ l → R w a vs → R' w a vs) : SlV R' I' sz w l v := by
 obtain ⟨A, c, h1, h2, h3, h4⟩ := h
 exact ⟨A, c, h1, h2, h3, h4.mono hI hR⟩
def BytesV (I : Nat → Prop) (w : World) (l : List UInt8) (v : Value) : Prop := ∃ A c, v = .slice A l.length c ∧ l.length ≤ c ∧ c ≤ maxLen ∧ Rd w A l ∧ ∀ b o, A = some ⟨b, o, none⟩ → l ≠ [] → I b
namespace BytesV
variable {I I' S : Nat → Prop} {w w' : World} {l : List UInt8} {v : Value}
theorem keep (h : BytesV I w l v) (hg : Chg S w w') (hI : ∀ b, I b → ¬ S b) : BytesV I w' l v := by
 obtain ⟨A, c, h1, h2, h3, h4, h5⟩ := h
 exact ⟨A, c, h1, h2, h3, h4.keep hg (fun b o e hl => hI b (h5 b o e hl)), h5⟩
theorem non (h : BytesV I w l v) (hg : Chg Non w w') : BytesV I w' l v := h.keep hg (fun _ _ e => e)
theorem mono (h : BytesV I w l v) (hI : ∀ b, I b → I' b) : BytesV I' w l v := by
 obtain ⟨A, c, h1, h2, h3, h4, h5⟩ := h
 exact ⟨A, c, h1, h2, h3, h4, fun b o e hl => hI b (h5 b o e hl)⟩
theorem nil (I : Nat → Prop) (w : World) : BytesV I w [] (.slice none 0 0) := ⟨none, 0, rfl, Nat.le_refl _, by simp, Rd.nil _ _, fun _ _ e => by cases e⟩
end BytesV
theorem own_bytes {B : Nat} {w : World} {A : Option Addr} {l : List UInt8} {c : Nat} (h : Own B w A l) (hc : l.length ≤ c) (hm : c ≤ maxLen) : BytesV (From B) w l (.slice A l.length c) :=
 ⟨A, c, rfl, hc, hm, h.rd, fun b o e hl => by subst e; exact h.ge hl⟩
end
section
structure Ins where
 op : Nat
 a : Nat
 b : Nat
 c : Nat
 n : Int
 deriving DecidableEq
structure Frm where
 name : List UInt8
 a : Bool
 b : Bool
 c : Bool
 n : Nat
 deriving DecidableEq
def opNone : Frm := ⟨[], false, false, false, 0⟩
def opRows : List Frm := [opNone,
  ⟨[110, 111, 112], false, false, false, 0⟩,
  ⟨[115, 101, 116], true, false, false, 65535⟩,
  ⟨[104, 105, 103, 104], true, false, false, 65535⟩,
  ⟨[97, 100, 100], true, true, true, 0⟩,
  ⟨[115, 117, 98], true, true, true, 0⟩,
  ⟨[109, 117, 108], true, true, true, 0⟩,
  ⟨[97, 110, 100], true, true, true, 0⟩,
  ⟨[111, 114], true, true, true, 0⟩,
  ⟨[120, 111, 114], true, true, true, 0⟩,
  ⟨[115, 104, 108], true, true, true, 0⟩,
  ⟨[115, 104, 114], true, true, true, 0⟩,
  ⟨[108, 101, 115, 115], true, true, true, 0⟩,
  ⟨[108, 98], true, true, false, 255⟩,
  ⟨[115, 98], true, true, false, 255⟩,
  ⟨[108, 119], true, true, false, 255⟩,
  ⟨[115, 119], true, true, false, 255⟩,
  ⟨[106, 109, 112], false, false, false, 65535⟩,
  ⟨[106, 122], true, false, false, 65535⟩,
  ⟨[106, 110, 122], true, false, false, 65535⟩,
  ⟨[99, 97, 108, 108], false, false, false, 65535⟩,
  ⟨[109, 111, 118], true, true, false, 0⟩]
def opAt (k : Nat) : Frm := opRows.getD k opNone
def okB (k : Nat) : Bool := decide (1 ≤ k) && decide (k ≤ 21)
def regB (x : Nat) (has : Bool) : Bool := (has && decide (x < 8)) || decide (x = 0)
def mayB (x : Ins) : Bool :=
 okB x.op && (regB x.a (opAt x.op).a && (regB x.b (opAt x.op).b && (regB x.c (opAt x.op).c && (decide (0 ≤ x.n) && decide (x.n ≤ (opAt x.op).n)))))
def encI (x : Ins) : Nat × Nat × Nat × Nat :=
 if 255 < (opAt x.op).n then (x.op, x.a, x.n.toNat / 256, x.n.toNat % 256)
 else if 0 < (opAt x.op).n then (x.op, x.a, x.b, x.n.toNat)
 else (x.op, x.a, x.b, x.c)
def decI (p q r s : Nat) : Ins :=
 if 255 < (opAt p).n then ⟨p, q, 0, 0, 256 * r + s⟩
 else if 0 < (opAt p).n then ⟨p, q, r, 0, s⟩
 else ⟨p, q, r, s, 0⟩
structure Ins.Bd (x : Ins) : Prop where
 op : x.op < 256
 a : x.a < 256
 b : x.b < 256
 c : x.c < 256
 n0 : -9223372036854775808 ≤ x.n
 n1 : x.n ≤ 9223372036854775807
def Ins.zero : Ins := ⟨0, 0, 0, 0, 0⟩
theorem opAt_big (k : Nat) (h : 22 ≤ k) : opAt k = opNone := by
 unfold opAt
 rw [List.getD_eq_getElem?_getD, List.getElem?_eq_none (by simpa [opRows] using h)]
 rfl
theorem opAt_n (k : Nat) : (opAt k).n = 0 ∨ (opAt k).n = 255 ∨ (opAt k).n = 65535 := by
 rcases Nat.lt_or_ge k 22 with h | h
 ·revert k; decide
 ·rw [opAt_big k h]; exact .inl rfl
theorem opAt_wide (k : Nat) (h : 255 < (opAt k).n) : (opAt k).b = false ∧ (opAt k).c = false ∧ (opAt k).n = 65535 := by
 rcases Nat.lt_or_ge k 22 with h' | h'
 ·have H : ∀ k, k < 22 → 255 < (opAt k).n → (opAt k).b = false ∧ (opAt k).c = false ∧ (opAt k).n = 65535 := by decide
  exact H k h' h
 ·rw [opAt_big k h'] at h; cases h
theorem opAt_small (k : Nat) (h : 0 < (opAt k).n) (h2 : ¬ 255 < (opAt k).n) : (opAt k).c = false ∧ (opAt k).n = 255 := by
 rcases Nat.lt_or_ge k 22 with h' | h'
 ·have H : ∀ k, k < 22 → 0 < (opAt k).n → ¬ 255 < (opAt k).n → (opAt k).c = false ∧ (opAt k).n = 255 := by decide
  exact H k h' h h2
 ·rw [opAt_big k h'] at h; cases h
theorem regB_iff (x : Nat) (has : Bool) : regB x has = true ↔ (has = true ∧ x < 8) ∨ x = 0 := by simp [regB]
theorem mayB_iff (x : Ins) : mayB x = true ↔ (1 ≤ x.op ∧ x.op ≤ 21) ∧ ((opAt x.op).a = true ∧ x.a < 8 ∨ x.a = 0) ∧ ((opAt x.op).b = true ∧ x.b < 8 ∨ x.b = 0) ∧ ((opAt x.op).c = true ∧ x.c < 8 ∨ x.c = 0) ∧ 0 ≤ x.n ∧ x.n ≤ (opAt x.op).n := by
 unfold mayB okB
 simp [regB_iff]
theorem May.bd {x : Ins} (h : mayB x = true) : x.Bd := by
 rw [mayB_iff] at h
 obtain ⟨h1, h2, h3, h4, h5, h6⟩ := h
 have := opAt_n x.op
 exact ⟨by omega, by omega, by omega, by omega, by omega, by omega⟩
theorem enc_bd {x : Ins} (h : mayB x = true) : (encI x).1 < 256 ∧ (encI x).2.1 < 256 ∧ (encI x).2.2.1 < 256 ∧ (encI x).2.2.2 < 256 := by
 have hb := May.bd h
 obtain ⟨b1, b2, b3, b4, _, _⟩ := hb
 rw [mayB_iff] at h
 obtain ⟨h1, h2, h3, h4, h5, h6⟩ := h
 unfold encI
 split
 ·rename_i hw
  have := (opAt_wide _ hw).2.2
  refine ⟨b1, b2, ?_, ?_⟩ <;> simp only <;> omega
 ·split
  ·rename_i hw hs
   have := (opAt_small _ hs hw).2
   refine ⟨b1, b2, b3, ?_⟩; simp only; omega
  ·exact ⟨b1, b2, b3, b4⟩
theorem enc_dec (p q r s : Nat) (hp : p < 256) (hq : q < 256) (hr : r < 256) (hs : s < 256) : encI (decI p q r s) = (p, q, r, s) := by
 unfold encI decI
 by_cases hw : 255 < (opAt p).n
 ·simp only [hw, if_true, Prod.mk.injEq, true_and]
  omega
 ·by_cases hn : 0 < (opAt p).n
  ·simp only [hw, hn, if_true, if_false, Prod.mk.injEq, true_and]
   omega
  ·simp only [hw, hn, if_false]
theorem dec_op (p q r s : Nat) : (decI p q r s).op = p := by unfold decI; split <;> (try split) <;> rfl
def wordIf (has : Bool) (n : Int) : List (List UInt8) := if has then [Lib.itoa n] else []
def textW (x : Ins) : List (List UInt8) :=
 (opAt x.op).name :: (wordIf (opAt x.op).a x.a ++ (wordIf (opAt x.op).b x.b ++ (wordIf (opAt x.op).c x.c ++ wordIf (decide (0 < (opAt x.op).n)) x.n)))
def textL (x : Ins) : List UInt8 := if mayB x then Lib.join (textW x) [32] else []
def atoiV (l : List UInt8) : Int :=
 match Lib.atoiAll l with
 | .ok v => v
 | .range => Lib.atoiSat l
 | _ => 0
def takeV (has : Bool) (r : List (List UInt8)) : Int := if has && !r.isEmpty then atoiV r.head! else 0
def takeR (has : Bool) (r : List (List UInt8)) : List (List UInt8) := if has && !r.isEmpty then r.tail else r
end
section
structure Pt where
 id : Int
 size : Int
 keep : Bool
 r : List Nat
 pc : Nat
 st : Nat
 mem : List UInt8
structure Pt.Bd (p : Pt) : Prop where
 r8 : p.r.length = 8
 rb : ∀ i, p.r.getD i 0 < 4294967296
 pcb : p.pc < 4294967296
 stb : p.st < 256
 idb : -9223372036854775808 ≤ p.id ∧ p.id ≤ 9223372036854775807
 sizeb : -9223372036854775808 ≤ p.size ∧ p.size ≤ 9223372036854775807
def Pt.g (p : Pt) (a : Nat) : Nat := p.r.getD a 0
def Pt.set (p : Pt) (a v : Nat) : Pt := { p with r := p.r.set a v }
def there (m : List UInt8) (at_ n : Nat) : Bool := decide (m.length ≤ 512) && decide (at_ + n ≤ m.length)
def cut (m : List UInt8) (at_ n : Nat) : List UInt8 := (m.drop at_).take n
def put (m : List UInt8) (at_ : Nat) (b : List UInt8) : List UInt8 := m.take at_ ++ (b ++ m.drop (at_ + b.length))
def num32 (b : List UInt8) : Nat := b.foldl (fun x c => 256 * x + c.toNat) 0
def word32 (x : Nat) : List UInt8 := [UInt8.ofNat (x / 16777216), UInt8.ofNat (x / 65536), UInt8.ofNat (x / 256), UInt8.ofNat x]
def mk2 (k : Nat) (b c : Nat) : Nat :=
 if k = 4 then (b + c) % 4294967296
 else if k = 5 then (b + 4294967296 - c) % 4294967296
 else if k = 6 then b * c % 4294967296
 else if k = 7 then b &&& c
 else if k = 8 then b ||| c
 else if k = 9 then b ^^^ c
 else if k = 10 then b * 2 ^ (c % 32) % 4294967296
 else if k = 11 then b / 2 ^ (c % 32)
 else if k = 12 then (if b < c then 1 else 0)
 else 0
def does (x : Ins) (p : Pt) : Option Pt :=
 let n := x.n.toNat
 let at_ := p.g x.b + n
 if x.op = 2 then some (p.set x.a n)
 else if x.op = 3 then some (p.set x.a ((p.g x.a * 65536 % 4294967296) ||| n))
 else if x.op = 21 then some (p.set x.a (p.g x.b))
 else if 4 ≤ x.op ∧ x.op ≤ 12 then some (p.set x.a (mk2 x.op (p.g x.b) (p.g x.c)))
 else if x.op = 13 then if there p.mem at_ 1 then some (p.set x.a (num32 (cut p.mem at_ 1))) else none
 else if x.op = 15 then if there p.mem at_ 4 then some (p.set x.a (num32 (cut p.mem at_ 4))) else none
 else if x.op = 14 then if there p.mem at_ 1 then some { p with mem := put p.mem at_ [UInt8.ofNat (p.g x.a)] } else none
 else if x.op = 16 then if there p.mem at_ 4 then some { p with mem := put p.mem at_ (word32 (p.g x.a)) } else none
 else some p
def jumpsB (x : Ins) (p : Pt) : Bool := decide (x.op = 17) || (decide (x.op = 18) && decide (p.g x.a = 0)) || (decide (x.op = 19) && !decide (p.g x.a = 0))
def fetch (p : Pt) : Option Ins :=
 if there p.mem p.pc 4 then
  match cut p.mem p.pc 4 with
  | [q, r, s, t] => some (decI q.toNat r.toNat s.toNat t.toNat)
  | _ => none
 else none
def stepV (p : Pt) : Pt × Int × Nat :=
 if p.st ≠ 0 then (p, -1, 2)
 else match fetch p with
  | none => ({ p with st := 3 }, -1, 0)
  | some x =>
   if mayB x then
    if jumpsB x p then ({ p with pc := x.n.toNat }, -1, 0)
    else match does x p with
     | none => ({ p with st := 3 }, -1, 0)
     | some q => ({ q with pc := (p.pc + 4) % 4294967296 }, if x.op = 20 then x.n else -1, 0)
   else ({ p with st := 2 }, -1, 0)
theorem put_len {m : List UInt8} {a : Nat} {b : List UInt8} (h : a + b.length ≤ m.length) : (put m a b).length = m.length := by
 simp [put]
 omega
theorem there_iff (m : List UInt8) (a n : Nat) : there m a n = true ↔ m.length ≤ 512 ∧ a + n ≤ m.length := by simp [there]
theorem does_shape {x : Ins} {p q : Pt} (h : does x p = some q) : q = p ∨ (∃ a v, q = p.set a v ∧ x.op ≠ 20) ∨ (∃ a b, b.length ≤ 4 ∧ a + b.length ≤ p.mem.length ∧ q = { p with mem := put p.mem a b } ∧ x.op ≠ 20) := by
 unfold does at h
 simp only at h
 split at h
 ·injection h with h; exact .inr (.inl ⟨_, _, h.symm, by omega⟩)
 split at h
 ·injection h with h; exact .inr (.inl ⟨_, _, h.symm, by omega⟩)
 split at h
 ·injection h with h; exact .inr (.inl ⟨_, _, h.symm, by omega⟩)
 split at h
 ·injection h with h; exact .inr (.inl ⟨_, _, h.symm, by omega⟩)
 split at h
 ·split at h
  ·injection h with h; exact .inr (.inl ⟨_, _, h.symm, by omega⟩)
  ·cases h
 split at h
 ·split at h
  ·injection h with h; exact .inr (.inl ⟨_, _, h.symm, by omega⟩)
  ·cases h
 split at h
 ·split at h
  ·rename_i ht
   injection h with h
   exact .inr (.inr ⟨_, _, by simp, ((there_iff _ _ _).1 ht).2, h.symm, by omega⟩)
  ·cases h
 split at h
 ·split at h
  ·rename_i ht
   injection h with h
   exact .inr (.inr ⟨_, _, by simp [word32], ((there_iff _ _ _).1 ht).2, h.symm, by omega⟩)
  ·cases h
 ·injection h with h; exact .inl h.symm
theorem step_shape (p : Pt) :
  ((stepV p).1 = { p with st := (stepV p).1.st } ∧ (stepV p).2.1 = -1) ∨
  ((∃ v, (stepV p).1 = { p with pc := v }) ∧ (stepV p).2.1 = -1 ∧ (stepV p).2.2 = 0) ∨
  ((∃ a v, (stepV p).1 = { p.set a v with pc := (p.pc + 4) % 4294967296 }) ∧ (stepV p).2.1 = -1 ∧ (stepV p).2.2 = 0) ∨
  ((∃ a b, b.length ≤ 4 ∧ a + b.length ≤ p.mem.length ∧ (stepV p).1 = { p with mem := put p.mem a b, pc := (p.pc + 4) % 4294967296 }) ∧ (stepV p).2.1 = -1 ∧ (stepV p).2.2 = 0) ∨
  ((stepV p).1 = { p with pc := (p.pc + 4) % 4294967296 } ∧ (stepV p).2.2 = 0) := by
 unfold stepV
 by_cases h : p.st = 0
 ·rw [if_neg (by omega)]
  split
  ·exact .inl ⟨rfl, rfl⟩
  ·split
   ·split
    ·exact .inr (.inl ⟨⟨_, rfl⟩, rfl, rfl⟩)
    ·split
     ·exact .inl ⟨rfl, rfl⟩
     ·rename_i hd
      rcases does_shape hd with rfl | ⟨a, v, rfl, h20⟩ | ⟨a, b, h4, hl, rfl, h20⟩
      ·exact .inr (.inr (.inr (.inr ⟨rfl, rfl⟩)))
      ·exact .inr (.inr (.inl ⟨⟨a, v, rfl⟩, if_neg h20, rfl⟩))
      ·exact .inr (.inr (.inr (.inl ⟨⟨a, b, h4, hl, rfl⟩, if_neg h20, rfl⟩)))
   ·exact .inl ⟨rfl, rfl⟩
 ·rw [if_pos h]
  exact .inl ⟨rfl, rfl⟩
end
section
open Go.RowKit
section
variable {P : Program} {md : Region.Mode} {ops : Array Oper} {Q : Exit → Act → World → Prop} {fuel : Nat} {listed : Array Bool} {a : Act} {w : World} {K : Act → World → Prop} {i : Nat}
theorem g_one (i : Nat) (hr : Region.ready md ops listed = [i]) (h : wpOp P ops Q i (wpAny P md ops Q fuel (listed.setIfInBounds i true)) a w) : wpAny P md ops Q (fuel + 1) listed a w := by
 refine ⟨fun h0 => ?_, fun j hj => ?_⟩
 ·rw [hr] at h0; cases h0
 ·rw [hr, List.mem_singleton] at hj
  subst hj
  exact h
theorem g_two (i j : Nat) (hr : Region.ready md ops listed = [i, j]) (h : wpOp P ops Q i (wpAny P md ops Q fuel (listed.setIfInBounds i true)) a w) (h' : wpOp P ops Q j (wpAny P md ops Q fuel (listed.setIfInBounds j true)) a w) : wpAny P md ops Q (fuel + 1) listed a w := by
 refine ⟨fun h0 => ?_, fun k hk => ?_⟩
 ·rw [hr] at h0; cases h0
 ·rw [hr, List.mem_cons, List.mem_singleton] at hk
  rcases hk with rfl | rfl
  ·exact h
  ·exact h'
theorem g_pure (d : Option Tmp) (v : Value) {oi : Oper} (hi : ops[i]? = some oi) (hdst : oi.dst = d) (hw : Region.wanted oi (yielded ops a.tmps) = true) (he : (execOp a.eval oi).run P w = .ok (.value v) w) (h : K (a.put d v) w) : wpOp P ops Q i K a w := by
 subst hdst
 unfold wpOp
 simp only [hi, hw, if_true, Oper.wp, he, Oper.upon]
 exact .inl h
theorem g_any {oi : Oper} (hi : ops[i]? = some oi) (hw : Region.wanted oi (yielded ops a.tmps) = true) (h : ∀ K' : Act → World → Prop, (∀ a w, K a w → K' a w) → Oper.wp P oi a w K' Q) : wpOp P ops Q i K a w :=
 wpOp_step hi (fun K' hK => by rw [if_pos hw]; exact h K' hK)
theorem wp_cutB {id : Nat} {b : Bool} {α : Type} (f : α → Act → Act) (R : α → World → Prop) (h : (Code.region id ops b).wp P (fun e x v => e = .normal ∧ ∃ y, x = f y a ∧ R y v) a w) (hk : ∀ y v, R y v → Q .normal (f y a) v) : (Code.region id ops b).wp P Q a w :=
 Code.wp_mono (fun e x v ⟨he, y, hx, hr⟩ => by subst he; subst hx; exact hk y v hr) h
theorem g_step (d : Option Tmp) (v : Value) (w' : World) {oi : Oper} (hi : ops[i]? = some oi) (hdst : oi.dst = d) (hw : Region.wanted oi (yielded ops a.tmps) = true) (he : (execOp a.eval oi).run P w = .ok (.value v) w') (h : K (a.put d v) w') : wpOp P ops Q i K a w := by
 subst hdst
 unfold wpOp
 simp only [hi, hw, if_true, Oper.wp, he, Oper.upon]
 exact .inl h
theorem wpList_wanted {rest : List Oper} {o : Oper} (hw : Region.wanted o (yielded ops a.tmps) = true) (h : ∀ K : Act → World → Prop, (∀ a w, wpList P ops Q rest a w → K a w) → o.wp P a w K Q) : wpList P ops Q (o :: rest) a w :=
 wpList_step fun K hK => by rw [if_pos hw]; exact h K hK
theorem wpList_pureW {rest : List Oper} {o : Oper} (d : Option Tmp) (v : Value) (hdst : o.dst = d) (hw : Region.wanted o (yielded ops a.tmps) = true) (he : (execOp a.eval o).run P w = .ok (.value v) w) (h : wpList P ops Q rest (a.put d v) w) : wpList P ops Q (o :: rest) a w := by
 subst hdst
 refine wpList_wanted hw fun K hK => ?_
 simp only [Oper.wp, he, Oper.upon]
 exact hK _ _ h
theorem wpList_pure {rest : List Oper} {o : Oper} (hgd : o.guard = none) (d : Option Tmp) (v : Value) (hdst : o.dst = d) (he : (execOp a.eval o).run P w = .ok (.value v) w) (h : wpList P ops Q rest (a.put d v) w) : wpList P ops Q (o :: rest) a w := by
 subst hdst
 refine wpList_plain hgd fun K hK => ?_
 simp only [Oper.wp, he, Oper.upon]
 exact hK _ _ h
end
end
section
open Go.RowKit
section
variable {P : Program} {md : Region.Mode} {ops : Array Oper} {Q : Exit → Act → World → Prop} {S : World → Prop} {fuel : Nat} {listed : Array Bool} {a : Act} {w : World}
theorem h_pure (i : Nat) (d : Option Tmp) (v : Value) {oi : Oper} (hi : ops[i]? = some oi) (hs : Region.noSelect ops = true) (hf : Region.free md ops listed i = true) (hr : (Region.ready md ops listed).contains i = true)
  (hdst : oi.dst = d) (hQ : ∀ c a w, Q (.panic c) (a.put d v) w → Q (.panic c) a w) (hw : Region.wanted oi (yielded ops a.tmps) = true) (he : ∀ w, S w → (execOp a.eval oi).run P w = .ok (.value v) w) (hS : S w)
  (h : wpAnyH P md ops Q S fuel (listed.setIfInBounds i true) (a.put d v) w) : wpAnyH P md ops Q S (fuel + 1) listed a w := by
 subst hdst
 exact wpAnyH_take hi hs hf hr hQ (.inl ⟨hw, he⟩) hS h
theorem h_skip (i : Nat) (d : Option Tmp) {oi : Oper} (hi : ops[i]? = some oi) (hs : Region.noSelect ops = true) (hf : Region.free md ops listed i = true) (hr : (Region.ready md ops listed).contains i = true)
  (hdst : oi.dst = d) (hQ : ∀ c a w, Q (.panic c) (a.put d undef) w → Q (.panic c) a w) (hw : Region.wanted oi (yielded ops a.tmps) = false) (hS : S w)
  (h : wpAnyH P md ops Q S fuel (listed.setIfInBounds i true) (a.put d undef) w) : wpAnyH P md ops Q S (fuel + 1) listed a w := by
 subst hdst
 exact wpAnyH_take hi hs hf hr hQ (.inr ⟨hw, rfl⟩) hS h
theorem h_one (i : Nat) {oi : Oper} (hr : Region.ready md ops listed = [i]) (hi : ops[i]? = some oi) (hw : Region.wanted oi (yielded ops a.tmps) = true)
  (h : ∀ K : Act → World → Prop, Shut (∀ a w, S w → (S w → wpAnyH P md ops Q S fuel (listed.setIfInBounds i true) a w) → K a w) → Oper.wp P oi a w K Q) : wpAnyH P md ops Q S (fuel + 1) listed a w :=
 wpAnyH_ready hr (by simp) (AllReadyH.cons hi (fun K hK => by rw [if_pos hw]; exact h K hK) AllReadyH.nil)
theorem h_load (i : Nat) (dd : Option Tmp) {oi : Oper} (ty : TypeId) (x : Operand) (b o : Nat) (C : Array Value) (d : TypeDesc) (hi : ops[i]? = some oi) (hs : Region.noSelect ops = true) (hf : Region.free md ops listed i = true) (hr : (Region.ready md ops listed).contains i = true)
  (hdst : oi.dst = dd) (ho : oi.op = .load ty x) (hQ : ∀ c a w, Q (.panic c) (a.put dd (.agg C)) w → Q (.panic c) a w) (hw : Region.wanted oi (yielded ops a.tmps) = true)
  (hx : a.eval x = .pointer (some ⟨b, o, none⟩)) (hR : ∀ w, S w → w.rangeAt b o C.toList) (hu : P.underlying ty = some d) (hd : d.isRow = true) (hz : (P.info? ty).map (·.size) = some C.size) (hS : S w)
  (h : wpAnyH P md ops Q S fuel (listed.setIfInBounds i true) (a.put dd (.agg C)) w) : wpAnyH P md ops Q S (fuel + 1) listed a w := by
 subst hdst
 exact wpAnyH_take hi hs hf hr hQ (yieldsIf_load_mid hw ty x ho b o hx C.toList d hR hu hd (by rw [hz, Array.length_toList])) hS h
theorem h_store (i : Nat) {oi : Oper} (ty : TypeId) (x y : Operand) (g : Nat) (C : Array Value) (hr : Region.ready md ops listed = [i]) (hi : ops[i]? = some oi) (hw : Region.wanted oi (yielded ops a.tmps) = true)
  (hdst : oi.dst = none) (ho : oi.op = .store ty x y) (hx : a.eval x = .pointer (some ⟨g, 0, none⟩)) (hy : a.eval y = .agg C) (t : TypeId) (hold : ∃ old : Array Value, w.heap[g]? = some (.cells old t (0, 0)) ∧ old.size = C.size) (hz : (P.info? ty).map (·.size) = some C.size)
  (h1 : C.all (·.oneCell') = true) (hS : ∀ W, Chg (fun k => k = g) w W → W.heap[g]? = some (.cells C t (0, 0)) → S W)
  (h : ∀ W, Chg (fun k => k = g) w W → W.heap[g]? = some (.cells C t (0, 0)) → wpAnyH P md ops Q S fuel (listed.setIfInBounds i true) a W) : wpAnyH P md ops Q S (fuel + 1) listed a w := by
 obtain ⟨old, hg, hold⟩ := hold
 have hput : a.put oi.dst undef = a := by rw [hdst]; rfl
 have k1 : Chg (fun k => k = g) w (w.setRow g C) := (Chg.refl (fun k => k = g) _).setRow (.inl rfl) _
 have k2 := setRow_heap w g old C t (0, 0) hg
 exact h_one i hr hi hw (fun K hK => wp_store_row ty x y ho g C hx hy t old hg hz hold h1 (by rw [hput]; exact hK.out _ _ (hS _ k1 k2) (fun _ => h _ k1 k2)))
end
end
section
open Go.RowKit
theorem sA {α : Type _} (l : List α) (i : Nat) (a : α) : l.toArray.setIfInBounds i a = (l.set i a).toArray := List.setIfInBounds_toArray ..
theorem sB {α : Type _} {x a : α} {xs : List α} : (x :: xs).set 0 a = a :: xs := rfl
theorem sC {α : Type _} {x a : α} {xs : List α} {i : Nat} : (x :: xs).set (i + 1) a = x :: xs.set i a := rfl
section
variable {P : Program} {md : Region.Mode} {ops : Array Oper} {Q : Exit → Act → World → Prop} {S : World → Prop} {fuel : Nat} {listed listed' : Array Bool} {a a' : Act} {w : World}
theorem hp (i : Nat) (d : Tmp) (v : Value) {oi : Oper} (hi : ops[i]? = some oi) (hS : S w)
  (h : wpAnyH P md ops Q S fuel listed' a' w)
  (he : ∀ w, S w → (execOp a.eval oi).run P w = .ok (.value v) w := by intro W hW; go_simp)
  (ha : a.put (some d) v = a' := by first | (simp only [Act.put, List.setIfInBounds_toArray, List.set_cons_zero, List.set_cons_succ] <;> rfl) | rfl)
  (hl : listed.setIfInBounds i true = listed' := by first | (simp only [List.setIfInBounds_toArray, List.set_cons_zero, List.set_cons_succ] <;> rfl) | rfl)
  (hQ : ∀ c a w, Q (.panic c) (a.put (some d) v) w → Q (.panic c) a w := by exact fun _ _ _ h => h)
  (hs : Region.noSelect ops = true := by kernel_rfl) (hf : Region.free md ops listed i = true := by kernel_rfl) (hr : (Region.ready md ops listed).contains i = true := by kernel_rfl)
  (hdst : oi.dst = some d := by kernel_rfl) (hw : Region.wanted oi (yielded ops a.tmps) = true := by kernel_rfl) : wpAnyH P md ops Q S (fuel + 1) listed a w :=
 h_pure i (some d) v hi hs hf hr hdst hQ hw he hS (by rw [ha, hl]; exact h)
theorem hs (i : Nat) (d : Tmp) {oi : Oper} (hi : ops[i]? = some oi) (hS : S w)
  (h : wpAnyH P md ops Q S fuel listed' a' w)
  (ha : a.put (some d) undef = a' := by first | (simp only [Act.put, List.setIfInBounds_toArray, List.set_cons_zero, List.set_cons_succ] <;> rfl) | rfl)
  (hl : listed.setIfInBounds i true = listed' := by first | (simp only [List.setIfInBounds_toArray, List.set_cons_zero, List.set_cons_succ] <;> rfl) | rfl)
  (hQ : ∀ c a w, Q (.panic c) (a.put (some d) undef) w → Q (.panic c) a w := by exact fun _ _ _ h => h)
  (hs : Region.noSelect ops = true := by kernel_rfl) (hf : Region.free md ops listed i = true := by kernel_rfl) (hr : (Region.ready md ops listed).contains i = true := by kernel_rfl)
  (hdst : oi.dst = some d := by kernel_rfl) (hw : Region.wanted oi (yielded ops a.tmps) = false := by kernel_rfl) : wpAnyH P md ops Q S (fuel + 1) listed a w :=
 h_skip i (some d) hi hs hf hr hdst hQ hw hS (by rw [ha, hl]; exact h)
end
end
section
open Go.RowKit
theorem sel {P : Program} {ops : Array Oper} {rest : List Oper} {a : Act} {w : World} {Q : Exit → Act → World → Prop} (d : Option Tmp) (op : Op) {ty : TypeId} {pos : String} {af : Array Edge} {g : Option (Nat × Bool)}
  (h : wpList P ops Q (⟨d, op, ty, pos, af, g⟩ :: rest) a w) : wpList P ops Q (⟨d, op, ty, pos, af, g⟩ :: rest) a w := h
theorem wpList_store_rowA {P : Program} {w : World} {ops : Array Oper} {rest : List Oper} {o : Oper} {a : Act} {Q : Exit → Act → World → Prop} (hgd : o.guard = none) (ty : TypeId) (x y : Operand) (ho : o.op = .store ty x y)
  (g : Nat) (cells : Array Value) (hx : a.eval x = .pointer (some ⟨g, 0, none⟩)) (hy : a.eval y = .agg cells)
  (t : TypeId) (old : Array Value) (hg : w.heap[g]? = some (.cells old t (0, 0))) (hi : (P.info? ty).map (·.size) = some cells.size)
  (hold : old.size = cells.size) (h1 : cells.all (·.oneCell') = true)
  (h : ∀ W, Chg (fun k => k = g) w W → W.heap[g]? = some (.cells cells t (0, 0)) → wpList P ops Q rest (a.put o.dst undef) W) : wpList P ops Q (o :: rest) a w :=
 wpList_store_row hgd ty x y ho g cells hx hy t old hg hi hold h1 (h _ ((Chg.refl (fun k => k = g) _).setRow (.inl rfl) _) (setRow_heap _ _ _ _ _ _ hg))
theorem row_range {w : World} {b : Nat} {C : Array Value} {t : TypeId} {fr : Nat × Nat} (h : w.heap[b]? = some (.cells C t fr)) : w.rangeAt b 0 C.toList := fun j v hv => by
 rw [cell_of_row _ _ _ _ _ _ h, Nat.zero_add]
 simpa using hv
theorem row_cell {w : World} {b : Nat} {C : Array Value} {t : TypeId} {fr : Nat × Nat} (h : w.heap[b]? = some (.cells C t fr)) {i : Nat} {v : Value} (hv : C[i]? = some v) : w.cell? ⟨b, i, none⟩ = some v := by
 rw [cell_of_row _ _ _ _ _ _ h]; exact hv
theorem blockN {w W : World} {b : Nat} {x : Obj} (hg : Chg Non w W) (h : w.heap[b]? = some x) : W.heap[b]? = some x :=
 (hg.block b (Array.getElem?_eq_some_iff.1 h).1 (fun e => e)).trans h
theorem results_ct {P : Program} {fn : Func} {p q : Tmp} {ty : TypeId} (h : fn.results = #[.cell p ty, .tmp q]) (tmps : Array Value) (w : World) (g : Nat) (t : TypeId) (cs : Array Value) (fr : Nat × Nat) (d : TypeDesc) (v : Value)
  (hp : tmps.getD p undef = .pointer (some ⟨g, 0, none⟩)) (hv : tmps.getD q undef = v) (hg : w.heap[g]? = some (.cells cs t fr))
  (hu : P.underlying ty = some d) (hd : (match d with | .struct _ | .array _ _ => true | _ => false) = true) (hi : (P.info? ty).map (·.size) = some cs.size) :
  (results fn tmps).run P w = .ok (.tuple #[.agg cs, v]) w := by
 have hp' : tmps[p]?.getD undef = .pointer (some ⟨g, 0, none⟩) := by simpa using hp
 have hv' : tmps[q]?.getD undef = v := by simpa using hv
 simp [results, h, hp', hv', asAddr, run_loadVar_row w g t ty cs fr d hg hu hd hi]
end
section
open Go.RowKit
def mkStr (l : List UInt8) : Value := .string ⟨l.toArray⟩
def opC (f : Frm) : Array Value := #[mkStr f.name, .bool f.a, .bool f.b, .bool f.c, .int .i64 f.n]
def tblC : Array Value := (opRows.map fun f => (opC f).toList).flatten.toArray
theorem tblC_size : tblC.size = 110 := by kernel_rfl
theorem tblC_one : tblC.all (·.oneCell') = true := by kernel_rfl
theorem info_tbl : (Tryz.prog.info? 198).map (·.size) = some 110 := by kernel_rfl
theorem info_op : (Tryz.prog.info? 197).map (·.size) = some 5 := by kernel_rfl
theorem alloc5_old (w : World) (a b c d e : Obj) : (((((w.alloc a).alloc b).alloc c).alloc d).alloc e).heap[w.heap.size]? = some a := by
 rw [Below.heap_alloc _ _ _ (by simp; omega), Below.heap_alloc _ _ _ (by simp; omega), Below.heap_alloc _ _ _ (by simp; omega), Below.heap_alloc _ _ _ (by simp), heap_alloc_new]
theorem alloc5_chg (w : World) (a b c d e : Obj) : Chg Non w (((((w.alloc a).alloc b).alloc c).alloc d).alloc e) := (((((Chg.refl _ _).alloc _).alloc _).alloc _).alloc _).alloc _
set_option maxRecDepth 100000 in
theorem table_ok (w : World) : Calls Tryz.prog 114 #[] w fun e w' => e = .returned (.agg tblC) ∧ Chg Non w w' := by
 go_enter Tryz.func114, Tryz.ntmps114
 go_wp2_with (first
   | (refine sel (some 52) (.build 198 _) ?_; refine wpList_pure rfl (some 52) (.agg tblC) rfl (by kernel_rfl) ?_)
   | (refine sel none (.store 198 (.tmp 0) (.tmp 52)) ?_
      refine wpList_store_rowA rfl 198 (.tmp 0) (.tmp 52) rfl w.heap.size tblC rfl rfl 198 _ (alloc5_old _ _ _ _ _ _) (by rw [tblC_size]; exact info_tbl) (by rw [tblC_size]; kernel_rfl) tblC_one ?_
      intro W hgW hbW
      have HB := Lib.hid hbW
      have HG := Lib.hid hgW
      clear hbW hgW))
 exact bodyPost_ret (results_cell_row Tryz.results114 _ _ w.heap.size 198 _ (0, 0) _ rfl HB.out Tryz.underlying198 rfl (by rw [tblC_size]; exact info_tbl)) rfl ⟨rfl, (alloc5_chg _ _ _ _ _ _).then_new HG.out (fun x e => by omega)⟩
end
section
open Go.RowKit
theorem idx_tbl0 (w : World) : (Instr.index 198 (.agg tblC) (.int .u8 0)).run Tryz.prog w = .ok (.agg (opC (opAt 0))) w ∧ (Instr.index 198 (.agg tblC) (.int .i64 0)).run Tryz.prog w = .ok (.agg (opC (opAt 0))) w := ⟨by kernel_rfl, by kernel_rfl⟩
theorem idx_tbl1 (w : World) : (Instr.index 198 (.agg tblC) (.int .u8 1)).run Tryz.prog w = .ok (.agg (opC (opAt 1))) w ∧ (Instr.index 198 (.agg tblC) (.int .i64 1)).run Tryz.prog w = .ok (.agg (opC (opAt 1))) w := ⟨by kernel_rfl, by kernel_rfl⟩
theorem idx_tbl2 (w : World) : (Instr.index 198 (.agg tblC) (.int .u8 2)).run Tryz.prog w = .ok (.agg (opC (opAt 2))) w ∧ (Instr.index 198 (.agg tblC) (.int .i64 2)).run Tryz.prog w = .ok (.agg (opC (opAt 2))) w := ⟨by kernel_rfl, by kernel_rfl⟩
theorem idx_tbl3 (w : World) : (Instr.index 198 (.agg tblC) (.int .u8 3)).run Tryz.prog w = .ok (.agg (opC (opAt 3))) w ∧ (Instr.index 198 (.agg tblC) (.int .i64 3)).run Tryz.prog w = .ok (.agg (opC (opAt 3))) w := ⟨by kernel_rfl, by kernel_rfl⟩
theorem idx_tbl4 (w : World) : (Instr.index 198 (.agg tblC) (.int .u8 4)).run Tryz.prog w = .ok (.agg (opC (opAt 4))) w ∧ (Instr.index 198 (.agg tblC) (.int .i64 4)).run Tryz.prog w = .ok (.agg (opC (opAt 4))) w := ⟨by kernel_rfl, by kernel_rfl⟩
theorem idx_tbl5 (w : World) : (Instr.index 198 (.agg tblC) (.int .u8 5)).run Tryz.prog w = .ok (.agg (opC (opAt 5))) w ∧ (Instr.index 198 (.agg tblC) (.int .i64 5)).run Tryz.prog w = .ok (.agg (opC (opAt 5))) w := ⟨by kernel_rfl, by kernel_rfl⟩
theorem idx_tbl6 (w : World) : (Instr.index 198 (.agg tblC) (.int .u8 6)).run Tryz.prog w = .ok (.agg (opC (opAt 6))) w ∧ (Instr.index 198 (.agg tblC) (.int .i64 6)).run Tryz.prog w = .ok (.agg (opC (opAt 6))) w := ⟨by kernel_rfl, by kernel_rfl⟩
theorem idx_tbl7 (w : World) : (Instr.index 198 (.agg tblC) (.int .u8 7)).run Tryz.prog w = .ok (.agg (opC (opAt 7))) w ∧ (Instr.index 198 (.agg tblC) (.int .i64 7)).run Tryz.prog w = .ok (.agg (opC (opAt 7))) w := ⟨by kernel_rfl, by kernel_rfl⟩
theorem idx_tbl8 (w : World) : (Instr.index 198 (.agg tblC) (.int .u8 8)).run Tryz.prog w = .ok (.agg (opC (opAt 8))) w ∧ (Instr.index 198 (.agg tblC) (.int .i64 8)).run Tryz.prog w = .ok (.agg (opC (opAt 8))) w := ⟨by kernel_rfl, by kernel_rfl⟩
theorem idx_tbl9 (w : World) : (Instr.index 198 (.agg tblC) (.int .u8 9)).run Tryz.prog w = .ok (.agg (opC (opAt 9))) w ∧ (Instr.index 198 (.agg tblC) (.int .i64 9)).run Tryz.prog w = .ok (.agg (opC (opAt 9))) w := ⟨by kernel_rfl, by kernel_rfl⟩
theorem idx_tbl10 (w : World) : (Instr.index 198 (.agg tblC) (.int .u8 10)).run Tryz.prog w = .ok (.agg (opC (opAt 10))) w ∧ (Instr.index 198 (.agg tblC) (.int .i64 10)).run Tryz.prog w = .ok (.agg (opC (opAt 10))) w := ⟨by kernel_rfl, by kernel_rfl⟩
theorem idx_tbl11 (w : World) : (Instr.index 198 (.agg tblC) (.int .u8 11)).run Tryz.prog w = .ok (.agg (opC (opAt 11))) w ∧ (Instr.index 198 (.agg tblC) (.int .i64 11)).run Tryz.prog w = .ok (.agg (opC (opAt 11))) w := ⟨by kernel_rfl, by kernel_rfl⟩
theorem idx_tbl12 (w : World) : (Instr.index 198 (.agg tblC) (.int .u8 12)).run Tryz.prog w = .ok (.agg (opC (opAt 12))) w ∧ (Instr.index 198 (.agg tblC) (.int .i64 12)).run Tryz.prog w = .ok (.agg (opC (opAt 12))) w := ⟨by kernel_rfl, by kernel_rfl⟩
theorem idx_tbl13 (w : World) : (Instr.index 198 (.agg tblC) (.int .u8 13)).run Tryz.prog w = .ok (.agg (opC (opAt 13))) w ∧ (Instr.index 198 (.agg tblC) (.int .i64 13)).run Tryz.prog w = .ok (.agg (opC (opAt 13))) w := ⟨by kernel_rfl, by kernel_rfl⟩
theorem idx_tbl14 (w : World) : (Instr.index 198 (.agg tblC) (.int .u8 14)).run Tryz.prog w = .ok (.agg (opC (opAt 14))) w ∧ (Instr.index 198 (.agg tblC) (.int .i64 14)).run Tryz.prog w = .ok (.agg (opC (opAt 14))) w := ⟨by kernel_rfl, by kernel_rfl⟩
theorem idx_tbl15 (w : World) : (Instr.index 198 (.agg tblC) (.int .u8 15)).run Tryz.prog w = .ok (.agg (opC (opAt 15))) w ∧ (Instr.index 198 (.agg tblC) (.int .i64 15)).run Tryz.prog w = .ok (.agg (opC (opAt 15))) w := ⟨by kernel_rfl, by kernel_rfl⟩
theorem idx_tbl16 (w : World) : (Instr.index 198 (.agg tblC) (.int .u8 16)).run Tryz.prog w = .ok (.agg (opC (opAt 16))) w ∧ (Instr.index 198 (.agg tblC) (.int .i64 16)).run Tryz.prog w = .ok (.agg (opC (opAt 16))) w := ⟨by kernel_rfl, by kernel_rfl⟩
theorem idx_tbl17 (w : World) : (Instr.index 198 (.agg tblC) (.int .u8 17)).run Tryz.prog w = .ok (.agg (opC (opAt 17))) w ∧ (Instr.index 198 (.agg tblC) (.int .i64 17)).run Tryz.prog w = .ok (.agg (opC (opAt 17))) w := ⟨by kernel_rfl, by kernel_rfl⟩
theorem idx_tbl18 (w : World) : (Instr.index 198 (.agg tblC) (.int .u8 18)).run Tryz.prog w = .ok (.agg (opC (opAt 18))) w ∧ (Instr.index 198 (.agg tblC) (.int .i64 18)).run Tryz.prog w = .ok (.agg (opC (opAt 18))) w := ⟨by kernel_rfl, by kernel_rfl⟩
theorem idx_tbl19 (w : World) : (Instr.index 198 (.agg tblC) (.int .u8 19)).run Tryz.prog w = .ok (.agg (opC (opAt 19))) w ∧ (Instr.index 198 (.agg tblC) (.int .i64 19)).run Tryz.prog w = .ok (.agg (opC (opAt 19))) w := ⟨by kernel_rfl, by kernel_rfl⟩
theorem idx_tbl20 (w : World) : (Instr.index 198 (.agg tblC) (.int .u8 20)).run Tryz.prog w = .ok (.agg (opC (opAt 20))) w ∧ (Instr.index 198 (.agg tblC) (.int .i64 20)).run Tryz.prog w = .ok (.agg (opC (opAt 20))) w := ⟨by kernel_rfl, by kernel_rfl⟩
theorem idx_tbl21 (w : World) : (Instr.index 198 (.agg tblC) (.int .u8 21)).run Tryz.prog w = .ok (.agg (opC (opAt 21))) w ∧ (Instr.index 198 (.agg tblC) (.int .i64 21)).run Tryz.prog w = .ok (.agg (opC (opAt 21))) w := ⟨by kernel_rfl, by kernel_rfl⟩
theorem idx_tbl (n : Nat) (h : n < 22) (w : World) : (Instr.index 198 (.agg tblC) (.int .u8 n)).run Tryz.prog w = .ok (.agg (opC (opAt n))) w ∧ (Instr.index 198 (.agg tblC) (.int .i64 n)).run Tryz.prog w = .ok (.agg (opC (opAt n))) w := by
 have h' : n = 0 ∨ n = 1 ∨ n = 2 ∨ n = 3 ∨ n = 4 ∨ n = 5 ∨ n = 6 ∨ n = 7 ∨ n = 8 ∨ n = 9 ∨ n = 10 ∨ n = 11 ∨ n = 12 ∨ n = 13 ∨ n = 14 ∨ n = 15 ∨ n = 16 ∨ n = 17 ∨ n = 18 ∨ n = 19 ∨ n = 20 ∨ n = 21 := by omega
 rcases h' with rfl | rfl | rfl | rfl | rfl | rfl | rfl | rfl | rfl | rfl | rfl | rfl | rfl | rfl | rfl | rfl | rfl | rfl | rfl | rfl | rfl | rfl
 ·exact idx_tbl0 w
 ·exact idx_tbl1 w
 ·exact idx_tbl2 w
 ·exact idx_tbl3 w
 ·exact idx_tbl4 w
 ·exact idx_tbl5 w
 ·exact idx_tbl6 w
 ·exact idx_tbl7 w
 ·exact idx_tbl8 w
 ·exact idx_tbl9 w
 ·exact idx_tbl10 w
 ·exact idx_tbl11 w
 ·exact idx_tbl12 w
 ·exact idx_tbl13 w
 ·exact idx_tbl14 w
 ·exact idx_tbl15 w
 ·exact idx_tbl16 w
 ·exact idx_tbl17 w
 ·exact idx_tbl18 w
 ·exact idx_tbl19 w
 ·exact idx_tbl20 w
 ·exact idx_tbl21 w
theorem new_block {w W : World} {o : Obj} (hg : Chg Non (w.alloc o) W) : W.heap[w.heap.size]? = some o :=
 (hg.block _ (by simp) (fun e => e)).trans (heap_alloc_new _ _)
def opS (s : ByteArray) (f : Frm) : Array Value := #[.string s, .bool f.a, .bool f.b, .bool f.c, .int .i64 f.n]
theorem opS_one (s : ByteArray) (f : Frm) : (opS s f).all (·.oneCell') = true := by simp [opS, Value.oneCell']
set_option maxRecDepth 100000 in
theorem of_ok (n : Nat) (w : World) (h1 : 1 ≤ n) (h2 : n ≤ 21) :
  Calls Tryz.prog 119 #[.int .u8 n] w fun e w' => e = .returned (.tuple #[.agg (opC (opAt n)), .bool true]) ∧ Chg Non w w' := by
 have g1 : decide ((n : Int) < 1) = false := by simp; omega
 have g2 : decide ((n : Int) > 21) = false := by simp; omega
 have hidx := fun w => (idx_tbl n (by omega) w).1
 have HT := Lib.hid (fun w => table_ok w)
 obtain ⟨F, hF⟩ : ∃ F, opAt n = F := ⟨_, rfl⟩
 rw [hF] at hidx ⊢
 clear hF
 obtain ⟨C, hC⟩ : ∃ C, opC F = C := ⟨_, rfl⟩
 have h1C : C.all (·.oneCell') = true := by rw [← hC]; exact opS_one _ _
 have h5C : C.size = 5 := by rw [← hC]; rfl
 obtain ⟨T, hT⟩ : ∃ T, tblC = T := ⟨_, rfl⟩
 rw [hT] at HT hidx
 rw [hC] at hidx ⊢
 clear hT hC
 have H1 := Lib.hid h1C
 have H5 := Lib.hid h5C
 clear h1C h5C
 go_enter Tryz.func119, Tryz.ntmps119
 go_wp2_with fail
 refine (HT.out _).mono ?_
 rintro e w' ⟨rfl, hg⟩
 have HG := Lib.hid hg
 have HB := Lib.hid (new_block hg)
 clear hg
 go_wp2_with (first
   | (refine sel none (.store 197 (.tmp 2) (.tmp 13)) ?_
      refine wpList_store_rowA rfl 197 (.tmp 2) (.tmp 13) rfl w.heap.size C rfl rfl 197 _ HB.out (by rw [H5.out]; exact info_op) (by rw [H5.out]; rfl) H1.out ?_
      intro W hgW hbW
      have HBW := Lib.hid hbW
      have HGW := Lib.hid hgW
      clear hbW hgW))
 exact bodyPost_ret (results_ct Tryz.results119 _ _ w.heap.size 197 C (0, 0) _ (.bool true) rfl rfl HBW.out Tryz.underlying197 rfl (by rw [H5.out]; exact info_op)) rfl ⟨rfl, (((Chg.refl Non w).alloc _).then_non HG.out).then_new HGW.out (fun x e => by omega)⟩
set_option maxRecDepth 100000 in
theorem of_no (n : Nat) (w : World) (h : n = 0 ∨ 21 < n) :
  Calls Tryz.prog 119 #[.int .u8 n] w fun e w' => e = .returned (.tuple #[.agg (opC (opAt n)), .bool false]) ∧ Chg Non w w' := by
 have hF : opAt n = opNone := by
  rcases h with rfl | h
  ·rfl
  ·exact opAt_big n (by omega)
 rw [hF]
 have h1C : opC opNone = #[.string ⟨#[]⟩, .bool false, .bool false, .bool false, .int .i64 0] := rfl
 rw [h1C]
 clear h1C hF
 rcases h with rfl | h
 ·go_enter Tryz.func119, Tryz.ntmps119
  go_wp2
  exact bodyPost_ret (results_ct Tryz.results119 _ _ w.heap.size 197 _ (0, 0) _ (.bool false) rfl rfl (heap_alloc_new _ _) Tryz.underlying197 rfl info_op) rfl ⟨rfl, (Chg.refl Non w).alloc _⟩
 ·have g1 : decide ((n : Int) < 1) = false := by simp; omega
  have g2 : decide ((n : Int) > 21) = true := by simp; omega
  go_enter Tryz.func119, Tryz.ntmps119
  go_wp2
  exact bodyPost_ret (results_ct Tryz.results119 _ _ w.heap.size 197 _ (0, 0) _ (.bool false) rfl rfl (heap_alloc_new _ _) Tryz.underlying197 rfl info_op) rfl ⟨rfl, (Chg.refl Non w).alloc _⟩
theorem of_any (n : Nat) (w : World) :
  Calls Tryz.prog 119 #[.int .u8 n] w fun e w' => e = .returned (.tuple #[.agg (opC (opAt n)), .bool (okB n)]) ∧ Chg Non w w' := by
 by_cases h : 1 ≤ n ∧ n ≤ 21
 ·have e : okB n = true := by simp [okB, h.1, h.2]
  rw [e]
  exact of_ok n w h.1 h.2
 ·have e : okB n = false := by simp [okB]; omega
  rw [e]
  exact of_no n w (by omega)
set_option maxRecDepth 100000 in
theorem register_ok (x : Nat) (has : Bool) (w : World) :
  Calls Tryz.prog 139 #[.int .u8 x, .bool has] w fun e w' => e = .returned (.bool (regB x has)) ∧ w = w' := by
 cases has with
 | false =>
  have e : regB x false = ((x : Int) == 0) := by rw [Bool.eq_iff_iff]; simp [regB]
  rw [e]
  go_enter Tryz.func139, Tryz.ntmps139
  go_wp2
  go_ret
  exact ⟨rfl, rfl⟩
 | true =>
  by_cases h : x < 8
  ·have g : decide ((x : Int) < 8) = true := by simp; omega
   have e : regB x true = true := by simp [regB, h]
   rw [e]
   go_enter Tryz.func139, Tryz.ntmps139
   go_wp2
   go_ret
   exact ⟨rfl, rfl⟩
  ·have g : decide ((x : Int) < 8) = false := by simp; omega
   have g2 : ((x : Int) == 0) = false := by simp; omega
   have e : regB x true = false := by simp [regB]; omega
   rw [e]
   go_enter Tryz.func139, Tryz.ntmps139
   go_wp2
   go_ret
   exact ⟨rfl, rfl⟩
end
section
open Go.RowKit
def insC (x : Ins) : Array Value := #[.int .u8 x.op, .int .u8 x.a, .int .u8 x.b, .int .u8 x.c, .int .i64 x.n]
theorem may_of (x : Ins) (o r1 r2 r3 n0 n1 : Bool) (ho : okB x.op = o) (h1 : regB x.a (opAt x.op).a = r1) (h2 : regB x.b (opAt x.op).b = r2) (h3 : regB x.c (opAt x.op).c = r3) (hn0 : decide (0 ≤ x.n) = n0) (hn1 : decide (x.n ≤ (opAt x.op).n) = n1) :
  mayB x = (o && (r1 && (r2 && (r3 && (n0 && n1))))) := by
 subst ho h1 h2 h3 hn0 hn1; rfl
theorem cells5 (w w' : World) (v0 v1 v2 v3 v4 : Value) (t : TypeId) (hg : Chg Non (w.alloc (.cells #[v0, v1, v2, v3, v4] t)) w') :
  w.heap.size < w'.heap.size ∧ w'.cell? ⟨w.heap.size, 0, none⟩ = some v0 ∧ w'.cell? ⟨w.heap.size, 1, none⟩ = some v1 ∧ w'.cell? ⟨w.heap.size, 2, none⟩ = some v2 ∧ w'.cell? ⟨w.heap.size, 3, none⟩ = some v3 ∧ w'.cell? ⟨w.heap.size, 4, none⟩ = some v4 := by
 have hb := new_block hg
 exact ⟨(Array.getElem?_eq_some_iff.1 hb).1, row_cell hb rfl, row_cell hb rfl, row_cell hb rfl, row_cell hb rfl, row_cell hb rfl⟩
set_option maxRecDepth 100000 in
theorem May_ok (x : Ins) (w : World) :
  Calls Tryz.prog 118 #[.agg #[.int .u8 x.op, .int .u8 x.a, .int .u8 x.b, .int .u8 x.c, .int .i64 x.n]] w fun e w' => e = .returned (.bool (mayB x)) ∧ Chg Non w w' := by
 obtain ⟨op, a, b, c, n⟩ := x
 have HO := Lib.hid (fun w => of_any op w)
 obtain ⟨o, ho⟩ : ∃ o, okB op = o := ⟨_, rfl⟩
 have hF : ∃ F, opAt op = F := ⟨_, rfl⟩
 obtain ⟨F, hF⟩ := hF
 obtain ⟨r1, h1⟩ : ∃ r1, regB a F.a = r1 := ⟨_, rfl⟩
 obtain ⟨r2, h2⟩ : ∃ r2, regB b F.b = r2 := ⟨_, rfl⟩
 obtain ⟨r3, h3⟩ : ∃ r3, regB c F.c = r3 := ⟨_, rfl⟩
 obtain ⟨n0, hn0⟩ : ∃ n0, decide (0 ≤ n) = n0 := ⟨_, rfl⟩
 obtain ⟨n1, hn1⟩ : ∃ n1, decide (n ≤ F.n) = n1 := ⟨_, rfl⟩
 have HM := Lib.hid (may_of ⟨op, a, b, c, n⟩ o r1 r2 r3 n0 n1 ho (by rw [hF]; exact h1) (by rw [hF]; exact h2) (by rw [hF]; exact h3) hn0 (by rw [hF]; exact hn1))
 rw [HM.out]
 clear HM
 have R1 := Lib.hid (fun w => register_ok a F.a w)
 have R2 := Lib.hid (fun w => register_ok b F.b w)
 have R3 := Lib.hid (fun w => register_ok c F.c w)
 rw [h1] at R1
 rw [h2] at R2
 rw [h3] at R3
 rw [ho, hF] at HO
 clear h1 h2 h3 ho hF
 have hop : opC F = #[.string ⟨F.name.toArray⟩, .bool F.a, .bool F.b, .bool F.c, .int .i64 F.n] := rfl
 rw [hop] at HO
 clear hop
 obtain ⟨s, hs⟩ : ∃ s : ByteArray, (⟨F.name.toArray⟩ : ByteArray) = s := ⟨_, rfl⟩
 obtain ⟨fa, hfa⟩ : ∃ fa, F.a = fa := ⟨_, rfl⟩
 obtain ⟨fb, hfb⟩ : ∃ fa, F.b = fa := ⟨_, rfl⟩
 obtain ⟨fc, hfc⟩ : ∃ fa, F.c = fa := ⟨_, rfl⟩
 obtain ⟨fn, hfn⟩ : ∃ fa, F.n = fa := ⟨_, rfl⟩
 rw [hs, hfa, hfb, hfc, hfn] at HO
 rw [hfa] at R1
 rw [hfb] at R2
 rw [hfc] at R3
 rw [hfn] at hn1
 clear hs hfa hfb hfc hfn
 have hz1 := fun (w' : World) (hg : Chg Non (w.alloc (.cells #[.int .u8 op, .int .u8 a, .int .u8 b, .int .u8 c, .int .i64 n] 143)) w') => cells5 w w' _ _ _ _ _ _ hg
 have HZ := Lib.hid hz1
 clear hz1
 cases o with
 | false =>
  go_enter Tryz.func118, Tryz.ntmps118
  go_wp2_with fail
  refine (HO.out _).mono ?_
  rintro e w' ⟨rfl, hg⟩
  go_wp2_with fail
  go_ret
  exact ⟨by simp, (((Chg.refl Non w).alloc _).then_non hg).alloc _⟩
 | true =>
  cases r1 with
  | false =>
   go_enter Tryz.func118, Tryz.ntmps118
   go_wp2_with fail
   refine (HO.out _).mono ?_
   rintro e w' ⟨rfl, hg⟩
   obtain ⟨hz, c0, c1, c2, c3, c4⟩ := HZ.out w' hg
   have HG := Lib.hid hg
   clear hg
   go_wp2_with (go_at_call 139; refine (R1.out _).mono ?_; rintro e v ⟨rfl, rfl⟩)
   go_ret
   exact ⟨by simp, (((Chg.refl Non w).alloc _).then_non HG.out).alloc _⟩
  | true =>
   cases r2 with
   | false =>
    go_enter Tryz.func118, Tryz.ntmps118
    go_wp2_with fail
    refine (HO.out _).mono ?_
    rintro e w' ⟨rfl, hg⟩
    obtain ⟨hz, c0, c1, c2, c3, c4⟩ := HZ.out w' hg
    have HG := Lib.hid hg
    clear hg
    go_wp2_with fail
    refine (R1.out _).mono ?_; rintro e v ⟨rfl, rfl⟩
    go_wp2_with fail
    refine (R2.out _).mono ?_; rintro e v ⟨rfl, rfl⟩
    go_wp2_with fail
    go_ret
    exact ⟨by simp, (((Chg.refl Non w).alloc _).then_non HG.out).alloc _⟩
   | true =>
    cases r3 with
    | false =>
     go_enter Tryz.func118, Tryz.ntmps118
     go_wp2_with fail
     refine (HO.out _).mono ?_
     rintro e w' ⟨rfl, hg⟩
     obtain ⟨hz, c0, c1, c2, c3, c4⟩ := HZ.out w' hg
     have HG := Lib.hid hg
     clear hg
     go_wp2_with fail
     refine (R1.out _).mono ?_; rintro e v ⟨rfl, rfl⟩
     go_wp2_with fail
     refine (R2.out _).mono ?_; rintro e v ⟨rfl, rfl⟩
     go_wp2_with fail
     refine (R3.out _).mono ?_; rintro e v ⟨rfl, rfl⟩
     go_wp2_with fail
     go_ret
     exact ⟨by simp, (((Chg.refl Non w).alloc _).then_non HG.out).alloc _⟩
    | true =>
     cases n0 <;> cases n1
     all_goals
      go_enter Tryz.func118, Tryz.ntmps118
      go_wp2_with fail
      refine (HO.out _).mono ?_
      rintro e w' ⟨rfl, hg⟩
      obtain ⟨hz, c0, c1, c2, c3, c4⟩ := HZ.out w' hg
      have HG := Lib.hid hg
      clear hg
      go_wp2_with fail
      refine (R1.out _).mono ?_; rintro e v ⟨rfl, rfl⟩
      go_wp2_with fail
      refine (R2.out _).mono ?_; rintro e v ⟨rfl, rfl⟩
      go_wp2_with fail
      refine (R3.out _).mono ?_; rintro e v ⟨rfl, rfl⟩
      go_wp2_with fail
      go_ret
      exact ⟨by simp, (((Chg.refl Non w).alloc _).then_non HG.out).alloc _⟩
end
end Go.Proofs.YtmnaleaghfbclaaGreatDoor
