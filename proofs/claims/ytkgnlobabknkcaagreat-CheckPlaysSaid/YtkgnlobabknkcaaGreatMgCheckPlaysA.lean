/- CheckPlays, part 1 of 27: contracts of the functions that it reaches, and the laws that they need, merged and shortened (from my texts XBase, XDeep, XIsaP, XVmP, XTypes, XAny, XHeld, XMini, XGen, XBts, XVmG, XCfg, XValA, XIdx, XSch, XRes, XVmA, XValB, XValC, XValD, XApart, XPairs, XRegAll). -/
import Derived.WalkKit
import Derived.WalkSpells
import Derived.WalkLawsBesides
import Derived.Deep.Draws
import Derived.Lib.Hide
import Derived.Deep.QuietTactic
import Derived.BigQuiet
import Derived.IntWalk
import Derived.Deep.MidRow
import Derived.Lib.AtoiAll
import Derived.Lib.ItoaNum
import Derived.Lib.Split
import Derived.Lib.SplitLaws
import Derived.Lib.Join
import Derived.Test.YtkgnlobabknkcaaGreatRows
import Derived.RegionTactic
import Derived.Deep.RegionHeld3
import Derived.Deep.AppendLies
import Derived.Maps.AppendAt
import Derived.Lib.AppendZerosOnto
import Derived.Laws.Cover3
import Derived.RangeFuncNested
import Derived.RangeFuncBound
import Derived.RangeFuncCalls
import Derived.RangeFuncLeaves
import Derived.RangeFuncBox
import Derived.Shelf.Abstract
import Derived.Shelf.RegionOpen
import Derived.OwnWalkIn
import Derived.TacticsInMore
import Derived.LoopNIn
import Derived.LoopIn
namespace Go.Proofs.YtkgnlobabknkcaaGreat
set_option linter.unusedVariables false
set_option linter.unusedSimpArgs false
set_option maxHeartbeats 8000000
set_option maxRecDepth 100000
section
open Go.RowKit
structure Chg (S : Nat → Prop) (w w' : World) : Prop where
 os : w'.os = w.os
 tape : w'.tape = w.tape
 output : w'.output = w.output
 size : w.heap.size ≤ w'.heap.size
 block : ∀ k, k < w.heap.size → ¬ S k → w'.heap[k]? = w.heap[k]?
def Non : Nat → Prop := fun _ => False
namespace Chg
variable {S T U : Nat → Prop} {a b c w w' : World}
theorem refl (S : Nat → Prop) (w : World) : Chg S w w := ⟨rfl, rfl, rfl, Nat.le_refl _, fun _ _ _ => rfl⟩
theorem trans (h : Chg S a b) (k : Chg T b c) (hS : ∀ x, S x → U x) (hT : ∀ x, x < a.heap.size → T x → U x) : Chg U a c :=
 ⟨k.os.trans h.os, k.tape.trans h.tape, k.output.trans h.output, Nat.le_trans h.size k.size, fun i hi hn =>
   (k.block i (Nat.lt_of_lt_of_le hi h.size) (fun e => hn (hT i hi e))).trans (h.block i hi (fun e => hn (hS i e)))⟩
theorem trans_same (h : Chg S a b) (k : Chg S b c) : Chg S a c := h.trans k (fun _ h => h) (fun _ _ h => h)
theorem then_non (h : Chg S a b) (k : Chg Non b c) : Chg S a c := h.trans k (fun _ h => h) (fun _ _ h => h.elim)
theorem non_then (h : Chg Non a b) (k : Chg S b c) : Chg S a c := h.trans k (fun _ h => h.elim) (fun _ _ h => h)
theorem then_new (h : Chg S a b) (k : Chg T b c) (hT : ∀ x, T x → a.heap.size ≤ x) : Chg S a c := h.trans k (fun _ h => h) (fun x hx h => absurd (hT x h) (by omega))
theorem mono (h : Chg S a b) (hS : ∀ x, S x → T x) : Chg T a b := ⟨h.os, h.tape, h.output, h.size, fun i hi hn => h.block i hi (fun e => hn (hS i e))⟩
theorem of_non (h : Chg Non a b) : Chg S a b := h.mono fun _ e => e.elim
theorem drew (h : Chg S a w) : Chg S a w.drew := ⟨h.os, h.tape, h.output, h.size, h.block⟩
theorem drewN (h : Chg S a w) (n : Nat) : Chg S a (w.drewN n) := ⟨h.os, h.tape, h.output, h.size, h.block⟩
theorem alloc (h : Chg S a w) (o : Obj) : Chg S a (w.alloc o) :=
 ⟨h.os, h.tape, h.output, Nat.le_trans h.size (by simp), fun i hi hn => (Below.heap_alloc w o i (Nat.lt_of_lt_of_le hi h.size)).trans (h.block i hi hn)⟩
theorem setCell (h : Chg S a w) {p : Addr} (hp : S p.block ∨ a.heap.size ≤ p.block) (u : Value) : Chg S a (w.setCell p u) :=
 ⟨h.os, h.tape, h.output, by simpa [World.setCell] using h.size, fun i hi hn => (Below.heap_setCell w p u i (by
   rintro rfl
   rcases hp with hp | hp
   · exact hn hp
   · omega)).trans (h.block i hi hn)⟩
theorem setRow (h : Chg S a w) {g : Nat} (hp : S g ∨ a.heap.size ≤ g) (cs : Array Value) : Chg S a (w.setRow g cs) :=
 ⟨h.os, h.tape, h.output, by simpa [World.setRow] using h.size, fun i hi hn => (setRow_other w g i cs (by
   rintro rfl
   rcases hp with hp | hp
   · exact hn hp
   · omega)).trans (h.block i hi hn)⟩
theorem of_below {B : Nat} (h : Below B w w') (hB : w.heap.size ≤ B) : Chg S w w' := ⟨h.os, h.tape, h.output, h.size, fun i hi _ => h.block i (by omega)⟩
theorem below {B : Nat} (h : Chg S w w') (hS : ∀ k, S k → B ≤ k) (hB : B ≤ w.heap.size) : Below B w w' :=
 ⟨h.os, h.tape, h.output, h.size, fun i hi => h.block i (by omega) (fun e => absurd (hS i e) (by omega))⟩
theorem below_non (h : Chg Non w w') : Below w.heap.size w w' := h.below (fun _ e => e.elim) (Nat.le_refl _)
theorem grown {row : Option Nat} (h : Chg S a w) (hg : w.grownBy w' row) (hr : ∀ g, row = some g → S g ∨ a.heap.size ≤ g) : Chg S a w' :=
 ⟨hg.os.trans h.os, hg.tape.trans h.tape, hg.output.trans h.output, Nat.le_trans h.size hg.size, fun i hi hn =>
   (hg.block i (Nat.lt_of_lt_of_le hi h.size) (fun e => by
     rcases hr i e.symm with h' | h'
     · exact hn h'
     · omega)).trans (h.block i hi hn)⟩
theorem cell (h : Chg S w w') {p : Addr} (hp : p.block < w.heap.size) (hn : ¬ S p.block) : w'.cell? p = w.cell? p := World.cell?_of_block (h.block p.block hp hn)
theorem frozen (h : Chg S w w') {p : Addr} (hp : p.block < w.heap.size) (hn : ¬ S p.block) : w'.frozen? p = w.frozen? p := World.frozen?_of_block (h.block p.block hp hn)
end Chg
theorem lt_of_cell {w : World} {p : Addr} {v : Value} (h : w.cell? p = some v) : p.block < w.heap.size := by
 rcases Nat.lt_or_ge p.block w.heap.size with hlt | hge
 ·exact hlt
 ·simp [World.cell?, Array.getElem?_eq_none hge] at h
theorem Chg.cell_some {S : Nat → Prop} {w w' : World} (h : Chg S w w') {p : Addr} {v : Value} (hc : w.cell? p = some v) (hn : ¬ S p.block) : w'.cell? p = some v :=
 (h.cell (lt_of_cell hc) hn).trans hc
def bv (x : UInt8) : Value := .int .u8 (x.toNat : Int)
def Rd (w : World) (A : Option Addr) (l : List UInt8) : Prop :=
 ∀ (i : Nat) (x : UInt8), l[i]? = some x → ∃ b o, A = some ⟨b, o, none⟩ ∧ w.cell? ⟨b, o + i, none⟩ = some (.int .u8 (x.toNat : Int))
theorem Rd.nil (w : World) (A : Option Addr) : Rd w A [] := fun i x h => by simp at h
theorem Rd.at_ {w : World} {A : Option Addr} {l : List UInt8} (h : Rd w A l) (h0 : 0 < l.length) :
  ∃ b o, A = some ⟨b, o, none⟩ ∧ b < w.heap.size ∧ ∀ i (hi : i < l.length), w.cell? ⟨b, o + i, none⟩ = some (.int .u8 (l[i].toNat : Int)) := by
 obtain ⟨b, o, rfl, hc⟩ := h 0 l[0] (List.getElem?_eq_getElem h0)
 refine ⟨b, o, rfl, lt_of_cell hc, fun i hi => ?_⟩
 obtain ⟨b', o', e, hc'⟩ := h i l[i] (List.getElem?_eq_getElem hi)
 simp only [Option.some.injEq, Addr.mk.injEq, and_true] at e
 obtain ⟨rfl, rfl⟩ := e
 exact hc'
theorem Rd.of_at {w : World} {b o : Nat} {l : List UInt8} (h : ∀ i (hi : i < l.length), w.cell? ⟨b, o + i, none⟩ = some (.int .u8 (l[i].toNat : Int))) : Rd w (some ⟨b, o, none⟩) l := by
 intro i x hx
 obtain ⟨hi, rfl⟩ := List.getElem?_eq_some_iff.1 hx
 exact ⟨b, o, rfl, h i hi⟩
theorem Rd.keep {S : Nat → Prop} {w w' : World} {A : Option Addr} {l : List UInt8} (h : Rd w A l) (hc : Chg S w w') (hn : ∀ b o, A = some ⟨b, o, none⟩ → l ≠ [] → ¬ S b) : Rd w' A l := by
 intro i x hx
 obtain ⟨b, o, rfl, hcell⟩ := h i x hx
 exact ⟨b, o, rfl, hc.cell_some hcell (hn b o rfl (by rintro rfl; simp at hx))⟩
theorem Rd.non {w w' : World} {A : Option Addr} {l : List UInt8} (h : Rd w A l) (hc : Chg Non w w') : Rd w' A l := h.keep hc fun _ _ _ _ e => e.elim
theorem Rd.drop {w : World} {b o : Nat} {l : List UInt8} (h : Rd w (some ⟨b, o, none⟩) l) (k : Nat) : Rd w (some ⟨b, o + k, none⟩) (l.drop k) := by
 intro i x hx
 rw [List.getElem?_drop] at hx
 obtain ⟨b', o', e, hc⟩ := h (k + i) x hx
 simp only [Option.some.injEq, Addr.mk.injEq, and_true] at e
 obtain ⟨rfl, rfl⟩ := e
 exact ⟨b, o + k, rfl, by rw [Nat.add_assoc]; exact hc⟩
theorem Rd.take {w : World} {A : Option Addr} {l : List UInt8} (h : Rd w A l) (k : Nat) : Rd w A (l.take k) := by
 intro i x hx
 have hk : i < k := by have := (List.getElem?_eq_some_iff.1 hx).1; rw [List.length_take] at this; omega
 rw [List.getElem?_take_of_lt hk] at hx
 exact h i x hx
def Own (B : Nat) (w : World) (A : Option Addr) (l : List UInt8) : Prop :=
 ∀ (i : Nat) (x : UInt8), l[i]? = some x → ∃ b o, A = some ⟨b, o, none⟩ ∧ B ≤ b ∧ w.cell? ⟨b, o + i, none⟩ = some (.int .u8 (x.toNat : Int)) ∧ w.frozen? ⟨b, o + i, none⟩ = false
theorem Own.rd {B : Nat} {w : World} {A : Option Addr} {l : List UInt8} (h : Own B w A l) : Rd w A l := fun i x hx => by
 obtain ⟨b, o, e, _, hc, _⟩ := h i x hx
 exact ⟨b, o, e, hc⟩
theorem Own.nil (B : Nat) (w : World) (A : Option Addr) : Own B w A [] := fun i x h => by simp at h
theorem Own.mono {B B' : Nat} {w : World} {A : Option Addr} {l : List UInt8} (h : Own B w A l) (hB : B' ≤ B) : Own B' w A l := fun i x hx => by
 obtain ⟨b, o, e, hb, hc, hf⟩ := h i x hx
 exact ⟨b, o, e, by omega, hc, hf⟩
theorem Own.keep {S : Nat → Prop} {B : Nat} {w w' : World} {A : Option Addr} {l : List UInt8} (h : Own B w A l) (hc : Chg S w w') (hn : ∀ b o, A = some ⟨b, o, none⟩ → B ≤ b → l ≠ [] → ¬ S b) : Own B w' A l := by
 intro i x hx
 obtain ⟨b, o, rfl, hb, hcell, hf⟩ := h i x hx
 have hne := hn b o rfl hb (by rintro rfl; simp at hx)
 exact ⟨b, o, rfl, hb, hc.cell_some hcell hne, (hc.frozen (lt_of_cell hcell) hne).trans hf⟩
theorem Own.non {B : Nat} {w w' : World} {A : Option Addr} {l : List UInt8} (h : Own B w A l) (hc : Chg Non w w') : Own B w' A l := h.keep hc fun _ _ _ _ _ e => e.elim
theorem Own.ge {B : Nat} {w : World} {b o : Nat} {l : List UInt8} (h : Own B w (some ⟨b, o, none⟩) l) (h0 : l ≠ []) : B ≤ b := by
 obtain ⟨x, r, rfl⟩ := List.exists_cons_of_ne_nil h0
 obtain ⟨b', o', e, hb, _⟩ := h 0 x rfl
 simp only [Option.some.injEq, Addr.mk.injEq, and_true] at e
 obtain ⟨rfl, rfl⟩ := e
 exact hb
theorem own_new (w : World) (t : TypeId) (cs : Array Value) (l : List UInt8) (h : cs.toList = l.map bv) : Own w.heap.size (w.alloc (.cells cs t)) (some ⟨w.heap.size, 0, none⟩) l := by
 intro i x hx
 have hb : (w.alloc (.cells cs t)).heap[w.heap.size]? = some (.cells cs t (0, 0)) := (MapKept.heap_alloc w _).1
 have hc : cs[i]? = some (bv x) := by
  rw [← Array.getElem?_toList, h, List.getElem?_map, hx]; rfl
 exact ⟨w.heap.size, 0, rfl, Nat.le_refl _, by rw [Nat.zero_add]; simp only [World.cell?]; rw [hb]; exact hc, by simp only [World.frozen?]; rw [hb]; simp⟩
def RetB (w : World) (l : List UInt8) (e : Ending) (w' : World) : Prop :=
 ∃ A c, e = .returned (.slice A l.length c) ∧ l.length ≤ c ∧ c ≤ maxLen ∧ Own w.heap.size w' A l ∧ Chg Non w w'
theorem RetB.from {w w1 w' : World} {l : List UInt8} {e : Ending} (h : RetB w1 l e w') (hg : Chg Non w w1) : RetB w l e w' := by
 obtain ⟨A, c, he, hc, hm, ho, hg'⟩ := h
 exact ⟨A, c, he, hc, hm, ho.mono hg.size, hg.then_non hg'⟩
theorem quiet_left {P : Program} {f : FuncId} {args : Array Value} {w : World} {n : Nat} {v : Value}
  (h : Calls P f args (w.drewN n) fun e w' => e = .returned v ∧ w.drewN n = w') : Calls P f args (w.drewN n) fun e w'' => e = .returned v ∧ ∃ m, w'' = w.drewN m :=
 h.mono fun _ _ ⟨he, hm⟩ => ⟨he, n, hm.symm⟩
theorem Rd.drewN {w : World} {A : Option Addr} {l : List UInt8} (h : Rd w A l) (n : Nat) : Rd (w.drewN n) A l := h
end
section
open Go.RowKit
def From (B : Nat) : Nat → Prop := fun b => B ≤ b
def Upto (B : Nat) : Nat → Prop := fun b => b < B
theorem range_keepS {S : Nat → Prop} {w w' : World} {b o : Nat} {vs : List Value} (h : w.rangeAt b o vs) (hg : Chg S w w') (hn : ¬ S b) : w'.rangeAt b o vs := fun j v hv => hg.cell_some (h j v hv) hn
def RdL {α : Type} (R : World → α → List Value → Prop) (I : Nat → Prop) (sz : Nat) (w : World) (A : Option Addr) (l : List α) : Prop :=
 ∀ (i : Nat) (a : α), l[i]? = some a → ∃ b o vs, A = some ⟨b, o, none⟩ ∧ I b ∧ vs.length = sz ∧ w.rangeAt b (o + i * sz) vs ∧ R w a vs
namespace RdL
variable {α : Type} {R R' : World → α → List Value → Prop} {I I' S : Nat → Prop} {sz : Nat} {w w' : World} {A : Option Addr} {l : List α}
theorem nil (R : World → α → List Value → Prop) (I : Nat → Prop) (sz : Nat) (w : World) (A : Option Addr) : RdL R I sz w A [] := fun i a h => by simp at h
theorem keep (h : RdL R I sz w A l) (hg : Chg S w w') (hI : ∀ b, I b → ¬ S b) (hR : ∀ a vs, a ∈ l → R w a vs → R w' a vs) : RdL R I sz w' A l := by
 intro i a ha
 obtain ⟨b, o, vs, e, hb, hl, hc, hr⟩ := h i a ha
 exact ⟨b, o, vs, e, hb, hl, range_keepS hc hg (hI b hb), hR a vs (List.mem_of_getElem? ha) hr⟩
theorem non (h : RdL R I sz w A l) (hg : Chg Non w w') (hR : ∀ a vs, R w a vs → R w' a vs) : RdL R I sz w' A l := h.keep hg (fun _ _ e => e) (fun a vs _ => hR a vs)
theorem mono (h : RdL R I sz w A l) (hI : ∀ b, I b → I' b) (hR : ∀ a vs, a ∈ l → R w a vs → R' w a vs) : RdL R' I' sz w A l := by
 intro i a ha
 obtain ⟨b, o, vs, e, hb, hl, hc, hr⟩ := h i a ha
 exact ⟨b, o, vs, e, hI b hb, hl, hc, hR a vs (List.mem_of_getElem? ha) hr⟩
theorem at_ (h : RdL R I sz w A l) (h0 : 0 < l.length) : ∃ b o, A = some ⟨b, o, none⟩ ∧ I b ∧ ∀ i a, l[i]? = some a → ∃ vs, vs.length = sz ∧ w.rangeAt b (o + i * sz) vs ∧ R w a vs := by
 obtain ⟨b, o, vs, rfl, hb, _⟩ := h 0 l[0] (List.getElem?_eq_getElem h0)
 refine ⟨b, o, rfl, hb, fun i a ha => ?_⟩
 obtain ⟨b', o', vs', e, hb', hl, hc, hr⟩ := h i a ha
 injection e with e
 injection e with e1 e2 _
 subst e1 e2
 exact ⟨vs', hl, hc, hr⟩
end RdL
def SlV {α : Type} (R : World → α → List Value → Prop) (I : Nat → Prop) (sz : Nat) (w : World) (l : List α) (v : Value) : Prop :=
 ∃ A c, v = .slice A l.length c ∧ l.length ≤ c ∧ c ≤ maxLen ∧ RdL R I sz w A l
theorem SlV.keep {α : Type} {R : World → α → List Value → Prop} {I S : Nat → Prop} {sz : Nat} {w w' : World} {l : List α} {v : Value} (h : SlV R I sz w l v) (hg : Chg S w w') (hI : ∀ b, I b → ¬ S b) (hR : ∀ a vs, a ∈ l → R w a vs → R w' a vs) : SlV R I sz w' l v := by
 obtain ⟨A, c, h1, h2, h3, h4⟩ := h
 exact ⟨A, c, h1, h2, h3, h4.keep hg hI hR⟩
theorem SlV.mono {α : Type} {R R' : World → α → List Value → Prop} {I I' : Nat → Prop} {sz : Nat} {w : World} {l : List α} {v : Value} (h : SlV R I sz w l v) (hI : ∀ b, I b → I' b) (hR : ∀ a vs, a ∈ l → R w a vs → R' w a vs) : SlV R' I' sz w l v := by
 obtain ⟨A, c, h1, h2, h3, h4⟩ := h
 exact ⟨A, c, h1, h2, h3, h4.mono hI hR⟩
def BytesV (I : Nat → Prop) (w : World) (l : List UInt8) (v : Value) : Prop := ∃ A c, v = .slice A l.length c ∧ l.length ≤ c ∧ c ≤ maxLen ∧ Rd w A l ∧ ∀ b o, A = some ⟨b, o, none⟩ → l ≠ [] → I b
namespace BytesV
variable {I I' S : Nat → Prop} {w w' : World} {l : List UInt8} {v : Value}
theorem keep (h : BytesV I w l v) (hg : Chg S w w') (hI : ∀ b, I b → ¬ S b) : BytesV I w' l v := by
 obtain ⟨A, c, h1, h2, h3, h4, h5⟩ := h
 exact ⟨A, c, h1, h2, h3, h4.keep hg (fun b o e hl => hI b (h5 b o e hl)), h5⟩
theorem non (h : BytesV I w l v) (hg : Chg Non w w') : BytesV I w' l v := h.keep hg (fun _ _ e => e)
theorem mono (h : BytesV I w l v) (hI : ∀ b, I b → I' b) : BytesV I' w l v := by
 obtain ⟨A, c, h1, h2, h3, h4, h5⟩ := h
 exact ⟨A, c, h1, h2, h3, h4, fun b o e hl => hI b (h5 b o e hl)⟩
theorem nil (I : Nat → Prop) (w : World) : BytesV I w [] (.slice none 0 0) := ⟨none, 0, rfl, Nat.le_refl _, by simp, Rd.nil _ _, fun _ _ e => by cases e⟩
end BytesV
theorem own_bytes {B : Nat} {w : World} {A : Option Addr} {l : List UInt8} {c : Nat} (h : Own B w A l) (hc : l.length ≤ c) (hm : c ≤ maxLen) : BytesV (From B) w l (.slice A l.length c) :=
 ⟨A, c, rfl, hc, hm, h.rd, fun b o e hl => by subst e; exact h.ge hl⟩
end
section

end
section
structure Pt where
 id : Int
 size : Int
 keep : Bool
 r : List Nat
 pc : Nat
 st : Nat
 mem : List UInt8
structure Pt.Bd (p : Pt) : Prop where
 r8 : p.r.length = 8
 rb : ∀ i, p.r.getD i 0 < 4294967296
 pcb : p.pc < 4294967296
 stb : p.st < 256
 idb : -9223372036854775808 ≤ p.id ∧ p.id ≤ 9223372036854775807
 sizeb : -9223372036854775808 ≤ p.size ∧ p.size ≤ 9223372036854775807
def Pt.g (p : Pt) (a : Nat) : Nat := p.r.getD a 0
def Pt.set (p : Pt) (a v : Nat) : Pt := { p with r := p.r.set a v }
def put (m : List UInt8) (at_ : Nat) (b : List UInt8) : List UInt8 := m.take at_ ++ (b ++ m.drop (at_ + b.length))
end
section
open Go.RowKit
theorem info_u8 : (Tryz.prog.info? 5).map (fun i => (i.zero, i.size, i.bytes)) = some (some (.int .u8 0), 1, 1) := by kernel_rfl
theorem madeCells_one (z : Value) (n : Nat) : madeCells #[z] n = Array.replicate n z := by
 apply Array.ext
 ·simp [madeCells]
 ·intro i h1 h2
  simp [madeCells, Nat.mod_one]
theorem mk_bytes (n : Int) (h0 : 0 ≤ n) (h1 : n ≤ 140737488355328) (W : World) :
  (Instr.makeSlice 29 (.int .i64 n) (.int .i64 n)).run Tryz.prog W = .ok (.slice (some ⟨W.heap.size, 0, none⟩) n.toNat n.toNat) (W.alloc (.cells (Array.replicate n.toNat (.int .u8 0)) 5)) := by
 obtain ⟨i, hi, hz, hs, hb⟩ := info_parts info_u8
 have h := run_make (P := Tryz.prog) W 29 5 i (.int .u8 0) Tryz.underlying29 hi hz .i64 .i64 n n h0 (Int.le_refl _) (by rw [hb]; omega) (by omega)
 rw [h, hs, Nat.mul_one]
 show Result.ok _ (W.alloc (.cells (madeCells #[.int .u8 0] n.toNat) _)) = _
 rw [madeCells_one]
end
section
open Go.RowKit
section
variable {P : Program} {md : Region.Mode} {ops : Array Oper} {Q : Exit → Act → World → Prop} {fuel : Nat} {listed : Array Bool} {a : Act} {w : World} {K : Act → World → Prop} {i : Nat}
theorem wp_cutB {id : Nat} {b : Bool} {α : Type} (f : α → Act → Act) (R : α → World → Prop) (h : (Code.region id ops b).wp P (fun e x v => e = .normal ∧ ∃ y, x = f y a ∧ R y v) a w) (hk : ∀ y v, R y v → Q .normal (f y a) v) : (Code.region id ops b).wp P Q a w :=
 Code.wp_mono (fun e x v ⟨he, y, hx, hr⟩ => by subst he; subst hx; exact hk y v hr) h
theorem wpList_wanted {rest : List Oper} {o : Oper} (hw : Region.wanted o (yielded ops a.tmps) = true) (h : ∀ K : Act → World → Prop, (∀ a w, wpList P ops Q rest a w → K a w) → o.wp P a w K Q) : wpList P ops Q (o :: rest) a w :=
 wpList_step fun K hK => by rw [if_pos hw]; exact h K hK
theorem wpList_loadW {rest : List Oper} {o : Oper} (d : Option Tmp) (ty : TypeId) (x : Operand) (b off : Nat) (C : Array Value) (td : TypeDesc) (hdst : o.dst = d) (ho : o.op = .load ty x) (hw : Region.wanted o (yielded ops a.tmps) = true)
  (hx : a.eval x = .pointer (some ⟨b, off, none⟩)) (hR : w.rangeAt b off C.toList) (hu : P.underlying ty = some td) (hd : td.isRow = true) (hz : (P.info? ty).map (·.size) = some C.size) (h : wpList P ops Q rest (a.put d (.agg C)) w) : wpList P ops Q (o :: rest) a w := by
 subst hdst
 exact wpList_wanted hw fun K hK => wp_load_mid ty x ho b off hx C.toList td hR hu hd (by rw [hz, Array.length_toList]) (hK _ _ h)
end
end
section
open Go.RowKit
section
variable {P : Program} {md : Region.Mode} {ops : Array Oper} {Q : Exit → Act → World → Prop} {S : World → Prop} {fuel : Nat} {listed : Array Bool} {a : Act} {w : World}
theorem h_pure (i : Nat) (d : Option Tmp) (v : Value) {oi : Oper} (hi : ops[i]? = some oi) (hs : Region.noSelect ops = true) (hf : Region.free md ops listed i = true) (hr : (Region.ready md ops listed).contains i = true)
  (hdst : oi.dst = d) (hQ : ∀ c a w, Q (.panic c) (a.put d v) w → Q (.panic c) a w) (hw : Region.wanted oi (yielded ops a.tmps) = true) (he : ∀ w, S w → (execOp a.eval oi).run P w = .ok (.value v) w) (hS : S w)
  (h : wpAnyH P md ops Q S fuel (listed.setIfInBounds i true) (a.put d v) w) : wpAnyH P md ops Q S (fuel + 1) listed a w := by
 subst hdst
 exact wpAnyH_take hi hs hf hr hQ (.inl ⟨hw, he⟩) hS h
theorem h_skip (i : Nat) (d : Option Tmp) {oi : Oper} (hi : ops[i]? = some oi) (hs : Region.noSelect ops = true) (hf : Region.free md ops listed i = true) (hr : (Region.ready md ops listed).contains i = true)
  (hdst : oi.dst = d) (hQ : ∀ c a w, Q (.panic c) (a.put d undef) w → Q (.panic c) a w) (hw : Region.wanted oi (yielded ops a.tmps) = false) (hS : S w)
  (h : wpAnyH P md ops Q S fuel (listed.setIfInBounds i true) (a.put d undef) w) : wpAnyH P md ops Q S (fuel + 1) listed a w := by
 subst hdst
 exact wpAnyH_take hi hs hf hr hQ (.inr ⟨hw, rfl⟩) hS h
theorem h_one (i : Nat) {oi : Oper} (hr : Region.ready md ops listed = [i]) (hi : ops[i]? = some oi) (hw : Region.wanted oi (yielded ops a.tmps) = true)
  (h : ∀ K : Act → World → Prop, Shut (∀ a w, S w → (S w → wpAnyH P md ops Q S fuel (listed.setIfInBounds i true) a w) → K a w) → Oper.wp P oi a w K Q) : wpAnyH P md ops Q S (fuel + 1) listed a w :=
 wpAnyH_ready hr (by simp) (AllReadyH.cons hi (fun K hK => by rw [if_pos hw]; exact h K hK) AllReadyH.nil)
theorem h_load (i : Nat) (dd : Option Tmp) {oi : Oper} (ty : TypeId) (x : Operand) (b o : Nat) (C : Array Value) (d : TypeDesc) (hi : ops[i]? = some oi) (hs : Region.noSelect ops = true) (hf : Region.free md ops listed i = true) (hr : (Region.ready md ops listed).contains i = true)
  (hdst : oi.dst = dd) (ho : oi.op = .load ty x) (hQ : ∀ c a w, Q (.panic c) (a.put dd (.agg C)) w → Q (.panic c) a w) (hw : Region.wanted oi (yielded ops a.tmps) = true)
  (hx : a.eval x = .pointer (some ⟨b, o, none⟩)) (hR : ∀ w, S w → w.rangeAt b o C.toList) (hu : P.underlying ty = some d) (hd : d.isRow = true) (hz : (P.info? ty).map (·.size) = some C.size) (hS : S w)
  (h : wpAnyH P md ops Q S fuel (listed.setIfInBounds i true) (a.put dd (.agg C)) w) : wpAnyH P md ops Q S (fuel + 1) listed a w := by
 subst hdst
 exact wpAnyH_take hi hs hf hr hQ (yieldsIf_load_mid hw ty x ho b o hx C.toList d hR hu hd (by rw [hz, Array.length_toList])) hS h
theorem h_store (i : Nat) {oi : Oper} (ty : TypeId) (x y : Operand) (g : Nat) (C : Array Value) (hr : Region.ready md ops listed = [i]) (hi : ops[i]? = some oi) (hw : Region.wanted oi (yielded ops a.tmps) = true)
  (hdst : oi.dst = none) (ho : oi.op = .store ty x y) (hx : a.eval x = .pointer (some ⟨g, 0, none⟩)) (hy : a.eval y = .agg C) (t : TypeId) (hold : ∃ old : Array Value, w.heap[g]? = some (.cells old t (0, 0)) ∧ old.size = C.size) (hz : (P.info? ty).map (·.size) = some C.size)
  (h1 : C.all (·.oneCell') = true) (hS : ∀ W, Chg (fun k => k = g) w W → W.heap[g]? = some (.cells C t (0, 0)) → S W)
  (h : ∀ W, Chg (fun k => k = g) w W → W.heap[g]? = some (.cells C t (0, 0)) → wpAnyH P md ops Q S fuel (listed.setIfInBounds i true) a W) : wpAnyH P md ops Q S (fuel + 1) listed a w := by
 obtain ⟨old, hg, hold⟩ := hold
 have hput : a.put oi.dst undef = a := by rw [hdst]; rfl
 have k1 : Chg (fun k => k = g) w (w.setRow g C) := (Chg.refl (fun k => k = g) _).setRow (.inl rfl) _
 have k2 := setRow_heap w g old C t (0, 0) hg
 exact h_one i hr hi hw (fun K hK => wp_store_row ty x y ho g C hx hy t old hg hz hold h1 (by rw [hput]; exact hK.out _ _ (hS _ k1 k2) (fun _ => h _ k1 k2)))
end
end
section
open Go.RowKit
theorem sA {α : Type _} (l : List α) (i : Nat) (a : α) : l.toArray.setIfInBounds i a = (l.set i a).toArray := List.setIfInBounds_toArray ..
theorem sB {α : Type _} {x a : α} {xs : List α} : (x :: xs).set 0 a = a :: xs := rfl
theorem sC {α : Type _} {x a : α} {xs : List α} {i : Nat} : (x :: xs).set (i + 1) a = x :: xs.set i a := rfl
section
variable {P : Program} {md : Region.Mode} {ops : Array Oper} {Q : Exit → Act → World → Prop} {S : World → Prop} {fuel : Nat} {listed listed' : Array Bool} {a a' : Act} {w : World}
theorem hp (i : Nat) (d : Tmp) (v : Value) {oi : Oper} (hi : ops[i]? = some oi) (hS : S w)
  (h : wpAnyH P md ops Q S fuel listed' a' w)
  (he : ∀ w, S w → (execOp a.eval oi).run P w = .ok (.value v) w := by intro W hW; go_simp)
  (ha : a.put (some d) v = a' := by first | (simp only [Act.put, List.setIfInBounds_toArray, List.set_cons_zero, List.set_cons_succ] <;> rfl) | rfl)
  (hl : listed.setIfInBounds i true = listed' := by first | (simp only [List.setIfInBounds_toArray, List.set_cons_zero, List.set_cons_succ] <;> rfl) | rfl)
  (hQ : ∀ c a w, Q (.panic c) (a.put (some d) v) w → Q (.panic c) a w := by exact fun _ _ _ h => h)
  (hs : Region.noSelect ops = true := by kernel_rfl) (hf : Region.free md ops listed i = true := by kernel_rfl) (hr : (Region.ready md ops listed).contains i = true := by kernel_rfl)
  (hdst : oi.dst = some d := by kernel_rfl) (hw : Region.wanted oi (yielded ops a.tmps) = true := by kernel_rfl) : wpAnyH P md ops Q S (fuel + 1) listed a w :=
 h_pure i (some d) v hi hs hf hr hdst hQ hw he hS (by rw [ha, hl]; exact h)
theorem hs (i : Nat) (d : Tmp) {oi : Oper} (hi : ops[i]? = some oi) (hS : S w)
  (h : wpAnyH P md ops Q S fuel listed' a' w)
  (ha : a.put (some d) undef = a' := by first | (simp only [Act.put, List.setIfInBounds_toArray, List.set_cons_zero, List.set_cons_succ] <;> rfl) | rfl)
  (hl : listed.setIfInBounds i true = listed' := by first | (simp only [List.setIfInBounds_toArray, List.set_cons_zero, List.set_cons_succ] <;> rfl) | rfl)
  (hQ : ∀ c a w, Q (.panic c) (a.put (some d) undef) w → Q (.panic c) a w := by exact fun _ _ _ h => h)
  (hs : Region.noSelect ops = true := by kernel_rfl) (hf : Region.free md ops listed i = true := by kernel_rfl) (hr : (Region.ready md ops listed).contains i = true := by kernel_rfl)
  (hdst : oi.dst = some d := by kernel_rfl) (hw : Region.wanted oi (yielded ops a.tmps) = false := by kernel_rfl) : wpAnyH P md ops Q S (fuel + 1) listed a w :=
 h_skip i (some d) hi hs hf hr hdst hQ hw hS (by rw [ha, hl]; exact h)
theorem h1o (i : Nat) {oi : Oper} (hi : ops[i]? = some oi) (h : ∀ K : Act → World → Prop, Shut (∀ a w, S w → (S w → wpAnyH P md ops Q S fuel (listed.setIfInBounds i true) a w) → K a w) → Oper.wp P oi a w K Q)
  (hr : Region.ready md ops listed = [i] := by kernel_rfl) (hw : Region.wanted oi (yielded ops a.tmps) = true := by kernel_rfl) : wpAnyH P md ops Q S (fuel + 1) listed a w := h_one i hr hi hw h
theorem hdn (h : Q .normal a w) (n : Nat) (hr : Region.ready md ops listed = [] := by kernel_rfl) : wpAnyH P md ops Q S n listed a w := wpAnyH_done hr h n
end
theorem Lh {p : Prop} (h : p) : Hid p := Lib.hid h
end
section
open Go.RowKit
theorem sel {P : Program} {ops : Array Oper} {rest : List Oper} {a : Act} {w : World} {Q : Exit → Act → World → Prop} (d : Option Tmp) (op : Op) {ty : TypeId} {pos : String} {af : Array Edge} {g : Option (Nat × Bool)}
  (h : wpList P ops Q (⟨d, op, ty, pos, af, g⟩ :: rest) a w) : wpList P ops Q (⟨d, op, ty, pos, af, g⟩ :: rest) a w := h
theorem wpList_store_rowA {P : Program} {w : World} {ops : Array Oper} {rest : List Oper} {o : Oper} {a : Act} {Q : Exit → Act → World → Prop} (hgd : o.guard = none) (ty : TypeId) (x y : Operand) (ho : o.op = .store ty x y)
  (g : Nat) (cells : Array Value) (hx : a.eval x = .pointer (some ⟨g, 0, none⟩)) (hy : a.eval y = .agg cells)
  (t : TypeId) (old : Array Value) (hg : w.heap[g]? = some (.cells old t (0, 0))) (hi : (P.info? ty).map (·.size) = some cells.size)
  (hold : old.size = cells.size) (h1 : cells.all (·.oneCell') = true)
  (h : ∀ W, Chg (fun k => k = g) w W → W.heap[g]? = some (.cells cells t (0, 0)) → wpList P ops Q rest (a.put o.dst undef) W) : wpList P ops Q (o :: rest) a w :=
 wpList_store_row hgd ty x y ho g cells hx hy t old hg hi hold h1 (h _ ((Chg.refl (fun k => k = g) _).setRow (.inl rfl) _) (setRow_heap _ _ _ _ _ _ hg))
theorem row_cell {w : World} {b : Nat} {C : Array Value} {t : TypeId} {fr : Nat × Nat} (h : w.heap[b]? = some (.cells C t fr)) {i : Nat} {v : Value} (hv : C[i]? = some v) : w.cell? ⟨b, i, none⟩ = some v := by
 rw [cell_of_row _ _ _ _ _ _ h]; exact hv
theorem blockN {w W : World} {b : Nat} {x : Obj} (hg : Chg Non w W) (h : w.heap[b]? = some x) : W.heap[b]? = some x :=
 (hg.block b (Array.getElem?_eq_some_iff.1 h).1 (fun e => e)).trans h
end
section
open Go.RowKit
theorem plain_add (b o k : Nat) : (⟨b, o, none⟩ : Addr).add k = ⟨b, o + k, none⟩ := by
 unfold Addr.add
 split <;> simp_all
def OwnR (B : Nat) (w : World) (v : Value) (l : List UInt8) : Prop := w.ownsRow B 5 1 v l.length (l.map bv)
theorem OwnR.ge {B : Nat} {w : World} {v : Value} {l : List UInt8} (h : OwnR B w v l) {g : Nat} (hg : v.ownBlock = some g) : B ≤ g := by
 rcases h.2 with ⟨rfl, _⟩ | ⟨g2, cap, cur, rfl, hB, _⟩
 ·simp [Value.ownBlock] at hg
 ·obtain rfl : g2 = g := by simpa [Value.ownBlock] using hg
  exact hB
theorem str_of (A : Option Addr) (l : List UInt8) (c : Nat) (w : World) (h : Rd w A l) :
  (convert 29 9 (.slice A l.length c)).run Tryz.prog w = .ok (.string ⟨l.toArray⟩) w := by
 rcases Nat.eq_zero_or_pos l.length with h0 | h0
 ·obtain rfl := List.eq_nil_of_length_eq_zero h0
  cases A with
  | none => exact run_convert_bytes_nil w _ _ Tryz.underlying29 Tryz.underlying5 _ _ _ Tryz.underlying9
  | some a =>
   have hl : (loadCells a 0).run Tryz.prog w = .ok (([] : List Int).map (Value.int .u8)).toArray w := run_loadCells_list (P := Tryz.prog) w a [] (fun j v hj => by simp at hj)
   show (convert 29 9 (.slice (some a) 0 c)).run Tryz.prog w = _
   rw [run_convert_bytes_string w _ _ _ _ 0 c Tryz.underlying29 Tryz.underlying5 Tryz.underlying9, run_bytesToString w _ 0 c [] hl]
   rfl
 ·obtain ⟨b, o, rfl, _, hc⟩ := h.at_ h0
  rw [run_convert_bytes_arg w _ _ Tryz.underlying29 Tryz.underlying5 b o l.length c (l.map fun x => (x.toNat : Int)) (by simp) (fun i hi => by rw [hc i hi]; simp [List.getD, List.getElem?_eq_getElem hi]) _ Tryz.underlying9]
  congr 2
  unfold strOfNums
  congr 2
  rw [List.map_map]
  conv => rhs; rw [← List.map_id l]
  apply List.map_congr_left
  intro x _
  simp
end
section
open Go.RowKit
theorem blockS {S : Nat → Prop} {w W : World} {b : Nat} {x : Obj} (h : w.heap[b]? = some x) (hg : Chg S w W) (hn : ¬ S b) : W.heap[b]? = some x :=
 (hg.block b (Array.getElem?_eq_some_iff.1 h).1 hn).trans h
theorem set_at (w : World) (b i : Nat) (v : Value) : Chg (fun k => k = b) w (w.setCell ⟨b, i, none⟩ v) := (Chg.refl (fun k => k = b) w).setCell (p := ⟨b, i, none⟩) (.inl rfl) v
theorem heap_setCellI {w : World} {g i : Nat} {cs : Array Value} {t : TypeId} (u : Value) (h : w.heap[g]? = some (.cells cs t (0, 0))) : (w.setCell ⟨g, i, none⟩ u).heap[g]? = some (.cells (cs.setIfInBounds i u) t (0, 0)) := by
 have hlt := (Array.getElem?_eq_some_iff.1 h).1
 have h' : w.heap[g] = .cells cs t (0, 0) := by simpa [Array.getElem?_eq_getElem hlt] using h
 show (w.heap.modify g _)[g]? = _
 rw [Array.getElem?_eq_getElem (by simpa using hlt), Array.getElem_modify_self, h']
 rfl
def partL (p : Pt) (m : Value) : List Value := .int .i64 p.id :: .int .i64 p.size :: .bool p.keep :: ((p.r.map fun n : Nat => Value.int .u32 n) ++ [.int .u32 p.pc, .int .u8 p.st, m])
def partC (p : Pt) (m : Value) : Array Value := (partL p m).toArray
theorem partC_size {p : Pt} (h : p.r.length = 8) (m : Value) : (partC p m).size = 14 := by simp [partC, partL, h]
theorem partC_reg {p : Pt} (h : p.r.length = 8) (m : Value) (a : Nat) (ha : a < 8) : (partC p m)[3 + a]? = some (.int .u32 (p.g a : Nat)) := by
 simp only [partC, partL, List.getElem?_toArray]
 rw [show 3 + a = a + 1 + 1 + 1 by omega, List.getElem?_cons_succ, List.getElem?_cons_succ, List.getElem?_cons_succ, List.getElem?_append_left (by simp [h]; omega), List.getElem?_map, List.getElem?_eq_getElem (by omega)]
 simp only [Option.map_some, Pt.g]
 rw [List.getD_eq_getElem?_getD, List.getElem?_eq_getElem (by omega)]
 rfl
theorem partC_end {p : Pt} (h : p.r.length = 8) (m : Value) (j : Nat) (hj : j < 3) : (partC p m)[11 + j]? = [Value.int .u32 (p.pc : Nat), .int .u8 (p.st : Nat), m][j]? := by
 simp only [partC, partL, List.getElem?_toArray]
 rw [show 11 + j = (8 + j) + 1 + 1 + 1 by omega, List.getElem?_cons_succ, List.getElem?_cons_succ, List.getElem?_cons_succ, List.getElem?_append_right (by simp [h])]
 congr 1
 simp [h]
theorem part_setR {p : Pt} (h : p.r.length = 8) (m : Value) (a v : Nat) (ha : a < 8) : (partC p m).setIfInBounds (3 + a) (.int .u32 (v : Nat)) = partC (p.set a v) m := by
 simp only [partC, partL, List.setIfInBounds_toArray, Pt.set]
 congr 1
 rw [show 3 + a = a + 1 + 1 + 1 by omega, List.set_cons_succ, List.set_cons_succ, List.set_cons_succ, List.set_append_left _ _ (by simp [h]; omega), List.map_set]
theorem part_set11 {p : Pt} (h : p.r.length = 8) (m : Value) (v : Nat) : (partC p m).setIfInBounds 11 (.int .u32 (v : Nat)) = partC { p with pc := v } m := by
 simp only [partC, partL, List.setIfInBounds_toArray]
 congr 1
 rw [List.set_cons_succ, List.set_cons_succ, List.set_cons_succ, List.set_append_right _ _ (by simp [h])]
 simp [h]
theorem part_set12 {p : Pt} (h : p.r.length = 8) (m : Value) (v : Nat) : (partC p m).setIfInBounds 12 (.int .u8 (v : Nat)) = partC { p with st := v } m := by
 simp only [partC, partL, List.setIfInBounds_toArray]
 congr 1
 rw [List.set_cons_succ, List.set_cons_succ, List.set_cons_succ, List.set_append_right _ _ (by simp [h])]
 simp [h]
theorem part_set13 {p : Pt} (h : p.r.length = 8) (m m' : Value) : (partC p m).setIfInBounds 13 m' = partC p m' := by
 simp only [partC, partL, List.setIfInBounds_toArray]
 congr 1
 rw [List.set_cons_succ, List.set_cons_succ, List.set_cons_succ, List.set_append_right _ _ (by simp [h])]
 simp [h]
def PartAt (W : World) (b : Nat) (p : Pt) (m : Value) : Prop := W.heap[b]? = some (.cells (partC p m) 104 (0, 0))
structure PartB (W : World) (b : Nat) (p : Pt) (m : Value) : Prop where
 out : PartAt W b p m
 len : p.r.length = 8
theorem PartB.lt {W : World} {b : Nat} {p : Pt} {m : Value} (h : PartB W b p m) : b < W.heap.size := (Array.getElem?_eq_some_iff.1 h.out).1
theorem PartB.keep {S : Nat → Prop} {W W' : World} {b : Nat} {p : Pt} {m : Value} (h : PartB W b p m) (hg : Chg S W W') (hn : ¬ S b) : PartB W' b p m := ⟨blockS h.out hg hn, h.len⟩
theorem PartB.non {W W' : World} {b : Nat} {p : Pt} {m : Value} (h : PartB W b p m) (hg : Chg Non W W') : PartB W' b p m := h.keep hg (fun e => e)
theorem PartB.frozen {W : World} {b : Nat} {p : Pt} {m : Value} (h : PartB W b p m) : ∀ i, W.frozen? ⟨b, i, none⟩ = false := by
 intro i
 simp only [World.frozen?]
 rw [show W.heap[b]? = _ from h.out]
 simp
theorem PartB.cells {W : World} {b : Nat} {p : Pt} {m : Value} (h : PartB W b p m) :
  W.cell? ⟨b, 0, none⟩ = some (.int .i64 p.id) ∧ W.cell? ⟨b, 1, none⟩ = some (.int .i64 p.size) ∧ W.cell? ⟨b, 2, none⟩ = some (.bool p.keep) ∧ W.cell? ⟨b, 11, none⟩ = some (.int .u32 (p.pc : Nat)) ∧ W.cell? ⟨b, 12, none⟩ = some (.int .u8 (p.st : Nat)) ∧ W.cell? ⟨b, 13, none⟩ = some m :=
 ⟨row_cell h.out rfl, row_cell h.out rfl, row_cell h.out rfl, row_cell h.out (partC_end h.len m 0 (by omega)), row_cell h.out (partC_end h.len m 1 (by omega)), row_cell h.out (partC_end h.len m 2 (by omega))⟩
theorem PartB.reg {W : World} {b : Nat} {p : Pt} {m : Value} (h : PartB W b p m) (a : Nat) (ha : a < 8) : W.cell? ⟨b, 3 + a, none⟩ = some (.int .u32 (p.g a : Nat)) := row_cell h.out (partC_reg h.len m a ha)
theorem PartB.setReg {W : World} {b : Nat} {p : Pt} {m : Value} (h : PartB W b p m) (a v : Nat) (ha : a < 8) : PartB (W.setCell ⟨b, 3 + a, none⟩ (.int .u32 (v : Nat))) b (p.set a v) m := by
 refine ⟨?_, by simp [Pt.set, h.len]⟩
 have := heap_setCellI (.int .u32 (v : Nat)) (i := 3 + a) h.out
 rw [part_setR h.len m a v ha] at this
 exact this
theorem PartB.setPc {W : World} {b : Nat} {p : Pt} {m : Value} (h : PartB W b p m) (v : Nat) : PartB (W.setCell ⟨b, 11, none⟩ (.int .u32 (v : Nat))) b { p with pc := v } m := by
 refine ⟨?_, h.len⟩
 have := heap_setCellI (.int .u32 (v : Nat)) (i := 11) h.out
 rw [part_set11 h.len m v] at this
 exact this
theorem PartB.setSt {W : World} {b : Nat} {p : Pt} {m : Value} (h : PartB W b p m) (v : Nat) : PartB (W.setCell ⟨b, 12, none⟩ (.int .u8 (v : Nat))) b { p with st := v } m := by
 refine ⟨?_, h.len⟩
 have := heap_setCellI (.int .u8 (v : Nat)) (i := 12) h.out
 rw [part_set12 h.len m v] at this
 exact this
theorem PartB.setMem {W : World} {b : Nat} {p : Pt} {m : Value} (h : PartB W b p m) (v : Value) : PartB (W.setCell ⟨b, 13, none⟩ v) b p v := by
 refine ⟨?_, h.len⟩
 have := heap_setCellI v (i := 13) h.out
 rw [part_set13 h.len m v] at this
 exact this
theorem PartB.setList {W : World} {b : Nat} {p : Pt} {m : Value} (h : PartB W b p m) (l : List UInt8) : PartB W b { p with mem := l } m := ⟨h.out, h.len⟩
theorem info_part : (Tryz.prog.info? 104).map (·.size) = some 14 := by kernel_rfl
theorem setAt (w : World) (b i : Nat) (v : Value) : Chg (fun k => k = b) w (w.setCell ⟨b, i, none⟩ v) := set_at w b i v
end
section
open Go.RowKit
def I64 (n : Int) : Prop := -9223372036854775808 ≤ n ∧ n ≤ 9223372036854775807
structure Ch where
 id : Int
 src : Int
 dst : Int
 cap : Int
 size : Int
structure Qu where
 ch : Ch
 msgs : List (List UInt8)
structure Sta where
 frames : Int
 parts : List Pt
 queues : List Qu
def Qu.L (a : Qu) (m : Value) : List Value := [.int .i64 a.ch.id, .int .i64 a.ch.src, .int .i64 a.ch.dst, .int .i64 a.ch.cap, .int .i64 a.ch.size, m]
def Ch.Bd (a : Ch) : Prop := I64 a.id ∧ I64 a.src ∧ I64 a.dst ∧ I64 a.cap ∧ I64 a.size
def msgV (I : Nat → Prop) : World → List UInt8 → List Value → Prop := fun w a vs => ∃ m, vs = [m] ∧ BytesV I w a m ∧ a.length ≤ 140737488351232
def quV (I : Nat → Prop) : World → Qu → List Value → Prop := fun w a vs => ∃ m, vs = a.L m ∧ SlV (msgV I) I 1 w a.msgs m ∧ a.ch.Bd ∧ a.msgs.length ≤ 140737488351232
def ptV (I : Nat → Prop) : World → Pt → List Value → Prop := fun w a vs => ∃ m, vs = partL a m ∧ BytesV I w a.mem m ∧ a.Bd ∧ a.mem.length ≤ 140737488351232
structure StaV (I : Nat → Prop) (w : World) (s : Sta) (b d : Value) : Prop where
 ps : SlV (ptV I) I 14 w s.parts b
 qs : SlV (quV I) I 6 w s.queues d
section
variable {I I' S : Nat → Prop} {w w' : World}
theorem msgV.keep {a : List UInt8} {vs : List Value} (h : msgV I w a vs) (hg : Chg S w w') (hI : ∀ b, I b → ¬ S b) : msgV I w' a vs := by
 obtain ⟨m, h1, h2, h3⟩ := h
 exact ⟨m, h1, h2.keep hg hI, h3⟩
theorem quV.keep {a : Qu} {vs : List Value} (h : quV I w a vs) (hg : Chg S w w') (hI : ∀ b, I b → ¬ S b) : quV I w' a vs := by
 obtain ⟨m, h1, h2, h3⟩ := h
 exact ⟨m, h1, h2.keep hg hI (fun a vs _ h => msgV.keep h hg hI), h3⟩
theorem ptV.keep {a : Pt} {vs : List Value} (h : ptV I w a vs) (hg : Chg S w w') (hI : ∀ b, I b → ¬ S b) : ptV I w' a vs := by
 obtain ⟨m, h1, h2, h3⟩ := h
 exact ⟨m, h1, h2.keep hg hI, h3⟩
theorem StaV.keep {s : Sta} {b d : Value} (h : StaV I w s b d) (hg : Chg S w w') (hI : ∀ b, I b → ¬ S b) : StaV I w' s b d :=
 ⟨h.ps.keep hg hI (fun _ _ _ h => ptV.keep h hg hI), h.qs.keep hg hI (fun _ _ _ h => quV.keep h hg hI)⟩
theorem StaV.non {s : Sta} {b d : Value} (h : StaV I w s b d) (hg : Chg Non w w') : StaV I w' s b d := h.keep hg (fun _ _ e => e)
theorem msgV.mono {a : List UInt8} {vs : List Value} (h : msgV I w a vs) (hI : ∀ b, I b → I' b) : msgV I' w a vs := by
 obtain ⟨m, h1, h2, h3⟩ := h
 exact ⟨m, h1, h2.mono hI, h3⟩
theorem quV.mono {a : Qu} {vs : List Value} (h : quV I w a vs) (hI : ∀ b, I b → I' b) : quV I' w a vs := by
 obtain ⟨m, h1, h2, h3⟩ := h
 exact ⟨m, h1, h2.mono hI (fun a vs _ h => msgV.mono h hI), h3⟩
theorem ptV.mono {a : Pt} {vs : List Value} (h : ptV I w a vs) (hI : ∀ b, I b → I' b) : ptV I' w a vs := by
 obtain ⟨m, h1, h2, h3⟩ := h
 exact ⟨m, h1, h2.mono hI, h3⟩
theorem StaV.mono {s : Sta} {b d : Value} (h : StaV I w s b d) (hI : ∀ b, I b → I' b) : StaV I' w s b d :=
 ⟨h.ps.mono hI (fun _ _ _ h => ptV.mono h hI), h.qs.mono hI (fun _ _ _ h => quV.mono h hI)⟩
end
end
section
open Go.RowKit
theorem ret_b {a b : Bool} (h : a = b) : Ending.returned (.bool a) = .returned (.bool b) := by rw [h]
theorem ret_i {k : IntKind} {a b : Int} (h : a = b) : Ending.returned (.int k a) = .returned (.int k b) := by rw [h]
theorem tmod4 (s : Int) : s.tmod 4 = 0 ↔ s % 4 = 0 := by
 rw [← Int.dvd_iff_tmod_eq_zero, Int.dvd_iff_emod_eq_zero]
def regMay (b s : Int) : Bool := decide (0 ≤ b) && decide (b ≤ 4096) && decide (b % 4 = 0) && decide (s % 4 = 0) && decide (16 ≤ s) && decide (s ≤ 512) && decide (b + s ≤ 4096)
theorem regMay_iff {b s : Int} : regMay b s = true ↔ 0 ≤ b ∧ b % 4 = 0 ∧ s % 4 = 0 ∧ 16 ≤ s ∧ s ≤ 512 ∧ b + s ≤ 4096 := by
 simp only [regMay, Bool.and_eq_true, decide_eq_true_eq]
 constructor
 ·rintro ⟨⟨⟨⟨⟨⟨a, b⟩, c⟩, d⟩, e⟩, f⟩, g⟩
  exact ⟨a, c, d, e, f, g⟩
 ·rintro ⟨a, c, d, e, f, g⟩
  exact ⟨⟨⟨⟨⟨⟨a, by omega⟩, c⟩, d⟩, e⟩, f⟩, g⟩
theorem regMay_ok (b s : Int) (w : World) :
  Calls Tryz.prog 102 #[.agg #[.int .i64 b, .int .i64 s]] w fun e w' => e = .returned (.bool (regMay b s)) ∧ Chg Non w w' := by
 have hst := Lh (tmod4 s)
 by_cases h0 : 0 ≤ b
 ·have htm : b.tmod 4 = b % 4 := Int.tmod_eq_emod_of_nonneg h0
  have hr0 : 0 ≤ b % 4 := by omega
  have hr1 : b % 4 < 4 := by omega
  have hwr : IntKind.i64.wrap (b % 4) = b % 4 := Go.IntWalk.i64_in _ (by omega)
  go_enter Tryz.func102, Tryz.ntmps102
  go_wp2
  all_goals
   go_ret
   refine ⟨ret_b ?_, (Chg.refl _ _).alloc _⟩
   have hst := hst.out
   rw [Bool.eq_iff_iff, regMay_iff]
   simp only [decide_eq_true_eq, Bool.false_eq_true, false_iff]
   omega
 ·have h0' : decide (0 ≤ b) = false := by simpa using h0
  go_enter Tryz.func102, Tryz.ntmps102
  go_wp2
  go_ret
  refine ⟨ret_b ?_, (Chg.refl _ _).alloc _⟩
  rw [Bool.eq_iff_iff, regMay_iff]
  simp only [Bool.false_eq_true, false_iff]
  omega
def chPart (n : Int) : Bool := decide (1 ≤ n) && decide (n ≤ 6)
theorem chPart_ok (n : Int) (w : World) : Calls Tryz.prog 135 #[.int .i64 n] w fun e w' => e = .returned (.bool (chPart n)) ∧ w = w' := by
 go_enter Tryz.func135, Tryz.ntmps135
 go_wp2
 all_goals
  go_ret
  refine ⟨ret_b ?_, rfl⟩
  rw [Bool.eq_iff_iff]
  simp only [chPart, Bool.and_eq_true, decide_eq_true_eq, Bool.false_eq_true, false_iff]
  omega
def chMay (id src dst cap size : Int) : Bool := decide (1 ≤ id) && decide (id ≤ 8) && chPart src && chPart dst && decide (src ≠ dst) && decide (1 ≤ cap) && decide (cap ≤ 4) && decide (1 ≤ size) && decide (size ≤ 16)
theorem chMay_ok (id src dst cap size : Int) (w : World) :
  Calls Tryz.prog 104 #[.agg #[.int .i64 id, .int .i64 src, .int .i64 dst, .int .i64 cap, .int .i64 size]] w fun e w' => e = .returned (.bool (chMay id src dst cap size)) ∧ Chg Non w w' := by
 have H1 := Lh (fun W => chPart_ok src W)
 have H2 := Lh (fun W => chPart_ok dst W)
 obtain ⟨m, hm⟩ : ∃ m, chMay id src dst cap size = m := ⟨_, rfl⟩
 rw [hm]
 unfold chMay at hm
 obtain ⟨b1, h1⟩ : ∃ b, chPart src = b := ⟨_, rfl⟩
 obtain ⟨b2, h2⟩ : ∃ b, chPart dst = b := ⟨_, rfl⟩
 rw [h1, h2] at hm
 rw [h1] at H1
 rw [h2] at H2
 have HM := Lh hm
 clear h1 h2 hm
 cases b1 <;> cases b2
 all_goals
  go_enter Tryz.func104, Tryz.ntmps104
  go_wp2_with (first
    | ((with_reducible refine (H1.out _).mono ?_); rintro e u ⟨rfl, rfl⟩)
    | ((with_reducible refine (H2.out _).mono ?_); rintro e u ⟨rfl, rfl⟩))
  all_goals
   go_ret
   refine ⟨ret_b ?_, (Chg.refl _ _).alloc _⟩
   rw [← HM.out, Bool.eq_iff_iff]
   simp only [Bool.and_eq_true, decide_eq_true_eq, Bool.false_eq_true, false_iff, and_false, false_and, not_false_eq_true, and_true, true_and, bne_iff_ne, ne_eq]
   try omega
end
section
open Go.RowKit
def idxOf {α : Type} (p : α → Bool) (l : List α) : Int := match l.findIdx? p with | some i => (i : Int) | none => -1
theorem idx_some {α : Type} {p : α → Bool} {l : List α} {k : Nat} {a : α} (ha : l[k]? = some a) (hp : p a = true) (hn : ∀ i b, i < k → l[i]? = some b → p b = false) : idxOf p l = k := by
 have h : l.findIdx? p = some k := by
  obtain ⟨hk, e⟩ := List.getElem?_eq_some_iff.1 ha
  rw [List.findIdx?_eq_some_iff_getElem]
  exact ⟨hk, by rw [e]; exact hp, fun j hj => by simp [hn j _ hj (List.getElem?_eq_getElem (by omega))]⟩
 rw [idxOf, h]
theorem idx_none {α : Type} {p : α → Bool} {l : List α} (hn : ∀ i b, i < l.length → l[i]? = some b → p b = false) : idxOf p l = -1 := by
 have h : l.findIdx? p = none := by
  rw [List.findIdx?_eq_none_iff]
  intro x hx
  obtain ⟨i, hi⟩ := List.getElem?_of_mem hx
  exact hn i x (List.getElem?_eq_some_iff.1 hi).1 hi
 rw [idxOf, h]
theorem idx_ge {α : Type} (p : α → Bool) (l : List α) : decide (0 ≤ idxOf p l) = l.any p := by
 rw [Bool.eq_iff_iff, decide_eq_true_eq, List.any_eq_true]
 unfold idxOf
 constructor
 ·intro h
  cases hf : l.findIdx? p with
  | none => rw [hf] at h; simp at h
  | some i =>
   obtain ⟨hi, hp, _⟩ := List.findIdx?_eq_some_iff_getElem.1 hf
   exact ⟨l[i], List.getElem_mem hi, hp⟩
 ·rintro ⟨x, hx, hp⟩
  cases hf : l.findIdx? p with
  | none => rw [List.findIdx?_eq_none_iff] at hf; rw [hf x hx] at hp; cases hp
  | some i => simp
def Asks {α : Type} (R : World → α → List Value → Prop) (V : List Value → Value) (l : List α) (p : α → Bool) (w : World) (K : Nat) (cap : List Value) : Prop :=
 ∀ W a vs, Chg Non w W → a ∈ l → R W a vs → Calls Tryz.prog K (V vs :: cap).toArray W fun e W' => e = .returned (.bool (p a)) ∧ Chg Non W W'
def aggV (vs : List Value) : Value := .agg vs.toArray
def oneV : List Value → Value
 | [v] => v
 | _ => undef
theorem idxMay {α : Type} (R : World → α → List Value → Prop) (I : Nat → Prop) (hm : ∀ W W' a vs, Chg Non W W' → R W a vs → R W' a vs) (p : α → Bool) (x : Value) (A : Option Addr) (l : List α) (c : Nat) (w : World)
  (hr : RdL R I 1 w A l) (hf : Asks R oneV l p w 103 [x]) (hc : l.length ≤ c) (hcm : c ≤ maxLen) :
  Calls Tryz.prog 136 #[.slice A l.length c, .func (.func 103) #[] #[x]] w fun e w' => e = .returned (.int .i64 (idxOf p l)) ∧ Chg Non w w' := by
 unfold maxLen at hcm
 have HR := Lh hr
 have HF := Lh hf
 clear hr hf
 go_enter Tryz.func136, Tryz.ntmps136
 go_wp2_with fail
 go_loopw [8] (fun iv wr => ∃ k : Nat, k ≤ l.length ∧ iv = .int .i64 k ∧ Hid (∀ i b, i < k → l[i]? = some b → p b = false) ∧ Hid (Chg Non w wr)) (fun iv _ => l.length - (intOf iv).toNat)
 case atStart => exact ⟨0, Nat.zero_le _, rfl, Lh (fun i b h => by omega), Lh (Chg.refl _ _)⟩
 case round =>
  obtain ⟨k, hk, rfl, HN, HG⟩ := hrel
  by_cases hlt : k < l.length
  ·obtain ⟨a, ha⟩ : ∃ a, l[k]? = some a := ⟨_, List.getElem?_eq_getElem hlt⟩
   obtain ⟨b, o, vs, rfl, _, hlen, hcell0, hR⟩ := HR.out k a ha
   have hcell := range_keepS hcell0 HG.out (fun e => e)
   have HK := Lh (HF.out wr a vs HG.out (List.mem_of_getElem? ha) (hm _ _ _ _ HG.out hR))
   have hltd : decide ((k : Int) < (l.length : Int)) = true := by simpa using hlt
   have HA := Lh ha
   clear ha hR hcell0
   simp only [Nat.mul_one] at hcell
   obtain ⟨v, rfl⟩ : ∃ v, vs = [v] := by
    match vs, hlen with
    | [v], _ => exact ⟨v, rfl⟩
   have k0 : wr.cell? ⟨b, o + k, none⟩ = some v := by have := hcell 0 v rfl; simpa using this
   clear hcell hlen
   go_wp2_with fail
   refine HK.out.mono ?_
   rintro e u ⟨rfl, hg⟩
   have HG2 := Lh (HG.out.then_non hg)
   clear hg
   cases hp : p a with
   | true =>
    go_wp2_with fail
    go_ret
    exact ⟨ret_i (idx_some HA.out hp HN.out).symm, HG2.out⟩
   | false =>
    have HN2 : Hid (∀ i b, i < k + 1 → l[i]? = some b → p b = false) := Lh (fun i b hi hb => by
      by_cases e : i = k
      · subst e
        rw [HA.out] at hb
        injection hb with hb
        subst hb
        exact hp
      · exact HN.out i b (by omega) hb)
    have HP := Lh hp
    clear hp
    go_wp2_with fail
    exact ⟨⟨k + 1, by omega, by simp, HN2, HG2⟩, by simp [intOf]; omega⟩
  ·obtain rfl : k = l.length := by omega
   have hltd : decide ((l.length : Int) < (l.length : Int)) = false := by simp
   go_wp2_with fail
   go_ret
   exact ⟨ret_i (idx_none HN.out).symm, HG.out⟩
theorem anyMay {α : Type} (R : World → α → List Value → Prop) (I : Nat → Prop) (hm : ∀ W W' a vs, Chg Non W W' → R W a vs → R W' a vs) (p : α → Bool) (x : Value) (A : Option Addr) (l : List α) (c : Nat) (w : World)
  (hr : RdL R I 1 w A l) (hf : Asks R oneV l p w 103 [x]) (hc : l.length ≤ c) (hcm : c ≤ maxLen) :
  Calls Tryz.prog 105 #[.slice A l.length c, .func (.func 103) #[] #[x]] w fun e w' => e = .returned (.bool (l.any p)) ∧ Chg Non w w' := by
 have HI := Lh (idxMay R I hm p x A l c w hr hf hc hcm)
 have HB := Lh (idx_ge p l)
 obtain ⟨j, hj⟩ : ∃ j, idxOf p l = j := ⟨_, rfl⟩
 rw [hj] at HI HB
 clear hr hf hj
 go_enter Tryz.func105, Tryz.ntmps105
 go_wp2_with fail
 refine HI.out.mono ?_
 rintro e u ⟨rfl, hg⟩
 go_wp2_with fail
 go_ret
 exact ⟨ret_b HB.out, hg⟩
end
section
open Go.RowKit
end
section
open Go.RowKit
theorem res_ct {P : Program} {fn : Func} {p q : Tmp} {ty : TypeId} (h : fn.results = #[.cell p ty, .tmp q]) (tmps : Array Value) (w : World) (g : Nat) (t : TypeId) (cs : Array Value) (fr : Nat × Nat) (d : TypeDesc) (v : Value)
  (hp : tmps.getD p undef = .pointer (some ⟨g, 0, none⟩)) (hv : tmps.getD q undef = v) (hg : w.heap[g]? = some (.cells cs t fr))
  (hu : P.underlying ty = some d) (hd : (match d with | .struct _ | .array _ _ => true | _ => false) = true) (hi : (P.info? ty).map (·.size) = some cs.size) :
  (results fn tmps).run P w = .ok (.tuple #[.agg cs, v]) w := by
 have hp' : tmps[p]?.getD undef = .pointer (some ⟨g, 0, none⟩) := by simpa using hp
 have hv' : tmps[q]?.getD undef = v := by simpa using hv
 simp [results, h, hp', hv', asAddr, run_loadVar_row w g t ty cs fr d hg hu hd hi]
theorem res_c {P : Program} {fn : Func} {p : Tmp} {ty : TypeId} (h : fn.results = #[.cell p ty]) (tmps : Array Value) (w : World) (g : Nat) (t : TypeId) (cs : Array Value) (fr : Nat × Nat) (d : TypeDesc)
  (hp : tmps.getD p undef = .pointer (some ⟨g, 0, none⟩)) (hg : w.heap[g]? = some (.cells cs t fr))
  (hu : P.underlying ty = some d) (hd : (match d with | .struct _ | .array _ _ => true | _ => false) = true) (hi : (P.info? ty).map (·.size) = some cs.size) :
  (results fn tmps).run P w = .ok (.agg cs) w := by
 have hp' : tmps[p]?.getD undef = .pointer (some ⟨g, 0, none⟩) := by simpa using hp
 simp [results, h, hp', asAddr, run_loadVar_row w g t ty cs fr d hg hu hd hi]
theorem blk_set {w : World} {g : Nat} {cs : Array Value} {t : TypeId} {fr : Nat × Nat} (i : Nat) (u : Value) (h : w.heap[g]? = some (.cells cs t fr)) : (w.setCell ⟨g, i, none⟩ u).heap[g]? = some (.cells (cs.setIfInBounds i u) t fr) := by
 have hlt := (Array.getElem?_eq_some_iff.1 h).1
 have h' : w.heap[g] = .cells cs t fr := by simpa [Array.getElem?_eq_getElem hlt] using h
 show (w.heap.modify g _)[g]? = _
 rw [Array.getElem?_eq_getElem (by simpa using hlt), Array.getElem_modify_self, h']
 rfl
theorem chg_set (w : World) (b i : Nat) (v : Value) : Chg (fun k => k = b) w (w.setCell ⟨b, i, none⟩ v) := (Chg.refl (fun k => k = b) w).setCell (p := ⟨b, i, none⟩) (.inl rfl) v
theorem blk_keep {S : Nat → Prop} {w w' : World} {g : Nat} {o : Obj} (h : w.heap[g]? = some o) (hg : Chg S w w') (hn : ¬ S g) : w'.heap[g]? = some o := (hg.block _ (Array.getElem?_eq_some_iff.1 h).1 hn).trans h
theorem blk_cell {w : World} {g : Nat} {cs : Array Value} {t : TypeId} {fr : Nat × Nat} (h : w.heap[g]? = some (.cells cs t fr)) (i : Nat) {v : Value} (hv : cs[i]? = some v) : w.cell? ⟨g, i, none⟩ = some v := by rw [cell_of_row _ _ _ _ _ _ h]; exact hv
theorem blk_free {w : World} {g : Nat} {cs : Array Value} {t : TypeId} (h : w.heap[g]? = some (.cells cs t (0, 0))) (i : Nat) : w.frozen? ⟨g, i, none⟩ = false := frozen_of_row _ _ _ _ _ h
theorem blk_range {w : World} {g : Nat} {cs : Array Value} {t : TypeId} {fr : Nat × Nat} (h : w.heap[g]? = some (.cells cs t fr)) : w.rangeAt g 0 cs.toList := fun j v hv => by
 rw [cell_of_row _ _ _ _ _ _ h, Nat.zero_add]
 simpa using hv
theorem blk_lt {w : World} {g : Nat} {o : Obj} (h : w.heap[g]? = some o) : g < w.heap.size := (Array.getElem?_eq_some_iff.1 h).1
theorem blk_new (w : World) (o : Obj) : (w.alloc o).heap[w.heap.size]? = some o := heap_alloc_new w o
theorem wpList_valA {P : Program} {ops : Array Oper} {rest : List Oper} {o : Oper} {a : Act} {w : World} {Q : Exit → Act → World → Prop} (hgd : o.guard = none) (d : Option Tmp) (v : Value) (hdst : o.dst = d) (he : (execOp a.eval o).run P w = .ok (.value v) w) (h : wpList P ops Q rest (a.put d v) w) : wpList P ops Q (o :: rest) a w := by
 subst hdst
 refine wpList_plain hgd fun K hK => ?_
 unfold Oper.wp
 rw [he]
 exact hK _ _ h
theorem blk_call {w w' : World} {o : Obj} (hg : Chg Non (w.alloc o) w') : w'.heap[w.heap.size]? = some o := blk_keep (blk_new w o) hg (fun e => e)
theorem blk_call2 {w w' : World} {o1 o2 : Obj} (hg : Chg Non ((w.alloc o1).alloc o2) w') : w'.heap[w.heap.size]? = some o1 ∧ w'.heap[w.heap.size + 1]? = some o2 ∧ w.heap.size + 1 < w'.heap.size ∧ Chg Non w w' := by
 have h2 : w'.heap[w.heap.size + 1]? = some o2 := by have := blk_call hg; simpa using this
 exact ⟨blk_keep (blk_keep (blk_new w o1) ((Chg.refl Non _).alloc o2) (fun e => e)) hg (fun e => e), h2, blk_lt h2, (((Chg.refl Non w).alloc _).alloc _).then_non hg⟩
end
section
open Go.RowKit
structure HoleV (p : Prop) : Prop where
 out : p
theorem Vm_stop {p : Prop} (h : HoleV p) : p := h.out
theorem run_appB (w : World) (ty : TypeId) (B : Nat) (v : Value) (l : List UInt8) (hown : OwnR B w v l) (A : Option Addr) (c : Nat) (y : List UInt8) (hr : Rd w A y) (hl : l.length ≤ 1000000) (hy : y.length ≤ 140737488355328) (hB : B ≤ w.heap.size) (hly : l.length + y.length ≤ 140737488355328) :
  ∃ v' w', (Builtin.append_ #[29, 29] ty #[v, .slice A y.length c]).run Tryz.prog w = .ok v' w' ∧ OwnR B w' v' (l ++ y) ∧ w.grownBy w' v.ownBlock ∧ (v'.ownBlock = v.ownBlock ∨ v'.ownBlock = some w.heap.size) := by
 obtain ⟨i0, hi0, hz0, hs0, hb0⟩ := info_parts info_u8
 cases A with
 | none =>
  have hy0 : y = [] := by
   cases y with
   | nil => rfl
   | cons x r => obtain ⟨b, o, e, _⟩ := hr 0 x rfl; cases e
  subst hy0
  refine ⟨v, w, ?_, by simpa using hown, World.grownBy.refl w _, .inl rfl⟩
  rcases hown.2 with ⟨rfl, _⟩ | ⟨g, cap, cur, rfl, _, _, hnc, _⟩
  ·simp [Builtin.append_, run_underlying Tryz.underlying29, sizeOf, typeInfo, hi0, Builtin.lenOf, Builtin.firstCells]
  ·simp [Builtin.append_, run_underlying Tryz.underlying29, sizeOf, typeInfo, hi0, Builtin.lenOf, Builtin.firstCells, hnc, storeCells]
 | some ad =>
  obtain ⟨v', w', h1, h2, h3, _, h5⟩ := run_append_own_at (P := Tryz.prog) w B 29 ty 5 i0 _ 1 1 Tryz.underlying29 hi0 hz0 hs0 hb0 rfl (by omega) v l.length (l.map bv) hown ad y.length c (y.map bv) (by simp) (by
    intro j u hu
    rw [List.getElem?_map] at hu
    obtain ⟨z, hz, rfl⟩ := Option.map_eq_some_iff.1 hu
    obtain ⟨b, o, e, hc⟩ := hr j z hz
    injection e with e
    subst e
    rw [plain_add]
    exact hc) (by
    intro u hu
    obtain ⟨z, _, rfl⟩ := List.mem_map.1 hu
    rfl) (by unfold maxLen; omega) (by omega) hB
  exact ⟨v', w', h1, by unfold OwnR; rw [List.length_append, List.map_append]; exact h2, h3, h5⟩
theorem wpList_appB {ops : Array Oper} {rest : List Oper} {o : Oper} {a : Act} {w : World} {Q : Exit → Act → World → Prop} (hgd : o.guard = none) (s x : Operand)
  (ho : o.op = .call { callee := .builtin .append, args := #[s, x], argTypes := #[29, 29] })
  (B : Nat) (v : Value) (l : List UInt8) (hs : a.eval s = v) (hown : OwnR B w v l) (A : Option Addr) (c : Nat) (y : List UInt8) (hx : a.eval x = .slice A y.length c) (hr : Rd w A y)
  (hl : l.length ≤ 1000000) (hy : y.length ≤ 140737488355328) (hB : B ≤ w.heap.size) (hly : l.length + y.length ≤ 140737488355328)
  (h : ∀ v2 w2, OwnR B w2 v2 (l ++ y) → Chg (fun k => v.ownBlock = some k) w w2 → (v2.ownBlock = v.ownBlock ∨ v2.ownBlock = some w.heap.size) → wpList Tryz.prog ops Q rest (a.put o.dst v2) w2) : wpList Tryz.prog ops Q (o :: rest) a w := by
 obtain ⟨v', w', h1, h2, h3, h4⟩ := run_appB w o.type B v l hown A c y hr hl hy hB hly
 refine wpList_plain hgd fun K hK => ?_
 unfold Oper.wp execOp
 simp only [ho, resolve, invoke, builtin, Sem.run_bind, Sem.run_pure, Result.andThen_ok, List.map_toArray, List.map_cons, List.map_nil, hs, hx, h1]
 exact hK _ _ (h v' w' h2 ((Chg.refl _ w).grown h3 fun g' hg' => .inl hg') h4)
theorem own_emptyR (w : World) : OwnR w.heap.size (w.alloc (.cells #[] 5)) (.slice (some ⟨w.heap.size, 0, none⟩) 0 0) [] :=
 ⟨rfl, .inr ⟨w.heap.size, 0, #[], rfl, Nat.le_refl _, heap_alloc_new _ _, Nat.le_refl _, by simp, rfl, rfl⟩⟩
theorem OwnR.own {B : Nat} {w : World} {v : Value} {l : List UInt8} (h : OwnR B w v l) : ∃ A c, v = .slice A l.length c ∧ l.length ≤ c ∧ c ≤ maxLen ∧ Own B w A l := by
 rcases h.2 with ⟨rfl, h0⟩ | ⟨g, cap, cur, rfl, hB, hg, h1, h2, h3, h4⟩
 ·have : l = [] := List.eq_nil_of_length_eq_zero h0
  subst this
  exact ⟨none, 0, rfl, Nat.le_refl _, by simp, Own.nil _ _ _⟩
 ·refine ⟨_, cap, rfl, h1, h2, fun i x hx => ⟨g, 0, rfl, hB, ?_, ?_⟩⟩
  ·have := h.cells (g := g) rfl i (bv x) (by rw [List.getElem?_map, hx]; rfl)
   rw [plain_add] at this
   exact this
  ·simp only [World.frozen?]
   rw [hg]
   simp
theorem eql_nil (B : Option Addr) (n c : Nat) (W : World) : (binOp .eql 29 (.slice B n c) (.slice none 0 0)).run Tryz.prog W = .ok (.bool B.isNone) W := by
 simp only [binOp]
 simp [run_equal_slice_nil W _ _ B n c Tryz.underlying29]
theorem SlClone_ok (A : Option Addr) (l : List UInt8) (c : Nat) (w : World) (h : Rd w A l) (hl : l.length ≤ 140737488355328) :
  Calls Tryz.prog 187 #[.slice A l.length c] w (RetB w l) := by
 have HR := Lh h
 have hnil : ∀ (B : Option Addr) (n c : Nat) (W : World), (binOp .eql 29 (.slice B n c) (.slice none 0 0)).run Tryz.prog W = .ok (.bool B.isNone) W := fun B n c W => eql_nil B n c W
 cases A with
 | none =>
  have hl0 : l = [] := by
   cases l with
   | nil => rfl
   | cons x r => obtain ⟨b, o, e, _⟩ := h 0 x rfl; cases e
  subst hl0
  clear h
  go_enter Tryz.func187, Tryz.ntmps187
  go_wp2_with fail
  go_ret
  exact ⟨none, 0, rfl, Nat.le_refl _, by simp, Own.nil _ _ _, Chg.refl _ _⟩
 | some ad =>
  clear h
  go_enter Tryz.func187, Tryz.ntmps187
  go_wp2_with (refine sel (some 7) (.call _) ?_; refine Vm_stop ?_)
  refine HoleV.mk ?_
  refine wpList_appB rfl (.tmp 5) (.tmp 6) rfl w.heap.size (.slice (some ⟨w.heap.size, 0, none⟩) 0 0) [] rfl (own_emptyR w) (some ad) c l rfl (HR.out.non ((Chg.refl Non _).alloc _)) (by simp) hl (by simp) (by simpa using hl) ?_
  intro v2 w2 ho hg hat
  obtain ⟨A2, c2, rfl, h1, h2, h3⟩ := OwnR.own ho
  have H3 := Lh h3
  have HG := Lh (((Chg.refl Non w).alloc _).then_new hg (fun x hx => (own_emptyR w).ge hx))
  clear h3 hg hat ho
  go_wp2_with fail
  go_ret
  exact ⟨A2, c2, rfl, h1, h2, H3.out, HG.out⟩
end
section
open Go.RowKit
theorem mk_func : ∀ (fn : Fn) (first cap : Array Value) (w : World), (Instr.makeFunc fn first cap).run Tryz.prog w = .ok (.func fn first cap) w := fun _ _ _ _ => rfl
end
section
open Go.RowKit
end
section
open Go.RowKit
def Ch.may (a : Ch) : Bool := chMay a.id a.src a.dst a.cap a.size
end
section
open Go.RowKit
end
section
open Go.RowKit Go.Shelf
attribute [local go_sem] Oper.semAt_some
structure KC (a b : World) : Prop where
 size : a.heap.size ≤ b.heap.size
 same : ∀ (k : Nat) (o : Obj), a.heap[k]? = some o → o.isCells = true → b.heap[k]? = some o
namespace KC
theorem refl (a : World) : KC a a := ⟨Nat.le_refl _, fun _ _ h _ => h⟩
theorem trans {a b c : World} (h : KC a b) (k : KC b c) : KC a c := ⟨Nat.le_trans h.size k.size, fun i o h1 h2 => k.same i o (h.same i o h1 h2) h2⟩
theorem of_non {a b : World} (h : Chg Non a b) : KC a b := ⟨h.size, fun k o h1 _ => blk_keep h1 h (fun e => e)⟩
theorem put (W : World) (l : Nat) (o o' : Obj) (h : W.heap[l]? = some o) (hc : o.isCells = false) : KC W (W.putObj l o') := by
 have hg := grownBy_putObj' W l o'
 refine ⟨hg.size, fun k x h1 h2 => (hg.block k (blk_lt h1) (fun e => ?_)).trans h1⟩
 cases e
 rw [h] at h1
 cases h1
 rw [hc] at h2
 cases h2
theorem cell {a b : World} (h : KC a b) {p : Addr} {v : Value} (hc : a.cell? p = some v) : b.cell? p = some v := by
 cases hb : a.heap[p.block]? with
 | none => simp [World.cell?, hb] at hc
 | some o =>
  cases o with
  | cells cs t fr =>
   have := h.same _ _ hb rfl
   exact (World.cell?_of_block (this.trans hb.symm)).trans hc
  | _ => simp [World.cell?, hb] at hc
end KC
theorem keepsFrom_non {a b : World} (B : Nat) (h : Chg Non a b) : KeepsFrom B a b := ⟨h.size, fun k o _ h1 _ => blk_keep h1 h (fun e => e)⟩
end
section
open Go.RowKit Go.Shelf
attribute [local go_sem] Oper.semAt_some
theorem own_blk {β : Type} (g : Nat) (cs : Array Value) (t : TypeId) (fr : Nat × Nat) : _root_.Go.Own (fun (_ : β) (W : World) => W.heap[g]? = some (.cells cs t fr)) := fun s X Y row hs hg hrow => by
 have hs : X.heap[g]? = some (.cells cs t fr) := hs
 refine (hg.block g (blk_lt hs) (fun e' => ?_)).trans hs
 obtain ⟨o, ho, hc⟩ := hrow g e'.symm
 rw [hs] at ho
 injection ho with ho
 subst ho
 cases hc
end
end Go.Proofs.YtkgnlobabknkcaaGreat
