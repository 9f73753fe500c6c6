/- Chapter 25, plain: disks with checkpoints from 1 on; a Put that may crash behind them. -/
import Derived.Test.YtkgnlobabknkcaaGreatMgCheckBaseA
import Derived.Test.YtkgnlobabknkcaaGreatMgCheckBaseB
import Derived.Test.YtkgnlobabknkcaaGreatMgCheckBaseC
import Derived.Test.YtkgnlobabknkcaaGreatMgCheckBaseD
import Derived.Test.YtkgnlobabknkcaaGreatMgCheckBaseE
import Derived.Test.YtkgnlobabknkcaaGreatMgCheckBaseF
import Derived.Test.YtkgnlobabknkcaaGreatMgCheckBaseG
import Derived.Test.YtkgnlobabknkcaaGreatMgCheckBaseH
import Derived.Test.YtkgnlobabknkcaaGreatMgCheckBaseI
import Derived.Test.YtkgnlobabknkcaaGreatMgCheckBaseJ
import Derived.Test.YtkgnlobabknkcaaGreatMgCheckBaseK
import Derived.Test.YtkgnlobabknkcaaGreatMgCheckBaseL
import Derived.Test.YtkgnlobabknkcaaGreatMgCheckBaseM
import Derived.Test.YtkgnlobabknkcaaGreatMgCheckBaseN
import Derived.Test.YtkgnlobabknkcaaGreatMgCheckBaseO
import Derived.Test.YtkgnlobabknkcaaGreatMgCheckBaseP
import Derived.Test.YtkgnlobabknkcaaGreatMgCheckBaseQ
import Derived.Test.YtkgnlobabknkcaaGreatMgCheckBaseR
import Derived.Test.YtkgnlobabknkcaaGreatMgCheckBaseS
import Derived.Test.YtkgnlobabknkcaaGreatMgCheckBaseShelf
import Derived.Test.YtkgnlobabknkcaaGreatMgCheckBaseT
import Derived.Test.YtkgnlobabknkcaaGreatMgCheckBaseU
import Derived.Test.YtkgnlobabknkcaaGreatMgCheckOneA
namespace Go.Proofs.YtkgnlobabknkcaaGreat
set_option linter.unusedVariables false
set_option linter.unusedSimpArgs false
set_option maxHeartbeats 8000000
open Go.RowKit

def tagI (i : Nat) : List UInt8 := tagN (UInt8.ofNat i)
structure RowsD (D : Dk) (l : List Sta) : Prop where
 c : Calm2 D
 left : D.left = 0
 may : ∀ s ∈ l, mayS s = true
 h1 : hN D (plc (l.length : Int)) = (l.length : Int)
 h2 : hN D (1 - plc (l.length : Int)) = max ((l.length : Int) - 1) 0
 last : ∀ s, l.getLast? = some s → kAt D (plc (l.length : Int)) = some ((l.length : Int), tagI (l.length - 1), s)
theorem rowsD_new : RowsD (Dk.new 323) [] :=
 ⟨⟨new_rest, rfl⟩, rfl, (fun s h => by cases h), new_hN _ (plc_lt _), by rw [new_hN _ (by omega)]; rfl, (fun s h => by cases h)⟩
theorem RowsD.snoc {D : Dk} {l : List Sta} {s : Sta} (h : RowsD D l) (hl : l.length ≤ 1000) (hm : mayS s = true) (hb : StBd s) :
  (kPutR D ((l.length : Int) + 1) (tagI l.length) s).2 = 0 ∧ RowsD (kPutR D ((l.length : Int) + 1) (tagI l.length) s).1 (l ++ [s]) := by
 obtain ⟨e, p, r, lf, y⟩ := put_calm (n := (l.length : Int) + 1) (hash := tagI l.length) h.c.r h.left h.c.y hb hm (tagN_len _) (by omega) (by omega)
 refine ⟨e, ⟨⟨r, y⟩, lf, ?_, ?_, ?_, ?_⟩⟩
 ·intro x hx
  rcases List.mem_append.1 hx with hx | hx
  ·exact h.may x hx
  ·rw [List.mem_singleton.1 hx]; exact hm
 ·rw [List.length_append, List.length_singleton, Int.natCast_add]
  exact p.head
 ·rw [List.length_append, List.length_singleton, Int.natCast_add]
  have e1 : 1 - plc ((l.length : Int) + 1) = plc (l.length : Int) := by unfold plc; omega
  have := p.oldh
  rw [e1] at this
  show hN _ (1 - plc ((l.length : Int) + 1)) = _
  rw [e1, this, h.h1]
  omega
 ·intro x hx
  rw [List.getLast?_concat] at hx
  injection hx with hx
  subst hx
  rw [List.length_append, List.length_singleton, Int.natCast_add, Nat.add_sub_cancel]
  exact p.new
theorem one_yes {D : Dk} {l : List Sta} {s : Sta} {k : Int} {y : List UInt8} (h : RowsD D l) (hl : l.length ≤ 4) (hm : mayS s = true) (hb : StBd s) (k1 : 99 ≤ k) (hy : y.length ≤ 1000000) :
  (kPutR { D with left := k, stay := y } ((l.length : Int) + 1) (tagN 99) s).2 = 0 ∧ (kPutR { D with left := k, stay := y } ((l.length : Int) + 1) (tagN 99) s).1.up = true ∧
  (kPutR { D with left := k, stay := y } ((l.length : Int) + 1) (tagN 99) s).1.sec.length = 323 ∧ kGet (kPutR { D with left := k, stay := y } ((l.length : Int) + 1) (tagN 99) s).1 = some ((l.length : Int) + 1, tagN 99, s) := by
 obtain ⟨E, hE⟩ : ∃ E : Dk, ({ D with left := k, stay := y } : Dk) = E := ⟨_, rfl⟩
 have q1 : E.up = true := by rw [← hE]; exact h.c.r.up
 have q2 : E.cache = [] := by rw [← hE]; exact h.c.r.cache
 have q3 : E.sec.length = 323 := by rw [← hE]; exact h.c.r.len
 have q4 : E.left = k := by rw [← hE]
 have q6 : ∀ p, hN E p = hN D p := fun p => by rw [← hE]; exact hN_up D p k y D.up
 rw [hE, putR_may (by omega) hm]
 rcases kPut_all (hash := tagN 99) q1 q2 (by rw [q3]; omega) (by rw [q4]; omega) hb hm (tagN_len 99) (show 1 ≤ (l.length : Int) + 1 by omega) (by omega) with ⟨_, a, _⟩ | ⟨_, e, p⟩
 ·rw [q4] at a; omega
 ·refine ⟨e, p.up, p.len.trans q3, kGet_top (plc_lt _) p.new ?_⟩
  have e1 : 1 - plc ((l.length : Int) + 1) = plc (l.length : Int) := by unfold plc; omega
  have h3 := kNum_le (kPut E (plc ((l.length : Int) + 1)) ((l.length : Int) + 1) (tagN 99) s).1 (1 - plc ((l.length : Int) + 1))
  have h4 := p.oldh
  rw [h4, e1, q6, h.h1] at h3
  rw [e1]
  show _ < (l.length : Int) + 1
  omega
theorem one_no {D : Dk} {l : List Sta} {s s0 : Sta} {k : Int} {y : List UInt8} (h : RowsD D l) (hl : l.length ≤ 4) (hs0 : l.getLast? = some s0) (hm : mayS s = true) (hb : StBd s) (k1 : 1 ≤ k) (k2 : k ≤ 98) (hy : y.length ≤ 1000000) :
  (kPutR { D with left := k, stay := y } ((l.length : Int) + 1) (tagN 99) s).2 = 60 ∧ (kPutR { D with left := k, stay := y } ((l.length : Int) + 1) (tagN 99) s).1.up = false ∧
  (kPutR { D with left := k, stay := y } ((l.length : Int) + 1) (tagN 99) s).1.sec.length = 323 ∧
  (kGet { (kPutR { D with left := k, stay := y } ((l.length : Int) + 1) (tagN 99) s).1 with up := true } = some ((l.length : Int) + 1, tagN 99, s) ∨
   kGet { (kPutR { D with left := k, stay := y } ((l.length : Int) + 1) (tagN 99) s).1 with up := true } = some ((l.length : Int), tagI (l.length - 1), s0)) := by
 obtain ⟨E, hE⟩ : ∃ E : Dk, ({ D with left := k, stay := y } : Dk) = E := ⟨_, rfl⟩
 have q1 : E.up = true := by rw [← hE]; exact h.c.r.up
 have q2 : E.cache = [] := by rw [← hE]; exact h.c.r.cache
 have q3 : E.sec.length = 323 := by rw [← hE]; exact h.c.r.len
 have q4 : E.left = k := by rw [← hE]
 have q5 : ∀ p, kAt E p = kAt D p := fun p => by rw [← hE]; exact kAt_up D p k y D.up
 have q6 : ∀ p, hN E p = hN D p := fun p => by rw [← hE]; exact hN_up D p k y D.up
 have hl0 : 1 ≤ l.length := by
  cases l with
  | nil => cases hs0
  | cons => simp
 rw [hE, putR_may (by omega) hm]
 rcases kPut_all (hash := tagN 99) q1 q2 (by rw [q3]; omega) (by rw [q4]; omega) hb hm (tagN_len 99) (show 1 ≤ (l.length : Int) + 1 by omega) (by omega) with ⟨_, _, e, p⟩ | ⟨a, _⟩
 ·obtain ⟨F, hF⟩ : ∃ F, (kPut E (plc ((l.length : Int) + 1)) ((l.length : Int) + 1) (tagN 99) s).1 = F := ⟨_, rfl⟩
  rw [hF] at p ⊢
  refine ⟨e, p.up, p.len.trans q3, ?_⟩
  have e1 : 1 - plc ((l.length : Int) + 1) = plc (l.length : Int) := by unfold plc; omega
  have e2 : plc ((l.length : Int) + 1) = 1 - plc (l.length : Int) := by unfold plc; omega
  have u1 : ∀ p, kAt { F with up := true } p = kAt F p := fun p => rfl
  have u2 : ∀ p, hN { F with up := true } p = hN F p := fun p => rfl
  have hold : kAt F (plc (l.length : Int)) = some ((l.length : Int), tagI (l.length - 1), s0) := by
   have := p.old
   rw [e1, q5] at this
   rw [this]; exact h.last s0 hs0
  rcases p.new with ⟨_, hn, hh⟩ | hh
  ·left
   refine kGet_top (plc_lt _) ((u1 _).trans hn) ?_
   rw [e1, u1, hold]
   show (l.length : Int) < (l.length : Int) + 1
   omega
  ·right
   refine kGet_top (plc_lt _) ((u1 _).trans hold) ?_
   have h3 := kNum_le { F with up := true } (1 - plc (l.length : Int))
   have h4 : hN { F with up := true } (1 - plc (l.length : Int)) = max ((l.length : Int) - 1) 0 := by
    rw [u2, ← e2, hh, e2, q6, h.h2]
   have h5 := Int.le_trans h3 (Int.le_of_eq h4)
   exact Int.lt_of_le_of_lt h5 (by show max ((l.length : Int) - 1) 0 < (l.length : Int); omega)
 ·rw [q4] at a; omega
end Go.Proofs.YtkgnlobabknkcaaGreat
