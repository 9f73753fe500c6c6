/- Parameters of CheckOne, opened: a row of states, bytes. -/
import Derived.Test.YtkgnlobabknkcaaGreatMgCheckBaseA
import Derived.Test.YtkgnlobabknkcaaGreatMgCheckBaseB
import Derived.Test.YtkgnlobabknkcaaGreatMgCheckBaseC
import Derived.Test.YtkgnlobabknkcaaGreatMgCheckBaseD
import Derived.Test.YtkgnlobabknkcaaGreatMgCheckBaseE
import Derived.Test.YtkgnlobabknkcaaGreatMgCheckBaseF
import Derived.Test.YtkgnlobabknkcaaGreatMgCheckBaseG
import Derived.Test.YtkgnlobabknkcaaGreatMgCheckBaseH
import Derived.Test.YtkgnlobabknkcaaGreatMgCheckBaseI
import Derived.Test.YtkgnlobabknkcaaGreatMgCheckBaseJ
import Derived.Test.YtkgnlobabknkcaaGreatMgCheckBaseK
import Derived.Test.YtkgnlobabknkcaaGreatMgCheckBaseL
import Derived.Test.YtkgnlobabknkcaaGreatMgCheckBaseM
import Derived.Test.YtkgnlobabknkcaaGreatMgCheckBaseN
import Derived.Test.YtkgnlobabknkcaaGreatMgCheckBaseO
import Derived.Test.YtkgnlobabknkcaaGreatMgCheckBaseP
import Derived.Test.YtkgnlobabknkcaaGreatMgCheckBaseQ
import Derived.Test.YtkgnlobabknkcaaGreatMgCheckBaseR
import Derived.Test.YtkgnlobabknkcaaGreatMgCheckBaseS
import Derived.Test.YtkgnlobabknkcaaGreatMgCheckBaseShelf
import Derived.Test.YtkgnlobabknkcaaGreatMgCheckBaseT
import Derived.Test.YtkgnlobabknkcaaGreatMgCheckBaseU
import Derived.Test.YtkgnlobabknkcaaGreatMgCheckOneC
namespace Go.Proofs.YtkgnlobabknkcaaGreat
set_option linter.unusedVariables false
set_option linter.unusedSimpArgs false
set_option maxHeartbeats 8000000
open Go.ChangeShapes Go.WideShapes Go.ChangeAt Go.RowKit

section
variable {H : Type} {enc : TypeId × Value → H} {W : World}
theorem st_cells {fuel : Nat} {cs : List Value} {x : DataW H × List MemPlace} (h : DataW.trod enc Tryz.prog W 0 (fun _ => true) true fuel 25 cs = some x) (hsz : SizedD Tryz.prog 25 x.1) : ∃ a : Sta, cs.length = 3 ∧ stV (fun b => b < W.heap.size) W a cs := by
 obtain ⟨s, vb, vd, hr, _, ho⟩ := sta_cells h hsz
 exact ⟨s, by rw [hr]; rfl, vb, vd, hr, ho⟩
set_option maxRecDepth 100000 in
theorem open_stas {r0 : Reach} {b0 : Nat} {v : Value} {d : DataW H} {ps : List MemPlace} (hval : Value.okWide Tryz.prog W r0 b0 68 v) (h : DataW.Trod enc Tryz.prog W 0 (fun _ => true) true 68 v d ps) (hsz : SizedD Tryz.prog 68 d) :
  ∃ (B : Option Addr) (l : List Sta) (c : Nat), v = .slice B l.length c ∧ RdL (stV (fun b => b < W.heap.size)) (fun b => b < W.heap.size) 3 W B l ∧ l.length ≤ c ∧ c ≤ maxLen := by
 obtain ⟨a, len, cap, rfl⟩ := okWide_slice Tryz.underlying68 hval
 obtain ⟨fuel, hf⟩ := h
 obtain ⟨A, l, c, h1, h2, h3, h4⟩ := row_is (stV (fun b => b < W.heap.size)) 3 (by decide) Tryz.underlying68 (by kernel_rfl) (fun _ _ _ => st_cells) hf hsz
 simp only [Value.cells, List.cons.injEq, and_true] at h1
 exact ⟨A, l, c, h1, (h2.bound (R' := stV (fun b => b < W.heap.size)) (by omega) (fun _ _ _ h => h)).mono (fun b h => h.2) (fun _ _ _ h => h), h3, h4⟩
set_option maxRecDepth 100000 in
theorem open_byts {r0 : Reach} {b0 : Nat} {v : Value} {d : DataW H} {ps : List MemPlace} (hval : Value.okWide Tryz.prog W r0 b0 29 v) (h : DataW.Trod enc Tryz.prog W 0 (fun _ => true) true 29 v d ps) :
  ∃ (B : Option Addr) (l : List UInt8) (c : Nat), v = .slice B l.length c ∧ Rd W B l ∧ l.length ≤ c ∧ c ≤ maxLen := by
 obtain ⟨a, len, cap, rfl⟩ := okWide_slice Tryz.underlying29 hval
 obtain ⟨fuel, hf⟩ := h
 obtain ⟨B, l, c, h1, h2, h3, h4, _⟩ := bytes_is Tryz.underlying29 Tryz.underlying5 (by kernel_rfl) hf
 simp only [Value.cells, List.cons.injEq, and_true] at h1
 exact ⟨B, l, c, h1, h2, h3, h4⟩
end
end Go.Proofs.YtkgnlobabknkcaaGreat
