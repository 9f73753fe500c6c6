/- VmBlind, plain: with another byte elsewhere, another ID, another Keep a step does the same. -/
import Derived.Test.YtpcmnphohneddaaGreatDoorVmP
namespace Go.Proofs.YtpcmnphohneddaaGreatDoor
set_option linter.unusedVariables false

theorem step_id (p : Pt) : (stepV p).1.id = p.id := by
  rcases step_shape p with ⟨h, _⟩ | ⟨⟨v, h⟩, _⟩ | ⟨⟨a, v, h⟩, _⟩ | ⟨⟨a, b, _, hl, h⟩, _⟩ | ⟨h, _⟩
  · rw [h]
  · rw [h]
  · rw [h]; rfl
  · rw [h]
  · rw [h]
theorem blind_law (p : Pt) (i : Int) (k : Nat) (y : UInt8) (x : Ins) (hf : fetch p = some x) (hk : k < p.pc ∨ p.pc + 4 ≤ k) (h : memB x.op = true → k < p.g x.b + x.n.toNat ∨ p.g x.b + x.n.toNat + 4 ≤ k) :
    (stepV (p.other i k y)).1.other p.id k y = (stepV p).1 ∧ (stepV (p.other i k y)).2.1 = (stepV p).2.1 ∧ (stepV (p.other i k y)).2.2 = (stepV p).2.2 := by
  rw [step_other p i k y x hf hk h]
  exact ⟨other_back _ i p.id k y (step_id p), rfl, rfl⟩
end Go.Proofs.YtpcmnphohneddaaGreatDoor
