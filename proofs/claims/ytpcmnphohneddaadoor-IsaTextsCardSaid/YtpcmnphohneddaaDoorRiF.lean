/- The document's answer of layer 19: digits whole, Names, Text. -/
import Derived.Test.YtpcmnphohneddaaDoorRiE
import Derived.Test.YtpcmnphohneddaaDoorRiP
namespace Go.Proofs.YtpcmnphohneddaaDoor
open Go.RowKit
set_option linter.unusedVariables false

theorem rDigits_ok (l : List UInt8) (w : World) (hl : l.length ≤ 1000000) :
    Calls Tryd.prog 34 #[mkStr l] w fun e w' => e = .returned (.int .i64 (digV l)) ∧ w = w' := by
  rcases Nat.lt_or_ge 5 l.length with h5 | h5
  · rw [show digV l = -1 by unfold digV; rw [if_pos (.inr (.inl h5))]]
    exact rDig_long l w h5 hl
  · match l, h5 with
    | [], _ => exact rDig_nil w
    | [x], _ =>
      rw [show digV [x] = digZ (digF 0 [x]) by unfold digV; rw [if_neg (by simp)]]
      exact rDig_one x w
    | x :: y :: r, h5 =>
      have h4 : r.length < 4 := by simp only [List.length_cons] at h5; omega
      by_cases hx : x = 48
      · subst hx
        rw [show digV (48 :: y :: r) = -1 by unfold digV; rw [if_pos (.inr (.inr ⟨by simp, rfl⟩))]]
        exact rDig_nought y r w h4
      · rw [show digV (x :: y :: r) = digZ (digF 0 (x :: y :: r)) by
          unfold digV
          rw [if_neg]
          rintro (h | h | ⟨_, h⟩)
          · simp at h
          · omega
          · simp at h; exact hx h]
        exact rDig_two x y r hx h4 w

/-- the names, by their numbers -/
def namesL : List (List UInt8) := opRows.map (·.name)
def namesC : Array Value := (namesL.map mkStr).toArray
set_option maxRecDepth 100000 in
set_option maxHeartbeats 4000000 in
theorem rNames_ok (w : World) :
    Calls Tryd.prog 19 #[] w fun e w' => e = .returned (.slice (some ⟨w.heap.size, 0, none⟩) 22 22) ∧ w.alloc (.cells namesC 9) = w' := by
  go_enter Tryd.func19, Tryd.ntmps19
  go_wp2
  go_ret
  exact ⟨rfl, by kernel_rfl⟩
end Go.Proofs.YtpcmnphohneddaaDoor
