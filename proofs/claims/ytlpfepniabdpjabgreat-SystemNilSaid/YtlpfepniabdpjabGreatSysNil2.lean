/- Great at no manifest and one event. -/
import Derived.Test.YtlpfepniabdpjabGreatSysNil
namespace Go.Proofs.YtlpfepniabdpjabGreat
open Go.RowKit
set_option linter.unusedVariables false

theorem manZ_34 : manZ[34]? = some (.slice none 0 0) := by kernel_rfl
theorem manZ_35 : manZ[35]? = some (.slice none 0 0) := by kernel_rfl
theorem manZ_36 : manZ[36]? = some (.slice none 0 0) := by kernel_rfl

/-- a call hands back a flag -/
def SomeBool (e : Ending) : Prop := ∃ g : Bool, e = .returned (.bool g)

set_option maxRecDepth 100000 in
set_option maxHeartbeats 4000000 in
theorem great1 (bL : Nat) (kd pt n : Int) (aB : Option Addr) (nB cB : Nat) (w : World) (h0 : w.cell? ⟨bL, 0, none⟩ = some (.int .u8 kd)) (h2 : w.cell? ⟨bL, 2, none⟩ = some (.int .i64 n)) (h3 : w.cell? ⟨bL, 3, none⟩ = some (.slice aB nB cB)) :
    Calls Tryz.prog 4 #[.agg manZ, .slice (some ⟨bL, 0, none⟩) 1 1] w fun e w' => SomeBool e ∧ Chg Non w w' := by
  have hg0 : Chg Non w (w.alloc (.cells manZ 34)) := (Chg.refl Non w).alloc _
  have k0 := hg0.cell_some h0 (fun e => e)
  have k2 := hg0.cell_some h2 (fun e => e)
  have k3 := hg0.cell_some h3 (fun e => e)
  have HG := Lib.hid hg0
  clear hg0 h0 h2 h3
  have m34 := manZ_34
  have m35 := manZ_35
  have m36 := manZ_36
  obtain ⟨s, hs⟩ : ∃ s : Int, IntKind.i64.wrap (350 + (nB : Int)) = s := ⟨_, rfl⟩
  have hs2 : wrap64 (350 + (nB : Int)) = s := by rw [← hs]; exact (Go.IntWalk.i64_left _).symm
  have fin : ∀ b : Bool, True := fun _ => trivial
  go_enter Tryz.func4, Tryz.ntmps4
  go_wp2_with fail
  refine wp_loop_rounds 1 ?_
  rw [rounds_succ]
  go_wp2_with fail
  refine wp_loop_rounds 2 ?_
  rw [rounds_succ]
  by_cases c1 : (kd == 1) = true
  · by_cases c2 : 0 < n
    · have d2 : decide (0 < n) = true := by simpa using c2
      by_cases c3 : n ≤ 1000
      · have d3 : decide (n ≤ 1000) = true := by simpa using c3
        obtain ⟨t, ht⟩ : ∃ t : Int, IntKind.i64.wrap (s + 40 * n) = t := ⟨_, rfl⟩
        have ht2 : wrap64 (s + 40 * n) = t := by rw [← ht]; exact (Go.IntWalk.i64_left _).symm
        have hw : IntKind.i64.wrap (40 * n) = 40 * n := Go.IntWalk.i64_in _ (by omega)
        have hw2 : wrap64 (40 * n) = 40 * n := by unfold wrap64; omega
        by_cases hb : 14000 < t
        · have db : decide (14000 < t) = true := by simpa using hb
          go_wp2_with fail
          go_ret
          exact ⟨⟨_, rfl⟩, HG.out⟩
        · have db : decide (14000 < t) = false := by simpa using hb
          go_wp2_with fail
          rw [rounds_succ]
          go_wp2_with fail
          go_ret
          exact ⟨⟨_, rfl⟩, HG.out⟩
      · have d3 : decide (n ≤ 1000) = false := by simpa using c3
        by_cases hb : 14000 < s
        · have db : decide (14000 < s) = true := by simpa using hb
          go_wp2_with fail
          go_ret
          exact ⟨⟨_, rfl⟩, HG.out⟩
        · have db : decide (14000 < s) = false := by simpa using hb
          go_wp2_with fail
          rw [rounds_succ]
          go_wp2_with fail
          go_ret
          exact ⟨⟨_, rfl⟩, HG.out⟩
    · have d2 : decide (0 < n) = false := by simpa using c2
      by_cases hb : 14000 < s
      · have db : decide (14000 < s) = true := by simpa using hb
        go_wp2_with fail
        go_ret
        exact ⟨⟨_, rfl⟩, HG.out⟩
      · have db : decide (14000 < s) = false := by simpa using hb
        go_wp2_with fail
        rw [rounds_succ]
        go_wp2_with fail
        go_ret
        exact ⟨⟨_, rfl⟩, HG.out⟩
  · have c1' : (kd == 1) = false := by simpa using c1
    clear c1
    by_cases hb : 14000 < s
    · have db : decide (14000 < s) = true := by simpa using hb
      go_wp2_with fail
      go_ret
      exact ⟨⟨_, rfl⟩, HG.out⟩
    · have db : decide (14000 < s) = false := by simpa using hb
      go_wp2_with fail
      rw [rounds_succ]
      go_wp2_with fail
      go_ret
      exact ⟨⟨_, rfl⟩, HG.out⟩
end Go.Proofs.YtlpfepniabdpjabGreat
