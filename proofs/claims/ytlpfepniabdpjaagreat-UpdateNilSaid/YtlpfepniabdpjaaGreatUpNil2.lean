/- The weight of an act. -/
import Derived.Test.YtlpfepniabdpjaaGreatUpNil
namespace Go.Proofs.YtlpfepniabdpjaaGreat
open Go.RowKit
set_option linter.unusedVariables false

/-- partitions of which each one's image can be told -/
def PartsOk (w : World) (A : Option Addr) (n : Nat) : Prop :=
  ∀ i, i < n → ∃ b o a m c, A = some ⟨b, o, none⟩ ∧ w.cell? ⟨b, o + i * 5 + 4, none⟩ = some (.slice a m c)
theorem PartsOk.non {w W : World} {A : Option Addr} {n : Nat} (h : PartsOk w A n) (hg : Chg Non w W) : PartsOk W A n := fun i hi => by
  obtain ⟨b, o, a, m, c, e, hc⟩ := h i hi
  exact ⟨b, o, a, m, c, e, hg.cell_some hc (fun e => e)⟩

set_option maxRecDepth 100000 in
set_option maxHeartbeats 1000000 in
theorem weight_ok (M : Array Value) (aW aP aC : Option Addr) (nW cW nP cP nC cC : Nat) (w : World) (h1 : M[34]? = some (.slice aW nW cW)) (h2 : M[35]? = some (.slice aP nP cP)) (h3 : M[36]? = some (.slice aC nC cC))
    (hP : PartsOk w aP nP) (hn : nP ≤ 9223372036854775807) :
    Calls Tryz.prog 14 #[.agg M] w fun e w' => (∃ z : Int, e = .returned (.int .i64 z)) ∧ Chg Non w w' := by
  have HP := Lib.hid hP
  clear hP
  go_enter Tryz.func14, Tryz.ntmps14
  go_wp2_with fail
  go_loopw [3, 4] (fun v i wr => ∃ k : Nat, k ≤ nP ∧ i = .int .i64 k ∧ (∃ z : Int, v = .int .i64 z) ∧ wr = w.alloc (.cells M 31)) (fun _ i _ => nP - (intOf i).toNat)
  case atStart => exact ⟨0, by omega, rfl, ⟨_, rfl⟩, rfl⟩
  case round =>
    obtain ⟨k, hk, rfl, ⟨z, rfl⟩, rfl⟩ := hrel
    by_cases hlt : k < nP
    · obtain ⟨b, o, a, m, c, rfl, hc⟩ := HP.out k hlt
      have hc' : (w.alloc (.cells M 31)).cell? ⟨b, o + k * 5 + 4, none⟩ = some (.slice a m c) := ((Chg.refl Non w).alloc _).cell_some hc (fun e => e)
      have hd : decide ((k : Int) < (nP : Int)) = true := by simpa using hlt
      go_wp2_with fail
      case roundEnd => exact ⟨⟨k + 1, by omega, by simp, ⟨_, rfl⟩, trivial⟩, by simp [intOf]; omega⟩
    · obtain rfl : k = nP := by omega
      go_wp2_with fail
      go_ret
      exact ⟨⟨_, rfl⟩, (Chg.refl Non w).alloc _⟩
end Go.Proofs.YtlpfepniabdpjaaGreat
