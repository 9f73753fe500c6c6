/-
  The law UpdateNil: for every input the call returns true and its arguments read afterwards as before. No condition.
-/
import Derived.Test.YtlpfepniabdpjaaGreatRows
import Derived.Test.YtlpfepniabdpjaaGreatUpNilW
import Derived.Test.YtlpfepniabdpjaaGreatUpOpen
import Derived.Test.YtlpfepniabdpjaaGreatOpen
import Derived.WalkKit
import Derived.ProofKit
import Derived.OpenShut
namespace Go.Proofs.YtlpfepniabdpjaaGreat.updateNil
open Go.ChangeShapes Go.WideShapes Go.ChangeAt Go.RowKit
set_option linter.unusedVariables false

theorem own : ownKnob Tryz.prog.godebug = none := by kernel_rfl
theorem kids : Kids Tryz.prog (· < Tryz.prog.types.size) := kids_rows (by kernel_rfl) (by kernel_rfl)
theorem full : ∀ t e, t < Tryz.prog.types.size → Tryz.prog.underlying t = some (.slice e) → 0 < Tryz.prog.cellsOf e := slices_full_of Tryz.prog (by kernel_rfl)
theorem inTable : ∀ t ∈ Tryz.f3.params.toList, t < Tryz.prog.types.size := by rw [Tryz.params3]; exact of_decide_eq_true (by kernel_rfl)

set_option maxRecDepth 100000 in
theorem lifted (os : Os) (started : os.Started) (H : Type) (enc : TypeId × Value → H) :
    ReturnsInHanded {} Tryz.checked os 3 .any (Rows.updateNilSpec.pre6 enc Tryz.prog Tryz.f3 Rows.updateNilRow.domain false) (Rows.updateNilSpec.post enc Tryz.prog Tryz.f3 false true false false) := by
  refine returnsInHanded_of_change (C := Tryz.checked) own started (by kernel_rfl) Tryz.func3
    (ChangeSpec.witness6 (enc := enc) (C := Tryz.checked) false ⟨#[], #[.int .i64 0, .slice none 0 0, .agg (#[.int .i64 0, .int .i64 0, .int .i64 0, .slice none 0 0] ++ manZ ++ urecZ)], []⟩ 8 (by kernel_rfl) (by kernel_rfl) (by kernel_rfl) (by kernel_rfl)) ?_
  intro W base args ds gs before hval0 hW hcnd _
  have hval : ∀ (j : Nat) t v, Tryz.f3.params[j]? = some t → args[j]? = some v → Value.okWide Tryz.prog W .any base t v := hval0
  have hW' := hW
  obtain ⟨p, q, hA0, hV, rfl, hfz, hnd⟩ := hW
  have hA : DataW.TrodAll enc Tryz.prog W 0 (fun _ => true) true Tryz.f3.params.toList args.toList ds p := hA0
  rw [Tryz.params3] at hA hval
  obtain ⟨v0, vs0, d0, ds0, p0, q0, hargs, rfl, rfl, h0, r0⟩ := trodAll_cons hA
  obtain ⟨v1, vs1, d1, ds1, p1, q1, rfl, rfl, rfl, h1, r1⟩ := trodAll_cons r0
  obtain ⟨v2, vs2, d2, ds2, p2, q2, rfl, rfl, rfl, h2, r2⟩ := trodAll_cons r1
  obtain ⟨rfl, rfl, rfl⟩ := trodAll_nil r2
  obtain rfl : args = #[v0, v1, v2] := by cases args; simp_all
  obtain ⟨rfl, rfl⟩ := trodVars_none hV
  obtain ⟨z, rfl, hz⟩ := open_int Tryz.underlying3 (hval 0 3 v0 rfl rfl) h0
  obtain ⟨B, l, c, rfl, _, _, _⟩ := open_bytes Tryz.underlying22 Tryz.underlying5 (by kernel_rfl) (hval 1 22 v1 rfl rfl) h1
  obtain ⟨C, M, R, aB, aW, aP, aC, nB, cB, nW, cW, nP, cP, nC, cC, rfl, k1, k2, k3, k4, k5, k6, k7, k8, k9, k10, k11, k12⟩ := open_act (hval 2 35 v2 rfl rfl) h2
  unfold maxLen at k11 k12
  clear hA0 hval0
  simp only [List.append_nil] at hW'
  refine (upNil_walk z B l.length c C M R aB aW aP aC nB cB nW cW nP cP nC cC W k1 k2 k3 k4 k5 k6 k7 k8 k9 k10 (by omega) (by omega)).mono fun e W' ⟨he, hg⟩ => ?_
  subst he
  exact ⟨_, rfl, post_law kids full inTable (tb := 4) rfl Tryz.underlying4 hW' rfl rfl rfl rfl hg.below_non⟩

theorem over : Rows.updateNilRow.holds Tryz.pinned (OpenSpec.ofChange Rows.updateNilSpec) :=
  OpenClaim.holds_of_wide 3 Tryz.f3 rfl rfl rfl rfl rfl rfl rfl ⟨rfl, rfl, rfl, rfl, rfl⟩ rfl rfl rfl rfl rfl (by kernel_rfl) Tryz.func3 (by kernel_rfl)
    (of_decide_eq_true (by kernel_rfl)) (by unfold Func.isWrapper; first | (rw [if_pos (by decide +kernel)]; kernel_rfl) | (rw [if_neg (by decide +kernel)]; exact ⟨rfl, rfl⟩))
    (fun os started H enc _ => lifted os started H enc)

/-- the statement -/
theorem proved : Rows.UpdateNilSaid :=
  over
#print axioms proved
end Go.Proofs.YtlpfepniabdpjaaGreat.updateNil
