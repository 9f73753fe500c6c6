/-
  The law SystemNil: for every input the call returns true and its arguments read afterwards as before. No condition.
-/
import Derived.Test.YtlpfepniabdpjabGreatRows
import Derived.Test.YtlpfepniabdpjabGreatSysNilW
import Derived.Test.YtlpfepniabdpjabGreatSysOpen
import Derived.Test.YtlpfepniabdpjabGreatJSystemNil
import Derived.Test.YtlpfepniabdpjabGreatOpen
import Derived.WalkKit
import Derived.ProofKit
import Derived.OpenShut
namespace Go.Proofs.YtlpfepniabdpjabGreat.systemNil
open Go.ChangeShapes Go.WideShapes Go.ChangeAt Go.RowKit
set_option linter.unusedVariables false

theorem own : ownKnob Tryz.prog.godebug = none := by kernel_rfl
theorem kids : Kids Tryz.prog (· < Tryz.prog.types.size) := kids_rows (by kernel_rfl) (by kernel_rfl)
theorem full : ∀ t e, t < Tryz.prog.types.size → Tryz.prog.underlying t = some (.slice e) → 0 < Tryz.prog.cellsOf e := slices_full_of Tryz.prog (by kernel_rfl)
theorem inTable : ∀ t ∈ Tryz.f3.params.toList, t < Tryz.prog.types.size := by rw [Tryz.params3]; exact of_decide_eq_true (by kernel_rfl)

set_option maxRecDepth 100000 in
theorem lifted (os : Os) (started : os.Started) (H : Type) (enc : TypeId × Value → H) :
    ReturnsInHanded {} Tryz.checked os 3 .any (Rows.systemNilSpec.pre6 enc Tryz.prog Tryz.f3 Rows.systemNilRow.domain false) (Rows.systemNilSpec.post enc Tryz.prog Tryz.f3 false true false false) := by
  refine returnsInHanded_of_change (C := Tryz.checked) own started (by kernel_rfl) Tryz.func3
    (ChangeSpec.witness6 (enc := enc) (C := Tryz.checked) false ⟨#[], #[.agg #[.int .u8 0, .int .i64 0, .int .i64 0, .slice none 0 0], .int .i64 0], []⟩ 8 (by kernel_rfl) (by kernel_rfl) (by kernel_rfl) (by kernel_rfl)) ?_
  intro W base args ds gs before hval0 hW hcnd _
  have hval : ∀ (j : Nat) t v, Tryz.f3.params[j]? = some t → args[j]? = some v → Value.okWide Tryz.prog W .any base t v := hval0
  have hW' := hW
  obtain ⟨p, q, hA0, hV, rfl, hfz, hnd⟩ := hW
  have hA : DataW.TrodAll enc Tryz.prog W 0 (fun _ => true) true Tryz.f3.params.toList args.toList ds p := hA0
  rw [Tryz.params3] at hA hval
  obtain ⟨v0, vs0, d0, ds0, p0, q0, hargs, rfl, rfl, h0, r0⟩ := trodAll_cons hA
  obtain ⟨v1, vs1, d1, ds1, p1, q1, rfl, rfl, rfl, h1, r1⟩ := trodAll_cons r0
  obtain ⟨rfl, rfl, rfl⟩ := trodAll_nil r1
  obtain rfl : args = #[v0, v1] := by cases args; simp_all
  obtain ⟨rfl, rfl⟩ := trodVars_none hV
  obtain ⟨E, kd, n, aB, nB, cB, rfl, k1, k2, k3, k4⟩ := open_ev (hval 0 24 v0 rfl rfl) h0
  obtain ⟨z, rfl, hz⟩ := open_int Tryz.underlying3 (hval 1 3 v1 rfl rfl) h1
  clear hA0 hval0
  simp only [List.append_nil] at hW'
  refine (sysNil_walk E kd 0 n z aB nB cB W k1 k2 k3 k4).mono fun e W' ⟨he, hg⟩ => ?_
  subst he
  exact ⟨_, rfl, post_law kids full inTable (tb := 4) rfl Tryz.underlying4 hW' rfl rfl rfl rfl hg.below_non⟩

theorem over : Rows.systemNilRow.holds Tryz.pinned (OpenSpec.ofChange Rows.systemNilSpec) :=
  OpenClaim.holds_of_wide 3 Tryz.f3 rfl rfl rfl rfl rfl rfl rfl ⟨rfl, rfl, rfl, rfl, rfl⟩ rfl rfl rfl rfl rfl named_ Tryz.func3 closed
    inst_ wrap_
    (fun os started H enc _ => lifted os started H enc)

/-- the statement -/
theorem proved : Rows.SystemNilSaid :=
  over
#print axioms proved
end Go.Proofs.YtlpfepniabdpjabGreat.systemNil
