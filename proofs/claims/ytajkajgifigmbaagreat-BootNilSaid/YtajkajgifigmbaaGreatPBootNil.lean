/-
  The law BootNil: for every input the call returns true and its arguments read afterwards as before. No condition.
-/
import Derived.Test.YtajkajgifigmbaaGreatRows
import Derived.Test.YtajkajgifigmbaaGreatMgBootNilA
import Derived.Test.YtajkajgifigmbaaGreatMgBootNilB
import Derived.Test.YtajkajgifigmbaaGreatMgBootNilC
import Derived.Test.YtajkajgifigmbaaGreatMgBootNilD
import Derived.Test.YtajkajgifigmbaaGreatMgBootNilE
import Derived.Test.YtajkajgifigmbaaGreatMgBootNilF
import Derived.Test.YtajkajgifigmbaaGreatMgBootNilG
import Derived.Test.YtajkajgifigmbaaGreatMgBootNilH
import Derived.Test.YtajkajgifigmbaaGreatMgBootNilI
import Derived.Test.YtajkajgifigmbaaGreatMgBootNilJ
import Derived.Test.YtajkajgifigmbaaGreatMgBootNilK
import Derived.Test.YtajkajgifigmbaaGreatMgBootNilL
import Derived.Test.YtajkajgifigmbaaGreatMgBootNilM
import Derived.Test.YtajkajgifigmbaaGreatMgBootNilN
import Derived.Test.YtajkajgifigmbaaGreatMgBootNilShelf
import Derived.Test.YtajkajgifigmbaaGreatMgBootTopA
import Derived.Test.YtajkajgifigmbaaGreatJBootNil
import Derived.SizedLaws
import Derived.WalkKit
import Derived.ProofKit
import Derived.OpenShut
namespace Go.Proofs.YtajkajgifigmbaaGreat.bootNil
open Go.ChangeShapes Go.WideShapes Go.ChangeAt Go.RowKit
set_option linter.unusedVariables false

theorem own : ownKnob Tryz.prog.godebug = none := by kernel_rfl
theorem kids : Kids Tryz.prog (· < Tryz.prog.types.size) := kids_rows (by kernel_rfl) (by kernel_rfl)
theorem full : ∀ t e, t < Tryz.prog.types.size → Tryz.prog.underlying t = some (.slice e) → 0 < Tryz.prog.cellsOf e := slices_full_of Tryz.prog (by kernel_rfl)
theorem inTable : ∀ t ∈ Tryz.f3.params.toList, t < Tryz.prog.types.size := by rw [Tryz.params3]; exact of_decide_eq_true (by kernel_rfl)

set_option maxRecDepth 100000 in
theorem lifted (os : Os) (started : os.Started) (H : Type) (enc : TypeId × Value → H) :
    ReturnsInHanded {} Tryz.checked os 3 .any (Rows.bootNilSpec.pre6 enc Tryz.prog Tryz.f3 Rows.bootNilRow.domain false) (Rows.bootNilSpec.post enc Tryz.prog Tryz.f3 false true false false) := by
  refine returnsInHanded_of_change_sized (C := Tryz.checked) own started (by kernel_rfl) Tryz.func3
    (ChangeSpec.witness6 (enc := enc) (C := Tryz.checked) false ⟨#[], #[.agg manZ], []⟩ 8 (by kernel_rfl) (by kernel_rfl) (by kernel_rfl) (by kernel_rfl)) ?_
  intro W base args ds gs before hval0 hW hcnd hsized _
  have hval : ∀ (j : Nat) t v, Tryz.f3.params[j]? = some t → args[j]? = some v → Value.okWide Tryz.prog W .any base t v := hval0
  have hW' := hW
  obtain ⟨p, q, hA0, hV, rfl, hfz, hnd⟩ := hW
  have hA : DataW.TrodAll enc Tryz.prog W 0 (fun _ => true) true Tryz.f3.params.toList args.toList ds p := hA0
  rw [Tryz.params3] at hA hval
  obtain ⟨v0, vs0, d0, ds0, p0, q0, hargs, rfl, rfl, h0, r0⟩ := trodAll_cons hA
  obtain ⟨rfl, rfl, rfl⟩ := trodAll_nil r0
  obtain rfl : args = #[v0] := by cases args; simp_all
  obtain ⟨rfl, rfl⟩ := trodVars_none hV
  obtain ⟨C, m, A1, A2, A3, c1, c2, c3, rfl, hM⟩ := open_man (hval 0 30 v0 rfl rfl) h0 (SizedD.arg hsized (j := 0) rfl rfl)
  clear hA0 hval0
  simp only [List.append_nil] at hW'
  refine (bootNil_walk (fun b => b < W.heap.size) W m A1 A2 A3 c1 c2 c3 C hM (fun _ h => h)).mono fun e W' ⟨he, hg⟩ => ?_
  subst he
  exact ⟨_, rfl, post_law kids full inTable (tb := 4) rfl Tryz.underlying4 hW' rfl rfl rfl rfl hg.below_non⟩

theorem over : Rows.bootNilRow.holds Tryz.pinned (OpenSpec.ofChange Rows.bootNilSpec) :=
  OpenClaim.holds_of_wide 3 Tryz.f3 rfl rfl rfl rfl rfl rfl rfl ⟨rfl, rfl, rfl, rfl, rfl⟩ rfl rfl rfl rfl rfl named_ Tryz.func3 closed
    inst_ wrap_
    (fun os started H enc _ => lifted os started H enc)

/-- the statement -/
theorem proved : Rows.BootNilSaid :=
  over
#print axioms proved
end Go.Proofs.YtajkajgifigmbaaGreat.bootNil
