/-
  The law CheckPlays: for every input the call returns true and its arguments read afterwards as before. No condition.
-/
import Derived.Test.YtkgnlobabknkcaaGreatRows
import Derived.Test.YtkgnlobabknkcaaGreatMgCheckPlaysA
import Derived.Test.YtkgnlobabknkcaaGreatMgCheckPlaysAA
import Derived.Test.YtkgnlobabknkcaaGreatMgCheckPlaysB
import Derived.Test.YtkgnlobabknkcaaGreatMgCheckPlaysC
import Derived.Test.YtkgnlobabknkcaaGreatMgCheckPlaysD
import Derived.Test.YtkgnlobabknkcaaGreatMgCheckPlaysE
import Derived.Test.YtkgnlobabknkcaaGreatMgCheckPlaysF
import Derived.Test.YtkgnlobabknkcaaGreatMgCheckPlaysG
import Derived.Test.YtkgnlobabknkcaaGreatMgCheckPlaysH
import Derived.Test.YtkgnlobabknkcaaGreatMgCheckPlaysI
import Derived.Test.YtkgnlobabknkcaaGreatMgCheckPlaysJ
import Derived.Test.YtkgnlobabknkcaaGreatMgCheckPlaysK
import Derived.Test.YtkgnlobabknkcaaGreatMgCheckPlaysL
import Derived.Test.YtkgnlobabknkcaaGreatMgCheckPlaysM
import Derived.Test.YtkgnlobabknkcaaGreatMgCheckPlaysN
import Derived.Test.YtkgnlobabknkcaaGreatMgCheckPlaysO
import Derived.Test.YtkgnlobabknkcaaGreatMgCheckPlaysP
import Derived.Test.YtkgnlobabknkcaaGreatMgCheckPlaysQ
import Derived.Test.YtkgnlobabknkcaaGreatMgCheckPlaysR
import Derived.Test.YtkgnlobabknkcaaGreatMgCheckPlaysS
import Derived.Test.YtkgnlobabknkcaaGreatMgCheckPlaysShelf
import Derived.Test.YtkgnlobabknkcaaGreatMgCheckPlaysT
import Derived.Test.YtkgnlobabknkcaaGreatMgCheckPlaysU
import Derived.Test.YtkgnlobabknkcaaGreatMgCheckPlaysV
import Derived.Test.YtkgnlobabknkcaaGreatMgCheckPlaysW
import Derived.Test.YtkgnlobabknkcaaGreatMgCheckPlaysX
import Derived.Test.YtkgnlobabknkcaaGreatMgCheckPlaysY
import Derived.Test.YtkgnlobabknkcaaGreatMgCheckPlaysZ
import Derived.SizedLaws
import Derived.WalkKit
import Derived.ProofKit
import Derived.OpenShut
namespace Go.Proofs.YtkgnlobabknkcaaGreat.checkPlays
open Go.ChangeShapes Go.WideShapes Go.ChangeAt Go.RowKit
set_option linter.unusedVariables false

theorem own : ownKnob Tryz.prog.godebug = none := by kernel_rfl
theorem kids : Kids Tryz.prog (· < Tryz.prog.types.size) := kids_rows (by kernel_rfl) (by kernel_rfl)
theorem full : ∀ t e, t < Tryz.prog.types.size → Tryz.prog.underlying t = some (.slice e) → 0 < Tryz.prog.cellsOf e := slices_full_of Tryz.prog (by kernel_rfl)
theorem inTable : ∀ t ∈ Tryz.f4.params.toList, t < Tryz.prog.types.size := by rw [Tryz.params4]; exact of_decide_eq_true (by kernel_rfl)

set_option maxRecDepth 100000 in
theorem lifted (os : Os) (started : os.Started) (H : Type) (enc : TypeId × Value → H) :
    ReturnsInHanded {} Tryz.checked os 4 .any (Rows.checkPlaysSpec.pre6 enc Tryz.prog Tryz.f4 Rows.checkPlaysRow.domain false) (Rows.checkPlaysSpec.post enc Tryz.prog Tryz.f4 false true false false) := by
  refine returnsInHanded_of_change_sized (C := Tryz.checked) own started (by kernel_rfl) Tryz.func4
    (ChangeSpec.witness6 (enc := enc) (C := Tryz.checked) false ⟨#[], #[.slice none 0 0], []⟩ 8 (by kernel_rfl) (by kernel_rfl) (by kernel_rfl) (by kernel_rfl)) ?_
  intro W base args ds gs before hval0 hW hcnd hsized _
  have hval : ∀ (j : Nat) t v, Tryz.f4.params[j]? = some t → args[j]? = some v → Value.okWide Tryz.prog W .any base t v := hval0
  have hW' := hW
  obtain ⟨p, q, hA0, hV, rfl, hfz, hnd⟩ := hW
  have hA : DataW.TrodAll enc Tryz.prog W 0 (fun _ => true) true Tryz.f4.params.toList args.toList ds p := hA0
  rw [Tryz.params4] at hA hval
  obtain ⟨v0, vs0, d0, ds0, p0, q0, hargs, rfl, rfl, h0, r0⟩ := trodAll_cons hA
  obtain ⟨rfl, rfl, rfl⟩ := trodAll_nil r0
  obtain rfl : args = #[v0] := by cases args; simp_all
  obtain ⟨rfl, rfl⟩ := trodVars_none hV
  obtain ⟨L, l, c, rfl, b1, b2, b3⟩ := open_acs (hval 0 32 v0 rfl rfl) h0 (SizedD.arg hsized (j := 0) rfl rfl)
  clear hA0 hval0
  simp only [List.append_nil] at hW'
  refine (CheckPlays_ok (fun b => b < W.heap.size) (fun _ => True) L l c W b1 (fun _ h => h) b2 b3).mono fun e W' ⟨he, hg⟩ => ?_
  subst he
  exact ⟨_, rfl, post_law kids full inTable (tb := 4) rfl Tryz.underlying4 hW' rfl rfl rfl rfl hg.below_non⟩

theorem over : Rows.checkPlaysRow.holds Tryz.pinned (OpenSpec.ofChange Rows.checkPlaysSpec) :=
  OpenClaim.holds_of_wide 4 Tryz.f4 rfl rfl rfl rfl rfl rfl rfl ⟨rfl, rfl, rfl, rfl, rfl⟩ rfl rfl rfl rfl rfl (by kernel_rfl) Tryz.func4 (by kernel_rfl)
    (of_decide_eq_true (by kernel_rfl)) (by unfold Func.isWrapper; first | (rw [if_pos (by decide +kernel)]; kernel_rfl) | (rw [if_neg (by decide +kernel)]; exact ⟨rfl, rfl⟩))
    (fun os started H enc _ => lifted os started H enc)

/-- the statement -/
theorem proved : Rows.CheckPlaysSaid :=
  over
#print axioms proved
end Go.Proofs.YtkgnlobabknkcaaGreat.checkPlays
