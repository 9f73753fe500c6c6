/-
  The law CheckNil: for every input the call returns true and its arguments read afterwards as before. No condition.
-/
import Derived.Test.YtkgnlobabknkcaaGreatRows
import Derived.Test.YtkgnlobabknkcaaGreatMgCheckNilA
import Derived.Test.YtkgnlobabknkcaaGreatMgCheckNilB
import Derived.Test.YtkgnlobabknkcaaGreatMgCheckNilC
import Derived.Test.YtkgnlobabknkcaaGreatMgCheckNilD
import Derived.Test.YtkgnlobabknkcaaGreatMgCheckNilE
import Derived.Test.YtkgnlobabknkcaaGreatMgCheckNilF
import Derived.Test.YtkgnlobabknkcaaGreatMgCheckNilG
import Derived.Test.YtkgnlobabknkcaaGreatMgCheckNilH
import Derived.Test.YtkgnlobabknkcaaGreatMgCheckNilI
import Derived.Test.YtkgnlobabknkcaaGreatMgCheckNilJ
import Derived.Test.YtkgnlobabknkcaaGreatMgCheckNilK
import Derived.Test.YtkgnlobabknkcaaGreatMgCheckNilL
import Derived.Test.YtkgnlobabknkcaaGreatMgCheckNilM
import Derived.Test.YtkgnlobabknkcaaGreatMgCheckNilN
import Derived.Test.YtkgnlobabknkcaaGreatMgCheckNilShelf
import Derived.SizedLaws
import Derived.WalkKit
import Derived.ProofKit
import Derived.OpenShut
namespace Go.Proofs.YtkgnlobabknkcaaGreat.checkNil
open Go.ChangeShapes Go.WideShapes Go.ChangeAt Go.RowKit
set_option linter.unusedVariables false

theorem own : ownKnob Tryz.prog.godebug = none := by kernel_rfl
theorem kids : Kids Tryz.prog (· < Tryz.prog.types.size) := kids_rows (by kernel_rfl) (by kernel_rfl)
theorem full : ∀ t e, t < Tryz.prog.types.size → Tryz.prog.underlying t = some (.slice e) → 0 < Tryz.prog.cellsOf e := slices_full_of Tryz.prog (by kernel_rfl)
theorem inTable : ∀ t ∈ Tryz.f3.params.toList, t < Tryz.prog.types.size := by rw [Tryz.params3]; exact of_decide_eq_true (by kernel_rfl)

set_option maxRecDepth 100000 in
theorem lifted (os : Os) (started : os.Started) (H : Type) (enc : TypeId × Value → H) :
    ReturnsInHanded {} Tryz.checked os 3 .any (Rows.checkNilSpec.pre6 enc Tryz.prog Tryz.f3 Rows.checkNilRow.domain false) (Rows.checkNilSpec.post enc Tryz.prog Tryz.f3 false true false false) := by
  refine returnsInHanded_of_change_sized (C := Tryz.checked) own started (by kernel_rfl) Tryz.func3
    (ChangeSpec.witness6 (enc := enc) (C := Tryz.checked) false ⟨#[], #[.int .i64 0, .agg #[.int .i64 0, .slice none 0 0, .slice none 0 0], .int .i64 0], []⟩ 8 (by kernel_rfl) (by kernel_rfl) (by kernel_rfl) (by kernel_rfl)) ?_
  intro W base args ds gs before hval0 hW hcnd hsized _
  have hval : ∀ (j : Nat) t v, Tryz.f3.params[j]? = some t → args[j]? = some v → Value.okWide Tryz.prog W .any base t v := hval0
  have hW' := hW
  obtain ⟨p, q, hA0, hV, rfl, hfz, hnd⟩ := hW
  have hA : DataW.TrodAll enc Tryz.prog W 0 (fun _ => true) true Tryz.f3.params.toList args.toList ds p := hA0
  rw [Tryz.params3] at hA hval
  obtain ⟨v0, vs0, d0, ds0, p0, q0, hargs, rfl, rfl, h0, r0⟩ := trodAll_cons hA
  obtain ⟨v1, vs1, d1, ds1, p1, q1, rfl, rfl, rfl, h1, r1⟩ := trodAll_cons r0
  obtain ⟨v2, vs2, d2, ds2, p2, q2, rfl, rfl, rfl, h2, r2⟩ := trodAll_cons r1
  obtain ⟨rfl, rfl, rfl⟩ := trodAll_nil r2
  obtain rfl : args = #[v0, v1, v2] := by cases args; simp_all
  obtain ⟨rfl, rfl⟩ := trodVars_none hV
  obtain ⟨n, rfl, b0⟩ := open_i64 (hval 0 3 v0 rfl rfl) h0
  obtain ⟨s, vb, vd, rfl, b1, b2⟩ := open_sta (hval 1 25 v1 rfl rfl) h1 (SizedD.arg hsized (j := 1) rfl rfl)
  obtain ⟨k, rfl, b3⟩ := open_i64 (hval 2 3 v2 rfl rfl) h2
  clear hA0 hval0
  simp only [List.append_nil] at hW'
  refine (checkNil_walk (fun b => b < W.heap.size) n s vb vd k W b2 (fun _ h => h)).mono fun e W' ⟨he, hg⟩ => ?_
  subst he
  exact ⟨_, rfl, post_law kids full inTable (tb := 4) rfl Tryz.underlying4 hW' rfl rfl rfl rfl hg.below_non⟩

theorem over : Rows.checkNilRow.holds Tryz.pinned (OpenSpec.ofChange Rows.checkNilSpec) :=
  OpenClaim.holds_of_wide 3 Tryz.f3 rfl rfl rfl rfl rfl rfl rfl ⟨rfl, rfl, rfl, rfl, rfl⟩ rfl rfl rfl rfl rfl (by kernel_rfl) Tryz.func3 (by kernel_rfl)
    (of_decide_eq_true (by kernel_rfl)) (by unfold Func.isWrapper; first | (rw [if_pos (by decide +kernel)]; kernel_rfl) | (rw [if_neg (by decide +kernel)]; exact ⟨rfl, rfl⟩))
    (fun os started H enc _ => lifted os started H enc)

/-- the statement -/
theorem proved : Rows.CheckNilSaid :=
  over
#print axioms proved
end Go.Proofs.YtkgnlobabknkcaaGreat.checkNil
