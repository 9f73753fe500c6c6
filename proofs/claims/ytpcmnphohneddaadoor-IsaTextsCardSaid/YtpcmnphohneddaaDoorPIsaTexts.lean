/-
  The law IsaTexts: for every input the call returns true and its arguments read afterwards as before; the listed variables of the library as the program's text lays them (the given tie).
-/
import Derived.Test.YtpcmnphohneddaaDoorRows
import Derived.Test.YtpcmnphohneddaaDoorCards
import Derived.Test.YtpcmnphohneddaaDoorTie
import Derived.Test.YtpcmnphohneddaaDoorIsaTexts
import Derived.Test.YtpcmnphohneddaaDoorIsaOpenI
import Derived.Test.YtpcmnphohneddaaDoorIsaOpenS
import Derived.Test.YtpcmnphohneddaaDoorCard
import Derived.WalkKit
import Derived.ProofKit
import Derived.OpenShut
import Derived.LaidMore
import Derived.Lay
import Derived.SevenTiedAt
import Derived.Stop.Joined
namespace Go.Proofs.YtpcmnphohneddaaDoor.isaTexts
open Go.ChangeShapes Go.WideShapes Go.ChangeAt Go.RowKit
set_option linter.unusedVariables false

theorem own : ownKnob Tryd.prog.godebug = none := by kernel_rfl
theorem kids : Kids Tryd.prog (· < Tryd.prog.types.size) := kids_rows (by kernel_rfl) (by kernel_rfl)
theorem full : ∀ t e, t < Tryd.prog.types.size → Tryd.prog.underlying t = some (.slice e) → 0 < Tryd.prog.cellsOf e := slices_full_of Tryd.prog (by kernel_rfl)
theorem inTable : ∀ t ∈ Tryd.f4.params.toList, t < Tryd.prog.types.size := by rw [Tryd.params4]; exact of_decide_eq_true (by kernel_rfl)

set_option maxRecDepth 100000 in
theorem lifted (os : Os) (started : os.Started) (H : Type) (enc : TypeId × Value → H) :
    ReturnsInHanded {} Tryd.checked os 4 .any (fun w args => (Rows.isaTextsSpec.pre enc Tryd.prog Tryd.f4 Rows.isaTextsRow.domain false w args ∧ laidMetH Tryd.prog Rows.isaTextsRow.laid w) ∧ sizedMet enc Tryd.prog Tryd.f4 (OpenSpec.ofChange Rows.isaTextsSpec) false w args)
      (Rows.isaTextsSpec.post enc Tryd.prog Tryd.f4 false true false false) := by
  refine returnsIn_card (C := Tryd.checked) (X := fun w _ => laidMetH Tryd.prog Rows.isaTextsRow.laid w) (fun _ _ _ hh h => h.of_heap hh) own started (by kernel_rfl) Tryd.func4
    (ChangeSpec.witness_shaped (enc := enc) (C := Tryd.checked) (os := os) (X := fun w _ => laidMetH Tryd.prog Rows.isaTextsRow.laid w) false (World.laidAll Tryd.prog os Rows.isaTextsRow.laid) #[.agg #[.int .u8 0, .int .u8 0, .int .u8 0, .int .u8 0, .int .i64 0], .string ⟨#[]⟩, .bool false] 8 (World.laidAll_os _ _ _)
      (World.shaped_of_ZipB (by kernel_rfl) (by kernel_rfl)) (by kernel_rfl) (by kernel_rfl) (by kernel_rfl)
      (by rw [MakeChecks.laidMetH_plain _ _ _ (by kernel_rfl)]; exact laidMet_laidAll _ (by kernel_rfl) (by kernel_rfl))) ?_
  intro W base args ds gs before hval0 hW hsh hL
  rw [MakeChecks.laidMetH_plain _ _ _ (by kernel_rfl)] at hL
  have hEnv : Env W := env_of (d := []) hsh hL.tail.tail
  have hval : ∀ (j : Nat) t v, Tryd.f4.params[j]? = some t → args[j]? = some v → Value.okWide Tryd.prog W .any base t v := hval0
  have hW' := hW
  obtain ⟨p, q, hA0, hV, rfl, hfz, hnd⟩ := hW
  have hA : DataW.TrodAll enc Tryd.prog W 0 (fun _ => true) true Tryd.f4.params.toList args.toList ds p := hA0
  rw [Tryd.params4] at hA hval
  obtain ⟨v0, vs0, d0, ds0, p0, q0, hargs, rfl, rfl, h0, r0⟩ := trodAll_cons hA
  obtain ⟨v1, vs1, d1, ds1, p1, q1, rfl, rfl, rfl, h1, r1⟩ := trodAll_cons r0
  obtain ⟨v2, vs2, d2, ds2, p2, q2, rfl, rfl, rfl, h2, r2⟩ := trodAll_cons r1
  obtain ⟨rfl, rfl, rfl⟩ := trodAll_nil r2
  obtain rfl : args = #[v0, v1, v2] := by cases args; simp_all
  obtain ⟨rfl, rfl⟩ := trodVars_none hV
  obtain ⟨op, a, b, c, n, rfl, b0⟩ := open_ins (hval 0 23 v0 rfl rfl) h0
  obtain ⟨l, rfl, b1⟩ := open_str (hval 1 9 v1 rfl rfl) h1
  obtain ⟨q, rfl⟩ := open_tf (hval 2 4 v2 rfl rfl) h2
  clear hA0 hval0
  simp only [List.append_nil] at hW'
  refine (IsaTexts_ok op a b c n l q W hEnv b0).mono fun e W' ⟨he, hg⟩ => ?_
  subst he
  exact ⟨_, rfl, post_law kids full inTable (tb := 4) rfl Tryd.underlying4 hW' rfl rfl rfl rfl hg.below_non⟩

theorem over : Rows.isaTextsRow.holds Tryd.pinned (OpenSpec.ofChange Rows.isaTextsSpec) :=
  OpenClaim.holds_of_wide 4 Tryd.f4 rfl rfl rfl rfl rfl rfl rfl ⟨rfl, rfl, rfl, rfl, rfl⟩ rfl rfl rfl rfl rfl (by kernel_rfl) Tryd.func4 (by kernel_rfl)
    (of_decide_eq_true (by kernel_rfl)) (by unfold Func.isWrapper; first | (rw [if_pos (by decide +kernel)]; kernel_rfl) | (rw [if_neg (by decide +kernel)]; exact ⟨rfl, rfl⟩))
    (fun os started H enc _ => lifted os started H enc)

theorem noStandIn : ∀ (j : Nat) t, Tryd.f4.params[j]? = some t → Tryd.prog.wantsStandIn t = false := by
  have hall : (Tryd.f4.params.toList.all fun u => !Tryd.prog.wantsStandIn u) = true := by kernel_rfl
  intro j t ht
  have hm : t ∈ Tryd.f4.params.toList := Array.mem_toList_iff.2 (Array.mem_of_getElem? ht)
  simpa using List.all_eq_true.1 hall t hm

/-- the statement -/
theorem proved : Rows.IsaTextsCardSaid :=
  Claim7.holds_tied_plain_at .later [] [.data, .data, .data, .data, .sentinel, .sentinel, .pinned] true (true, "f45ebdd10fa854a965ca2f907023215fbc3aa4c3da1542d21b7cb3c60278d5e6") true over (fun _ h => by cases h) (by kernel_rfl) (fun _ h => by cases h) isaTexts_row_tie rfl ⟨rfl, rfl⟩ (by kernel_rfl) rfl
    (fun f fn hf hfn => by
      obtain rfl : f = 4 := Option.some.inj ((show Tryd.prog.funcNamed "citadel/citadellaw19.IsaTexts" = some 4 by kernel_rfl).symm.trans hf) |>.symm
      obtain rfl : fn = Tryd.f4 := (Option.some.inj (Tryd.func4.symm.trans hfn)).symm
      exact ⟨by kernel_rfl, noStandIn⟩)
    (by kernel_rfl)
#print axioms proved
end Go.Proofs.YtpcmnphohneddaaDoor.isaTexts
