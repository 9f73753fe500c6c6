/-
  The law KernelOwn: for every input the call returns true and its arguments read afterwards as before; the listed variables of the library as the program's text lays them (the given tie).
-/
import Derived.Test.YtmnaleaghfbclaaGreatDoorRows
import Derived.Test.YtmnaleaghfbclaaGreatDoorCards
import Derived.Test.YtmnaleaghfbclaaGreatDoorTie
import Derived.Test.YtmnaleaghfbclaaGreatDoorMgKernelOwnA
import Derived.Test.YtmnaleaghfbclaaGreatDoorMgKernelOwnB
import Derived.Test.YtmnaleaghfbclaaGreatDoorMgKernelOwnC
import Derived.Test.YtmnaleaghfbclaaGreatDoorMgKernelOwnD
import Derived.WalkKit
import Derived.ProofKit
import Derived.OpenShut
import Derived.LaidMore
import Derived.Lay
import Derived.SevenTiedAt
import Derived.Stop.Joined
namespace Go.Proofs.YtmnaleaghfbclaaGreatDoor.kernelOwn
open Go.ChangeShapes Go.WideShapes Go.ChangeAt Go.RowKit
set_option linter.unusedVariables false

theorem own : ownKnob Tryz.prog.godebug = none := by kernel_rfl
theorem kids : Kids Tryz.prog (· < Tryz.prog.types.size) := kids_rows (by kernel_rfl) (by kernel_rfl)
theorem full : ∀ t e, t < Tryz.prog.types.size → Tryz.prog.underlying t = some (.slice e) → 0 < Tryz.prog.cellsOf e := slices_full_of Tryz.prog (by kernel_rfl)
theorem inTable : ∀ t ∈ Tryz.f6.params.toList, t < Tryz.prog.types.size := by rw [Tryz.params6]; exact of_decide_eq_true (by kernel_rfl)
theorem SizedD.arg {H : Type} {P : Program} {ts : List TypeId} {ds : List (DataW H)} (h : (DataW.weightsEach P ts ds).all (· ≤ reachBytes) = true) {j : Nat} {t : TypeId} {d : DataW H} (ht : ts[j]? = some t) (hd : ds[j]? = some d) : SizedD P t d := fun n hn => by
  have := List.all_eq_true.1 h _ (DataW.weights_mem_each ht hd n hn)
  simpa using this
set_option maxRecDepth 100000 in
theorem lifted (os : Os) (started : os.Started) (H : Type) (enc : TypeId × Value → H) :
    ReturnsInHanded {} Tryz.checked os 6 .any (fun w args => (Rows.kernelOwnSpec.pre enc Tryz.prog Tryz.f6 Rows.kernelOwnRow.domain false w args ∧ laidMetH Tryz.prog Rows.kernelOwnRow.laid w) ∧ sizedMet enc Tryz.prog Tryz.f6 (OpenSpec.ofChange Rows.kernelOwnSpec) false w args)
      (Rows.kernelOwnSpec.post enc Tryz.prog Tryz.f6 false true false false) := by
  refine returnsIn_cardS (C := Tryz.checked) (X := fun w _ => laidMetH Tryz.prog Rows.kernelOwnRow.laid w) (fun _ _ _ hh h => h.of_heap hh) own started (by kernel_rfl) Tryz.func6
    (ChangeSpec.witness_shaped (enc := enc) (C := Tryz.checked) (os := os) (X := fun w _ => laidMetH Tryz.prog Rows.kernelOwnRow.laid w) false (World.laidAll Tryz.prog os Rows.kernelOwnRow.laid) #[.agg #[.slice none 0 0, .slice none 0 0, .slice none 0 0], .slice none 0 0, .int .i64 0] 8 (World.laidAll_os _ _ _)
      (World.shaped_of_ZipB (by kernel_rfl) (by kernel_rfl)) (by kernel_rfl) (by kernel_rfl) (by kernel_rfl)
      (by rw [MakeChecks.laidMetH_plain _ _ _ (by kernel_rfl)]; exact laidMet_laidAll _ (by kernel_rfl) (by kernel_rfl))) ?_
  intro W base args ds gs before hval0 hW hsh hL hsized
  rw [MakeChecks.laidMetH_plain _ _ _ (by kernel_rfl)] at hL
  have hEnv : Env W := env_of (d := []) hsh hL.tail.tail
  have hval : ∀ (j : Nat) t v, Tryz.f6.params[j]? = some t → args[j]? = some v → Value.okWide Tryz.prog W .any base t v := hval0
  have hW' := hW
  obtain ⟨p, q, hA0, hV, rfl, hfz, hnd⟩ := hW
  have hA : DataW.TrodAll enc Tryz.prog W 0 (fun _ => true) true Tryz.f6.params.toList args.toList ds p := hA0
  rw [Tryz.params6] at hA hval
  obtain ⟨v0, vs0, d0, ds0, p0, q0, hargs, rfl, rfl, h0, r0⟩ := trodAll_cons hA
  obtain ⟨v1, vs1, d1, ds1, p1, q1, rfl, rfl, rfl, h1, r1⟩ := trodAll_cons r0
  obtain ⟨v2, vs2, d2, ds2, p2, q2, rfl, rfl, rfl, h2, r2⟩ := trodAll_cons r1
  obtain ⟨rfl, rfl, rfl⟩ := trodAll_nil r2
  obtain rfl : args = #[v0, v1, v2] := by cases args; simp_all
  obtain ⟨rfl, rfl⟩ := trodVars_none hV
  obtain ⟨c, A1, A2, A3, c1, c2, c3, rfl, b0⟩ := open_cfg (hval 0 26 v0 rfl rfl) h0 (SizedD.arg hsized (j := 0) rfl rfl)
  obtain ⟨B, l, cl, rfl, b1, b2, b3⟩ := open_actk (hval 1 31 v1 rfl rfl) h1 (SizedD.arg hsized (j := 1) rfl rfl)
  obtain ⟨ver, rfl, b8⟩ := open_i64 (hval 2 3 v2 rfl rfl) h2
  clear hA0 hval0
  simp only [List.append_nil] at hW'
  refine (KernelOwn_ok (fun _ => True) W hEnv c A1 A2 A3 c1 c2 c3 b0 l B cl b1 b2 b3 ver b8).mono fun e W' ⟨he, hg⟩ => ?_
  subst he
  exact ⟨_, rfl, post_law kids full inTable (tb := 4) rfl Tryz.underlying4 hW' rfl rfl rfl rfl hg.below_non⟩

theorem over : Rows.kernelOwnRow.holds Tryz.pinned (OpenSpec.ofChange Rows.kernelOwnSpec) :=
  OpenClaim.holds_of_wide 6 Tryz.f6 rfl rfl rfl rfl rfl rfl rfl ⟨rfl, rfl, rfl, rfl, rfl⟩ rfl rfl rfl rfl rfl (by kernel_rfl) Tryz.func6 (by kernel_rfl)
    (of_decide_eq_true (by kernel_rfl)) (by unfold Func.isWrapper; first | (rw [if_pos (by decide +kernel)]; kernel_rfl) | (rw [if_neg (by decide +kernel)]; exact ⟨rfl, rfl⟩))
    (fun os started H enc _ => lifted os started H enc)

theorem noStandIn : ∀ (j : Nat) t, Tryz.f6.params[j]? = some t → Tryz.prog.wantsStandIn t = false := by
  have hall : (Tryz.f6.params.toList.all fun u => !Tryz.prog.wantsStandIn u) = true := by kernel_rfl
  intro j t ht
  have hm : t ∈ Tryz.f6.params.toList := Array.mem_toList_iff.2 (Array.mem_of_getElem? ht)
  simpa using List.all_eq_true.1 hall t hm

/-- the statement -/
theorem proved : Rows.KernelOwnCardSaid :=
  Claim7.holds_tied_plain_at .later [] [.data, .data, .data, .data, .sentinel, .sentinel, .pinned] true (true, "468e141a10978b74fdfe847010f0e967f4811df7a492f1332eae271c01dbae81") true over (fun _ h => by cases h) (by kernel_rfl) (fun _ h => by cases h) kernelOwn_row_tie rfl ⟨rfl, rfl⟩ (by kernel_rfl) rfl
    (fun f fn hf hfn => by
      obtain rfl : f = 6 := Option.some.inj ((show Tryz.prog.funcNamed "citadel/citadellaw23.KernelOwn" = some 6 by kernel_rfl).symm.trans hf) |>.symm
      obtain rfl : fn = Tryz.f6 := (Option.some.inj (Tryz.func6.symm.trans hfn)).symm
      exact ⟨by kernel_rfl, noStandIn⟩)
    (by kernel_rfl)
#print axioms proved
end Go.Proofs.YtmnaleaghfbclaaGreatDoor.kernelOwn
