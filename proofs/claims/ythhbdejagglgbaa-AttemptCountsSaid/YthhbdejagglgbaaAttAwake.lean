/- The chapter's examples (awake) come to true. -/
import Derived.Test.YthhbdejagglgbaaAttK
namespace Go.Proofs.Ythhbdejagglgbaa
open Go.RowKit
set_option linter.unusedVariables false

set_option maxRecDepth 100000 in
set_option maxHeartbeats 2000000 in
theorem awake_ok (w : World) : Calls Try.prog 10 #[] w fun e w' => e = .returned (.bool true) ∧ Chg Non w w' := by
  go_enter Try.func10, Try.ntmps10
  go_wp2_with fail
  refine (kept_new w _ (Chg.refl _ _)).mono ?_
  rintro e w1 ⟨pd, ps, pm, rfl, h1⟩
  have H1 := Lib.hid h1; clear h1
  go_wp2_with fail
  refine (kept_get H1.out 4).mono ?_
  rintro e w2 ⟨rfl, h2⟩
  have H2 := Lib.hid h2; clear h2
  go_wp2_with fail
  refine (kept_next H2.out 4 (by decide) (by decide) (by decide) (by decide)).mono ?_
  rintro e w3 ⟨rfl, h3⟩
  have H3 := Lib.hid h3; clear h3
  go_wp2_with fail
  refine (kept_next H3.out 4 (by decide) (by decide) (by decide) (by decide)).mono ?_
  rintro e w4 ⟨rfl, h4⟩
  have H4 := Lib.hid h4; clear h4
  go_wp2_with fail
  refine (kept_get H4.out 4).mono ?_
  rintro e w5 ⟨rfl, h5⟩
  have H5 := Lib.hid h5; clear h5
  go_wp2_with fail
  refine (kept_get H5.out 5).mono ?_
  rintro e w6 ⟨rfl, h6⟩
  have H6 := Lib.hid h6; clear h6
  go_wp2_with fail
  refine (kept_next H6.out 5 (by decide) (by decide) (by decide) (by decide)).mono ?_
  rintro e w7 ⟨rfl, h7⟩
  have H7 := Lib.hid h7; clear h7
  go_wp2_with fail
  refine (kept_get H7.out 4).mono ?_
  rintro e w8 ⟨rfl, h8⟩
  have H8 := Lib.hid h8; clear h8
  go_wp2_with fail
  refine (kept_next_arg H8.out 0 (by decide) (by decide)).mono ?_
  rintro e w9 ⟨rfl, h9⟩
  have H9 := Lib.hid h9; clear h9
  go_wp2_with fail
  refine (kept_put_arg H9.out 5 0 (by decide)).mono ?_
  rintro e w10 ⟨rfl, h10⟩
  have H10 := Lib.hid h10.chg; clear h10
  go_wp2
  go_ret
  exact ⟨rfl, H10.out⟩
end Go.Proofs.Ythhbdejagglgbaa
