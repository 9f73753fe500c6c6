/- Walks of package attempt on a disk: Next. -/
import Derived.Test.YthhbdejagglgbaaAtt2
namespace Go.Proofs.Ythhbdejagglgbaa
open Go.RowKit
set_option linter.unusedVariables false

theorem attRec_nonneg (s : List UInt8) : 0 ≤ (attRec s).1 ∧ 0 ≤ (attRec s).2 := by
  unfold attRec
  split
  · simp
  · simp only
    split
    · rename_i h
      exact ⟨by omega, by omega⟩
    · simp
theorem attN_nonneg (D : Dk) (q : Int) : 0 ≤ attN D q := by
  unfold attN
  split
  · exact (attRec_nonneg _).2
  · simp

/-- Next: what it makes of a disk of three sectors or more that is up -/
def attNext (D : Dk) (seqn : Int) : Dk × Int × Int :=
  if seqn < 1 then (D, 0, 2)
  else
    let r := attPut D seqn (min (attN D seqn + 1) 1099511627776)
    if r.2 ≠ 0 then (r.1, 0, r.2) else (r.1, min (attN D seqn + 1) 1099511627776, 0)

set_option maxRecDepth 100000 in
set_option maxHeartbeats 2000000 in
theorem Next_up (pd ps pm : Nat) (D : Dk) (seqn : Int) (w : World) (h : IsD w pd ps pm D) (hup : D.up = true) (hsz : D.Sz) (hlen : 2 < D.sec.length) (hbd : attN D seqn ≤ 1099511627776) :
    Calls Try.prog 8 #[.pointer (some ⟨pd, 0, none⟩), .int .i64 seqn] w fun e w' => e = .returned (.tuple #[.int .i64 (attNext D seqn).2.1, .int .i64 (attNext D seqn).2.2]) ∧ IsD w' pd ps pm (attNext D seqn).1 ∧ Chg (DS pd ps pm) w w' := by
  have HL := Lib.hid (Len_ok pd ps pm D w h)
  have HG := Lib.hid (Get_up pd ps pm D seqn w h hup hlen)
  have hnn := attN_nonneg D seqn
  have hlz : decide (0 < (D.sec.length : Int)) = true := by simp; omega
  unfold attNext
  by_cases hs : seqn < 1
  · rw [if_pos hs]
    have HD := Lib.hid h
    clear h hup
    go_enter Try.func8, Try.ntmps8
    go_wp2_with fail
    refine HL.out.mono ?_
    rintro e w' ⟨rfl, rfl⟩
    go_wp2
    go_ret2
    exact ⟨rfl, HD.out, Chg.refl _ _⟩
  · rw [if_neg hs]
    have hsd : decide (seqn < 1) = false := by simpa using hs
    have HP := Lib.hid (fun n W h => Put_any pd ps pm D seqn n W h hsz (by omega))
    have HD := Lib.hid h
    clear h hup
    obtain ⟨n, hn⟩ : ∃ n, attN D seqn = n := ⟨_, rfl⟩
    rw [hn] at HG hnn hbd ⊢
    clear hn
    obtain ⟨m, hm⟩ : ∃ m, min (n + 1) 1099511627776 = m := ⟨_, rfl⟩
    rw [hm]
    have HM := Lib.hid hm
    clear hm
    obtain ⟨⟨D2, er⟩, hq⟩ : ∃ q, attPut D seqn m = q := ⟨_, rfl⟩
    have HQ := Lib.hid hq
    rw [hq]
    simp only
    clear hq
    by_cases her : er = 0
    · subst her
      simp only [ne_eq, not_true_eq_false, if_false]
      go_enter Try.func8, Try.ntmps8
      go_wp2_with fail
      refine HL.out.mono ?_
      rintro e w' ⟨rfl, rfl⟩
      go_wp2_with fail
      refine HG.out.mono ?_
      rintro e w1 ⟨rfl, hg1⟩
      go_wp2_with fail
      rw [HM.out]
      refine (HP.out m w1 (HD.out.non hg1)).mono ?_
      rw [HQ.out]
      rintro e w2 ⟨rfl, h2, hg2⟩
      go_wp2
      go_ret2
      exact ⟨rfl, h2, hg1.non_then hg2⟩
    · have hne : (er != 0) = true := by simpa using her
      simp only [her, ne_eq, not_false_eq_true, if_true]
      clear her
      go_enter Try.func8, Try.ntmps8
      go_wp2_with fail
      refine HL.out.mono ?_
      rintro e w' ⟨rfl, rfl⟩
      go_wp2_with fail
      refine HG.out.mono ?_
      rintro e w1 ⟨rfl, hg1⟩
      go_wp2_with fail
      rw [HM.out]
      refine (HP.out m w1 (HD.out.non hg1)).mono ?_
      rw [HQ.out]
      rintro e w2 ⟨rfl, h2, hg2⟩
      go_wp2
      go_ret2
      exact ⟨rfl, h2, hg1.non_then hg2⟩
end Go.Proofs.Ythhbdejagglgbaa
