/- Walks of package attempt on a disk: Get, Put, Next. -/
import Derived.Test.YthhbdejagglgbaaAtt
namespace Go.Proofs.Ythhbdejagglgbaa
open Go.RowKit
set_option linter.unusedVariables false

theorem at_len {D : Dk} (h : D.Ok) (i : Nat) (hi : i < D.sec.length) : (D.at_ i).length = 64 := by
  unfold Dk.at_
  cases hl : look D.cache i with
  | some l =>
    unfold look at hl
    obtain ⟨p, hp, rfl⟩ := Option.map_eq_some_iff.1 hl
    exact (h.keys p (List.mem_of_find?_eq_some hp)).2
  | none =>
    simp only [Option.getD_none, List.getD, List.getElem?_eq_getElem hi, Option.getD_some]
    exact h.secs _ (List.getElem_mem hi)

/-- the attempts of a number -/
def attN (D : Dk) (seqn : Int) : Int := if attRec (D.at_ 2) ≠ (0, 0) ∧ (attRec (D.at_ 2)).1 = seqn then (attRec (D.at_ 2)).2 else 0

set_option maxRecDepth 100000 in
set_option maxHeartbeats 2000000 in
theorem Get_up (pd ps pm : Nat) (D : Dk) (seqn : Int) (w : World) (h : IsD w pd ps pm D) (hup : D.up = true) (hlen : 2 < D.sec.length) :
    Calls Try.prog 7 #[.pointer (some ⟨pd, 0, none⟩), .int .i64 seqn] w fun e w' => e = .returned (.tuple #[.int .i64 (attN D seqn), .int .i64 0]) ∧ Chg Non w w' := by
  have HR := Lib.hid (Read_any pd ps pm D 2 w h hup hlen)
  have hal := at_len h.1 2 hlen
  have hA := fun A c W (h1 : Rd W A (D.at_ 2)) (h2 : (D.at_ 2).length ≤ c) (h3 : c ≤ maxLen) => attRead_any A (D.at_ 2) c W h1 (by omega) (by omega) h2 h3
  unfold attN
  obtain ⟨s, hs⟩ : ∃ s, D.at_ 2 = s := ⟨_, rfl⟩
  rw [hs] at HR hA ⊢
  obtain ⟨⟨a, b⟩, hq⟩ : ∃ q, attRec s = q := ⟨_, rfl⟩
  rw [hq] at hA ⊢
  simp only at hA ⊢
  have HA := Lib.hid hA
  clear hA hq hs hal h hup hlen
  by_cases hz : a = 0 ∧ b = 0
  · obtain ⟨rfl, rfl⟩ := hz
    simp only [ne_eq, not_true_eq_false, false_and, if_false]
    go_enter Try.func7, Try.ntmps7
    go_wp2_with fail
    refine HR.out.mono ?_
    rintro e w1 ⟨A, c, rfl, hc, hm, ho, hg1⟩
    go_wp2_with fail
    refine (HA.out A c w1 ho.rd hc hm).mono ?_
    rintro e w2 ⟨rfl, hg2⟩
    go_wp2
    go_ret2
    exact ⟨rfl, (hg1.then_non hg2).alloc _⟩
  · have hne : (a, b) ≠ (0, 0) := by
      intro e
      injection e with e1 e2
      exact hz ⟨e1, e2⟩
    have hzb : (a == 0 && b == 0) = false := by
      rw [Bool.and_eq_false_iff]
      by_cases ha : a = 0
      · right; rw [beq_eq_false_iff_ne]; exact fun e => hz ⟨ha, e⟩
      · left; rw [beq_eq_false_iff_ne]; exact ha
    simp only [hne, ne_eq, not_false_eq_true, true_and]
    by_cases hs : a = seqn
    · subst hs
      simp only [if_true]
      by_cases ha : a = 0
      · subst ha
        have hb0 : (b == 0) = false := by rw [beq_eq_false_iff_ne]; exact fun e => hz ⟨rfl, e⟩
        clear hz hne hzb
        go_enter Try.func7, Try.ntmps7
        go_wp2_with fail
        refine HR.out.mono ?_
        rintro e w1 ⟨A, c, rfl, hc, hm, ho, hg1⟩
        go_wp2_with fail
        refine (HA.out A c w1 ho.rd hc hm).mono ?_
        rintro e w2 ⟨rfl, hg2⟩
        go_wp2
        go_ret2
        exact ⟨rfl, (hg1.then_non hg2).alloc _⟩
      · have ha0 : (a == 0) = false := by rw [beq_eq_false_iff_ne]; exact ha
        clear hz hne hzb ha
        go_enter Try.func7, Try.ntmps7
        go_wp2_with fail
        refine HR.out.mono ?_
        rintro e w1 ⟨A, c, rfl, hc, hm, ho, hg1⟩
        go_wp2_with fail
        refine (HA.out A c w1 ho.rd hc hm).mono ?_
        rintro e w2 ⟨rfl, hg2⟩
        go_wp2
        go_ret2
        exact ⟨rfl, (hg1.then_non hg2).alloc _⟩
    · simp only [hs, if_false]
      have hsb : (a == seqn) = false := by rw [beq_eq_false_iff_ne]; exact hs
      by_cases ha : a = 0
      · subst ha
        have hb0 : (b == 0) = false := by rw [beq_eq_false_iff_ne]; exact fun e => hz ⟨rfl, e⟩
        clear hz hne hzb hs
        go_enter Try.func7, Try.ntmps7
        go_wp2_with fail
        refine HR.out.mono ?_
        rintro e w1 ⟨A, c, rfl, hc, hm, ho, hg1⟩
        go_wp2_with fail
        refine (HA.out A c w1 ho.rd hc hm).mono ?_
        rintro e w2 ⟨rfl, hg2⟩
        go_wp2
        go_ret2
        exact ⟨rfl, (hg1.then_non hg2).alloc _⟩
      · have ha0 : (a == 0) = false := by rw [beq_eq_false_iff_ne]; exact ha
        clear hz hne hzb ha hs
        go_enter Try.func7, Try.ntmps7
        go_wp2_with fail
        refine HR.out.mono ?_
        rintro e w1 ⟨A, c, rfl, hc, hm, ho, hg1⟩
        go_wp2_with fail
        refine (HA.out A c w1 ho.rd hc hm).mono ?_
        rintro e w2 ⟨rfl, hg2⟩
        go_wp2
        go_ret2
        exact ⟨rfl, (hg1.then_non hg2).alloc _⟩

/-- Put: what it makes of a disk of three sectors or more -/
def attPut (D : Dk) (seqn n : Int) : Dk × Int :=
  if min seqn n < 1 then (D, 2)
  else
    let r := D.write 2 (sealL 2 (form2 seqn n))
    if r.2 ≠ 0 then r else r.1.flush

theorem write_sz {D : Dk} (h : D.Sz) (i : Int) (b : List UInt8) : (D.write i b).1.Sz := by
  unfold Dk.write Dk.operate Dk.fall Dk.spill
  repeat' split
  all_goals first
    | exact h
    | exact ⟨h.stay, by have := h.left; show max (D.left - 1) 0 ≤ _; omega⟩
    | exact ⟨by simp, by simp⟩

set_option maxRecDepth 100000 in
set_option maxHeartbeats 2000000 in
theorem Put_any (pd ps pm : Nat) (D : Dk) (seqn n : Int) (w : World) (h : IsD w pd ps pm D) (hsz : D.Sz) (hlen : 0 < D.sec.length) :
    Calls Try.prog 9 #[.pointer (some ⟨pd, 0, none⟩), .int .i64 seqn, .int .i64 n] w fun e w' => e = .returned (.int .i64 (attPut D seqn n).2) ∧ IsD w' pd ps pm (attPut D seqn n).1 ∧ Chg (DS pd ps pm) w w' := by
  have HL := Lib.hid (Len_ok pd ps pm D w h)
  have hlt := h.lt
  have hlz : ((D.sec.length : Int) == 0) = false := beq_eq_false_iff_ne.2 (by omega)
  unfold attPut
  by_cases hmin : min seqn n < 1
  · rw [if_pos hmin]
    have HD := Lib.hid h
    clear h
    have hd : decide (min seqn n < 1) = true := by simpa using hmin
    go_enter Try.func9, Try.ntmps9
    go_wp2_with fail
    refine HL.out.mono ?_
    rintro e w' ⟨rfl, rfl⟩
    go_wp2
    go_ret
    exact ⟨rfl, HD.out, Chg.refl _ _⟩
  · rw [if_neg hmin]
    have hd : decide (min seqn n < 1) = false := by simpa using hmin
    have HF := Lib.hid (fun W g h0 h1 => form_any seqn n g W h0 h1)
    have hfl := form2_len seqn n
    have HS := Lib.hid (fun A c W h => Seal_any 2 A (form2 seqn n) c W h (by omega))
    have HW := Lib.hid (fun B c W h hr hB => Write_any pd ps pm D 2 B (sealL 2 (form2 seqn n)) c W h hsz hr hB)
    have hsz2 := write_sz hsz 2 (sealL 2 (form2 seqn n))
    have HFl := Lib.hid (fun W h => Flush_any pd ps pm (D.write 2 (sealL 2 (form2 seqn n))).1 W h hsz2)
    have HD := Lib.hid h
    clear h hfl hmin hsz2
    obtain ⟨f, hf⟩ : ∃ f, form2 seqn n = f := ⟨_, rfl⟩
    rw [hf] at HF HS HW HFl ⊢
    clear hf
    obtain ⟨sl, hsl⟩ : ∃ sl, sealL 2 f = sl := ⟨_, rfl⟩
    rw [hsl] at HS HW HFl ⊢
    clear hsl
    obtain ⟨⟨D2, er⟩, hq⟩ : ∃ q, D.write 2 sl = q := ⟨_, rfl⟩
    rw [hq] at HW HFl ⊢
    simp only at HW HFl ⊢
    clear hq
    by_cases her : er = 0
    · subst her
      simp only [ne_eq, not_true_eq_false, if_false]
      go_enter Try.func9, Try.ntmps9
      go_wp2_with fail
      refine HL.out.mono ?_
      rintro e w' ⟨rfl, rfl⟩
      go_wp2_with fail
      refine (HF.out _ _ (by go_simp) (by go_simp)).mono ?_
      rintro e w1 ⟨A1, c1, rfl, hc1, hm1, ho1, hg1⟩
      go_wp2_with fail
      refine (HS.out _ _ _ ho1.rd).mono ?_
      rintro e w2 ⟨A2, c2, rfl, hc2, hm2, ho2, hg2⟩
      have hgw : Chg Non w w2 := (((Chg.refl _ _).alloc _).then_non hg1).then_non hg2
      go_wp2_with fail
      refine (HW.out _ _ _ (HD.out.non hgw) ho2.rd (fun b o e hne => by subst e; have := ho2.ge hne; have := hg1.size; simp at this; omega)).mono ?_
      rintro e w3 ⟨rfl, h3, hg3⟩
      have H3 := Lib.hid h3
      clear h3
      go_wp2_with fail
      refine (HFl.out _ H3.out).mono ?_
      rintro e w4 ⟨rfl, h4, hg4⟩
      go_wp2
      go_ret
      exact ⟨rfl, h4, (hgw.non_then hg3).trans_same hg4⟩
    · have hne : (er != 0) = true := by simpa using her
      simp only [her, ne_eq, not_false_eq_true, if_true]
      clear her
      go_enter Try.func9, Try.ntmps9
      go_wp2_with fail
      refine HL.out.mono ?_
      rintro e w' ⟨rfl, rfl⟩
      go_wp2_with fail
      refine (HF.out _ _ (by go_simp) (by go_simp)).mono ?_
      rintro e w1 ⟨A1, c1, rfl, hc1, hm1, ho1, hg1⟩
      go_wp2_with fail
      refine (HS.out _ _ _ ho1.rd).mono ?_
      rintro e w2 ⟨A2, c2, rfl, hc2, hm2, ho2, hg2⟩
      have hgw : Chg Non w w2 := (((Chg.refl _ _).alloc _).then_non hg1).then_non hg2
      go_wp2_with fail
      refine (HW.out _ _ _ (HD.out.non hgw) ho2.rd (fun b o e hne => by subst e; have := ho2.ge hne; have := hg1.size; simp at this; omega)).mono ?_
      rintro e w3 ⟨rfl, h3, hg3⟩
      have H3 := Lib.hid h3
      clear h3
      go_wp2
      go_ret
      exact ⟨rfl, H3.out, hgw.non_then hg3⟩
end Go.Proofs.Ythhbdejagglgbaa
