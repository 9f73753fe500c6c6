/- What a crash in a Next leaves. No walk. -/
import Derived.Test.YthhbdejagglgbaaAttK
namespace Go.Proofs.Ythhbdejagglgbaa
open Go.RowKit
set_option linter.unusedVariables false

theorem attN_sec {D : Dk} (hc : D.cache = []) (q : Int) : attN D q = recN (D.sec.getD 2 []) q := by
  unfold attN recN
  rw [at_calm hc]

/-- Put on a disk with an empty cache that is armed -/
theorem put_armed (sec : List (List UInt8)) (at_ : Int) (l : List UInt8) (hlen : sec.length = 3) (a b : Int) (ha : 1 ≤ a) (hb : 1 ≤ b) (hat : 1 ≤ at_) :
    attPut ⟨true, sec, [], at_, l⟩ a b =
      if at_ = 1 then (⟨false, sec, [], 0, []⟩, 60)
      else if at_ = 2 then (⟨false, if Dk.bit l 0 then sec.set 2 (sealL 2 (form2 a b)) else sec, [], 0, []⟩, 60)
      else (⟨true, sec.set 2 (sealL 2 (form2 a b)), [], at_ - 2, l⟩, 0) := by
  have hs := sealL_len 2 (form2 a b) (by rw [form2_len]; omega)
  have hd : dirty [(2, sealL 2 (form2 a b))] = [2] := by simp [dirty]
  unfold attPut
  rw [if_neg (by omega)]
  by_cases h1 : at_ = 1
  · subst h1
    simp [Dk.write, Dk.operate, Dk.fall, Dk.spill, Dk.spillTo, hlen, hs]
  · rw [if_neg h1]
    have hw : Dk.write ⟨true, sec, [], at_, l⟩ 2 (sealL 2 (form2 a b)) = (⟨true, sec, [(2, sealL 2 (form2 a b))], at_ - 1, l⟩, 0) := by
      unfold Dk.write Dk.operate
      simp only [Bool.true_eq_false, if_false]
      rw [if_neg (by omega), if_neg (by omega)]
      simp [upd, h1]
      omega
    rw [hw]
    by_cases h2 : at_ = 2
    · subst h2
      simp [Dk.flush, Dk.operate, Dk.fall, Dk.spill, Dk.spillTo, hd, look]
    · rw [if_neg h2]
      simp only [ne_eq, not_true_eq_false, if_false]
      unfold Dk.flush Dk.operate
      simp only [Bool.true_eq_false, if_false]
      rw [if_neg (by omega)]
      simp [Dk.spill, Dk.spillTo, hd, look]
      omega

theorem next_armed {D : Dk} {s : List UInt8} (h : Calm D s) (q at_ : Int) (l : List UInt8) (hq : 1 ≤ q) (hq2 : q ≤ 9223372036854775807) (hn : 0 ≤ recN s q) (hn2 : recN s q ≤ 1000) (hat : 1 ≤ at_) :
    (2 < at_ → (attNext { D with left := at_, stay := l } q).2 = (recN s q + 1, 0) ∧ (attNext { D with left := at_, stay := l } q).1.up = true ∧ (attNext { D with left := at_, stay := l } q).1.sec.length = 3 ∧ attN (attNext { D with left := at_, stay := l } q).1 q = recN s q + 1) ∧
    (at_ ≤ 2 → (attNext { D with left := at_, stay := l } q).2 = (0, 60) ∧ (attNext { D with left := at_, stay := l } q).1.up = false ∧ (attNext { D with left := at_, stay := l } q).1.sec.length = 3 ∧
      (attNext { D with left := at_, stay := l } q).1.cache = [] ∧ (recN ((attNext { D with left := at_, stay := l } q).1.sec.getD 2 []) q = recN s q ∨ recN ((attNext { D with left := at_, stay := l } q).1.sec.getD 2 []) q = recN s q + 1)) := by
  have hs := sealL_len 2 (form2 q (recN s q + 1)) (by rw [form2_len]; omega)
  have hk := recN_seal q (recN s q + 1) q hq (by omega) hq2 (by omega)
  rw [if_pos rfl] at hk
  have ha : attN { D with left := at_, stay := l } q = recN s q := by rw [← h.attN q]; rfl
  obtain ⟨up, sec, cache, left, stay⟩ := D
  have hup := h.up; have hlf := h.left; have hc := h.cache; have hlen := h.len; have hsec := h.sec
  simp only at hup hlf hc hlen hsec ha
  subst hup hlf hc
  unfold attNext
  rw [if_neg (by omega), ha, show min (recN s q + 1) 1099511627776 = recN s q + 1 from by omega]
  have hp := put_armed sec at_ l hlen q (recN s q + 1) hq (by omega) hat
  have hset : (sec.set 2 (sealL 2 (form2 q (recN s q + 1)))).getD 2 [] = sealL 2 (form2 q (recN s q + 1)) := by simp [List.getD, hlen]
  refine ⟨fun h2 => ?_, fun h2 => ?_⟩
  · rw [if_neg (show ¬ at_ = 1 by omega), if_neg (show ¬ at_ = 2 by omega)] at hp
    rw [hp]
    simp only [ne_eq, not_true_eq_false, if_false]
    refine ⟨trivial, trivial, by simpa using hlen, ?_⟩
    rw [attN_sec rfl]
    show recN ((sec.set 2 (sealL 2 (form2 q (recN s q + 1)))).getD 2 []) q = _
    rw [hset, hk]
  · by_cases h1 : at_ = 1
    · rw [if_pos h1] at hp
      rw [hp]
      refine ⟨rfl, rfl, hlen, rfl, .inl ?_⟩
      show recN (sec.getD 2 []) q = _
      rw [hsec]
    · rw [if_neg h1, if_pos (show at_ = 2 by omega)] at hp
      rw [hp]
      refine ⟨rfl, rfl, ?_, rfl, ?_⟩
      · show (if Dk.bit l 0 then _ else sec).length = 3
        split <;> simp [hlen]
      · show recN ((if Dk.bit l 0 then _ else sec).getD 2 []) q = _ ∨ recN ((if Dk.bit l 0 then _ else sec).getD 2 []) q = _
        split
        · right; rw [hset, hk]
        · left; rw [hsec]
end Go.Proofs.Ythhbdejagglgbaa
