/- A sector with one byte otherwise is no frame. No walk. -/
import Derived.Test.YthhbdejagglgbaaAttK
namespace Go.Proofs.Ythhbdejagglgbaa
open Go.RowKit
set_option linter.unusedVariables false

theorem crc_one (l : List UInt8) (i : Nat) (x : UInt8) (hi : i < (crcPut l).length) (hx : (crcPut l)[i] ≠ x) : crcOk ((crcPut l).set i x) = false := by
  have hl : (crcPut l).length = l.length + 4 := by simp [crcPut, be_length]
  have hb := be_length (crcSum l) 4
  unfold crcOk
  rw [decide_eq_false_iff_not]
  rintro ⟨-, he⟩
  rw [List.length_set, hl, Nat.add_sub_cancel] at he
  by_cases h : i < l.length
  · have hs : (crcPut l).set i x = l.set i x ++ be (crcSum l) 4 := by
      unfold crcPut
      rw [List.set_append_left _ _ h]
    rw [hs, show l.length = (l.set i x).length by simp, List.take_left] at he
    have he2 : be (crcSum (l.set i x)) 4 = be (crcSum l) 4 := List.append_cancel_left he
    have he3 := congrArg num he2
    rw [num_be _ _ (Nat.lt_of_lt_of_eq (crcSum_lt _) (by decide)), num_be _ _ (Nat.lt_of_lt_of_eq (crcSum_lt _) (by decide))] at he3
    rw [List.set_eq_take_append_cons_drop, if_pos h] at he3
    have hg : l = l.take i ++ l[i] :: l.drop (i + 1) := by rw [List.getElem_cons_drop, List.take_append_drop]
    have he4 : crcSum (l.take i ++ x :: l.drop (i + 1)) = crcSum (l.take i ++ l[i] :: l.drop (i + 1)) := by rw [← hg]; exact he3
    have := crcSum_one _ _ _ _ he4
    apply hx
    simp only [crcPut, List.getElem_append_left h]
    exact this.symm
  · have hs : ((crcPut l).set i x).take l.length = l := by
      rw [List.take_set_of_le (by omega)]
      simp [crcPut]
    rw [hs] at he
    apply hx
    have h2 : (crcPut l)[i]? = ((crcPut l).set i x)[i]? := by rw [← he]
    rw [List.getElem?_eq_getElem hi, List.getElem?_set_self hi] at h2
    injection h2

theorem seal_one (k : UInt8) (f : List UInt8) (i : Nat) (x : UInt8) (h : (sealL k f)[i]? ≠ some x) (hi : i < (sealL k f).length) (j : UInt8) : openL j ((sealL k f).set i x) = none := by
  have hc : crcOk ((sealL k f).set i x) = false := crc_one _ i x hi (fun e => h (by rw [List.getElem?_eq_getElem hi]; exact congrArg some e))
  unfold openL wholeL
  rw [hc]
  simp

theorem attRec_one (k : UInt8) (f : List UInt8) (i : Nat) (x : UInt8) (h : (sealL k f)[i]? ≠ some x) (hi : i < (sealL k f).length) : attRec ((sealL k f).set i x) = (0, 0) := by
  unfold attRec
  rw [seal_one k f i x h hi]

theorem xor_other (x o : UInt8) (h : x ^^^ o = x) : o = 0 := by
  have := congrArg (x ^^^ ·) h
  simpa [← UInt8.xor_assoc] using this
end Go.Proofs.Ythhbdejagglgbaa
