/- Plain laws of frames: what was sealed is opened; numbers read back. No walk. -/
import Derived.Test.YthhbdejagglgbaaGreatFrame2
import Derived.Test.YthhbdejagglgbaaGreatWriter
import Derived.Test.YthhbdejagglgbaaGreatReader
namespace Go.Proofs.YthhbdejagglgbaaGreat
open Go.RowKit
set_option linter.unusedVariables false

theorem sealL_len (k : UInt8) (f : List UInt8) (h : f.length ≤ 58) : (sealL k f).length = 64 := by
  simp [sealL, crcPut, be_length]; omega

theorem crcOk_put (x : List UInt8) : crcOk (crcPut x) = true := by
  have hl : (crcPut x).length = x.length + 4 := by simp [crcPut, be_length]
  unfold crcOk
  rw [decide_eq_true_eq]
  refine ⟨by omega, ?_⟩
  rw [hl, Nat.add_sub_cancel]
  have : (crcPut x).take x.length = x := by simp [crcPut]
  rw [this]

theorem open_seal (k : UInt8) (f : List UInt8) (h : f.length ≤ 58) : openL k (sealL k f) = some f := by
  have hlen := sealL_len k f h
  have hsz : sizeL (sealL k f) = f.length := by
    simp [sizeL, sealL, crcPut, List.getD]
    omega
  have hd : ∀ t, (sealL k f).drop (2 + t) = (f ++ List.replicate (58 - f.length) 0 ++ be (crcSum ([k, UInt8.ofNat f.length] ++ f ++ List.replicate (58 - f.length) 0)) 4).drop t := by
    intro t
    simp [sealL, crcPut, Nat.add_comm 2 t]
  have hw : wholeL (sealL k f) = true := by
    unfold wholeL
    rw [hsz, decide_eq_true hlen, decide_eq_true h]
    simp only [Bool.true_and]
    rw [show crcOk (sealL k f) = true from crcOk_put _]
    simp only [Bool.true_and, decide_eq_true_eq]
    rw [hd, List.append_assoc, List.drop_left]
    rw [show 60 - (2 + f.length) = (List.replicate (58 - f.length) (0 : UInt8)).length by simp; omega]
    rw [List.take_left]
    simp
  have h0 : (sealL k f).getD 0 0 = k := by simp [sealL, crcPut]
  unfold openL
  rw [if_pos ⟨hw, h0⟩, hsz]
  have := hd 0
  rw [Nat.add_zero, List.drop_zero] at this
  rw [this, List.append_assoc, List.take_left]

theorem i64_u64 (n : Int) (h1 : -9223372036854775808 ≤ n) (h2 : n ≤ 9223372036854775807) : i64 (u64 n) = n := by
  unfold i64 wrap64 u64
  omega

theorem rdInt_be (n : Int) (r : List UInt8) (h1 : -9223372036854775808 ≤ n) (h2 : n ≤ 9223372036854775807) : rdInt (be (u64 n) 8 ++ r) 0 = (n, r, 0) := by
  have hl : (be (u64 n) 8).length = 8 := be_length _ _
  unfold rdInt
  rw [if_pos rfl, if_pos (by rw [List.length_append, hl]; omega)]
  have ht : (be (u64 n) 8 ++ r).take 8 = be (u64 n) 8 := by rw [List.take_append_of_le_length (by omega), List.take_of_length_le (by omega)]
  have hdr : (be (u64 n) 8 ++ r).drop 8 = r := by
    have := List.drop_left (l₁ := be (u64 n) 8) (l₂ := r)
    rw [hl] at this
    exact this
  rw [ht, hdr, num_be _ _ (u64_lt n), i64_u64 n h1 h2]

end Go.Proofs.YthhbdejagglgbaaGreat
