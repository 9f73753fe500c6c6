/- Plain laws of attempts: what was put is read; what a crash leaves. No walk. -/
import Derived.Test.YthhbdejagglgbaaAtt3
namespace Go.Proofs.Ythhbdejagglgbaa
open Go.RowKit
set_option linter.unusedVariables false

theorem sealL_len (k : UInt8) (f : List UInt8) (h : f.length ≤ 58) : (sealL k f).length = 64 := by
  simp [sealL, crcPut, be_length]; omega

theorem crcOk_put (x : List UInt8) : crcOk (crcPut x) = true := by
  have hl : (crcPut x).length = x.length + 4 := by simp [crcPut, be_length]
  unfold crcOk
  rw [decide_eq_true_eq]
  refine ⟨by omega, ?_⟩
  rw [hl, Nat.add_sub_cancel]
  have : (crcPut x).take x.length = x := by simp [crcPut]
  rw [this]

theorem open_seal (k : UInt8) (f : List UInt8) (h : f.length ≤ 58) : openL k (sealL k f) = some f := by
  have hlen := sealL_len k f h
  have hsz : sizeL (sealL k f) = f.length := by
    simp [sizeL, sealL, crcPut, List.getD]
    omega
  have hd : ∀ t, (sealL k f).drop (2 + t) = (f ++ List.replicate (58 - f.length) 0 ++ be (crcSum ([k, UInt8.ofNat f.length] ++ f ++ List.replicate (58 - f.length) 0)) 4).drop t := by
    intro t
    simp [sealL, crcPut, Nat.add_comm 2 t]
  have hw : wholeL (sealL k f) = true := by
    unfold wholeL
    rw [hsz, decide_eq_true hlen, decide_eq_true h]
    simp only [Bool.true_and]
    rw [show crcOk (sealL k f) = true from crcOk_put _]
    simp only [Bool.true_and, decide_eq_true_eq]
    rw [hd, List.append_assoc, List.drop_left]
    rw [show 60 - (2 + f.length) = (List.replicate (58 - f.length) (0 : UInt8)).length by simp; omega]
    rw [List.take_left]
    simp
  have h0 : (sealL k f).getD 0 0 = k := by simp [sealL, crcPut]
  unfold openL
  rw [if_pos ⟨hw, h0⟩, hsz]
  have := hd 0
  rw [Nat.add_zero, List.drop_zero] at this
  rw [this, List.append_assoc, List.take_left]

theorem i64_u64 (n : Int) (h1 : -9223372036854775808 ≤ n) (h2 : n ≤ 9223372036854775807) : i64 (u64 n) = n := by
  unfold i64 wrap64 u64
  omega

theorem rdInt_be (n : Int) (r : List UInt8) (h1 : -9223372036854775808 ≤ n) (h2 : n ≤ 9223372036854775807) : rdInt (be (u64 n) 8 ++ r) 0 = (n, r, 0) := by
  have hl : (be (u64 n) 8).length = 8 := be_length _ _
  unfold rdInt
  rw [if_pos rfl, if_pos (by rw [List.length_append, hl]; omega)]
  have ht : (be (u64 n) 8 ++ r).take 8 = be (u64 n) 8 := by rw [List.take_append_of_le_length (by omega), List.take_of_length_le (by omega)]
  have hdr : (be (u64 n) 8 ++ r).drop 8 = r := by
    have := List.drop_left (l₁ := be (u64 n) 8) (l₂ := r)
    rw [hl] at this
    exact this
  rw [ht, hdr, num_be _ _ (u64_lt n), i64_u64 n h1 h2]

theorem attRec_seal (a b : Int) (ha : 1 ≤ a) (hb : 1 ≤ b) (ha2 : a ≤ 9223372036854775807) (hb2 : b ≤ 9223372036854775807) : attRec (sealL 2 (form2 a b)) = (a, b) := by
  unfold attRec
  rw [open_seal 2 (form2 a b) (by rw [form2_len]; omega)]
  have h1 := rdInt_be a (be (u64 b) 8) (by omega) ha2
  have h2 := rdInt_be b [] (by omega) hb2
  rw [List.append_nil] at h2
  simp only [form2, h1, h2]
  simp [ha, hb]

theorem attRec_zero : attRec (List.replicate 64 0) = (0, 0) := by
  have : openL 2 (List.replicate 64 0) = none := by decide +kernel
  unfold attRec
  rw [this]

/-- a disk with nothing in its cache, that is up -/
theorem put_calm {D : Dk} (hup : D.up = true) (hl : D.left = 0) (hc : D.cache = []) (hlen : 2 < D.sec.length) (a b : Int) (ha : 1 ≤ a) (hb : 1 ≤ b) :
    attPut D a b = ({ D with sec := D.sec.set 2 (sealL 2 (form2 a b)) }, 0) := by
  have hs := sealL_len 2 (form2 a b) (by rw [form2_len]; omega)
  obtain ⟨up, sec, cache, left, stay⟩ := D
  simp only at hup hl hc hlen
  subst hup hl hc
  have hd : dirty [(2, sealL 2 (form2 a b))] = [2] := by simp [dirty]
  have hm : max (-1 : Int) 0 = 0 := by decide
  unfold attPut
  rw [if_neg (by omega)]
  have hw : Dk.write ⟨true, sec, [], 0, stay⟩ 2 (sealL 2 (form2 a b)) = (⟨true, sec, [(2, sealL 2 (form2 a b))], 0, stay⟩, 0) := by
    unfold Dk.write Dk.operate
    simp only [Bool.true_eq_false, if_false]
    rw [if_neg (by omega), if_neg (by omega)]
    simp [upd, hm]
  rw [hw]
  simp [Dk.flush, Dk.operate, Dk.spill, Dk.spillTo, hd, look, hm]

theorem at_calm {D : Dk} (hc : D.cache = []) (i : Nat) : D.at_ i = D.sec.getD i [] := by
  unfold Dk.at_
  rw [hc]
  rfl

/-- a disk of three sectors that is up, with nothing in its cache; s: its third sector -/
structure Calm (D : Dk) (s : List UInt8) : Prop where
  up : D.up = true
  left : D.left = 0
  cache : D.cache = []
  len : D.sec.length = 3
  stay : D.stay = []
  sec : D.sec.getD 2 [] = s

theorem Calm.sz {D : Dk} {s : List UInt8} (h : Calm D s) : D.Sz := ⟨by rw [h.stay]; simp, by rw [h.left]; omega⟩
theorem Calm.at_ {D : Dk} {s : List UInt8} (h : Calm D s) : D.at_ 2 = s := by rw [at_calm h.cache, h.sec]
theorem calm_new : Calm (Dk.new 3) (List.replicate 64 0) := ⟨rfl, rfl, rfl, rfl, rfl, rfl⟩

/-- the attempts that a record of a sector tells -/
def recN (s : List UInt8) (q : Int) : Int := if attRec s ≠ (0, 0) ∧ (attRec s).1 = q then (attRec s).2 else 0
theorem Calm.attN {D : Dk} {s : List UInt8} (h : Calm D s) (q : Int) : attN D q = recN s q := by unfold Go.Proofs.Ythhbdejagglgbaa.attN recN; rw [h.at_]

theorem recN_zero (q : Int) : recN (List.replicate 64 0) q = 0 := by unfold recN; rw [attRec_zero]; simp
theorem recN_seal (a b q : Int) (ha : 1 ≤ a) (hb : 1 ≤ b) (ha2 : a ≤ 9223372036854775807) (hb2 : b ≤ 9223372036854775807) : recN (sealL 2 (form2 a b)) q = if a = q then b else 0 := by
  unfold recN
  rw [attRec_seal a b ha hb ha2 hb2]
  by_cases h : a = q
  · have : (a, b) ≠ (0, 0) := by intro e; injection e with e1 e2; omega
    simp [h, h ▸ this]
  · simp [h]

theorem Calm.put {D : Dk} {s : List UInt8} (h : Calm D s) (a b : Int) (ha : 1 ≤ a) (hb : 1 ≤ b) : (attPut D a b).2 = 0 ∧ Calm (attPut D a b).1 (sealL 2 (form2 a b)) := by
  rw [put_calm h.up h.left h.cache (by rw [h.len]; omega) a b ha hb]
  refine ⟨rfl, h.up, h.left, h.cache, by simp [h.len], h.stay, ?_⟩
  have := h.len
  simp [List.getD, this]

theorem put_arg (D : Dk) (a b : Int) (h : min a b < 1) : attPut D a b = (D, 2) := by unfold attPut; rw [if_pos h]

theorem Calm.next {D : Dk} {s : List UInt8} (h : Calm D s) (q : Int) (hq : 1 ≤ q) (hn : 0 ≤ recN s q) (hn2 : recN s q < 1099511627776) :
    (attNext D q).2 = (recN s q + 1, 0) ∧ Calm (attNext D q).1 (sealL 2 (form2 q (recN s q + 1))) := by
  unfold attNext
  rw [if_neg (by omega), h.attN q, show min (recN s q + 1) 1099511627776 = recN s q + 1 from by omega]
  obtain ⟨h1, h2⟩ := h.put q (recN s q + 1) hq (by omega)
  simp only [h1, ne_eq, not_true_eq_false, if_false]
  exact ⟨trivial, h2⟩
end Go.Proofs.Ythhbdejagglgbaa
