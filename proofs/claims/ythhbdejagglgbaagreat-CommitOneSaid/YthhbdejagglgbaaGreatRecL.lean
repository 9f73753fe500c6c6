/- Plain laws of commit records: what was put is read; a disk with nothing in its cache. No walk. -/
import Derived.Test.YthhbdejagglgbaaGreatRecGet
import Derived.Test.YthhbdejagglgbaaGreatSeal
namespace Go.Proofs.YthhbdejagglgbaaGreat
open Go.RowKit
set_option linter.unusedVariables false

theorem rdByte_cons (x : UInt8) (r : List UInt8) : rdByte (x :: r) 0 = (x, r, 0) := rfl
theorem rdFlag_b (b : Bool) (r : List UInt8) : rdFlag (flagB b :: r) 0 = (b, r, 0) := by
  cases b <;> rfl
theorem rdTag_app (h r : List UInt8) (hh : h.length = 32) : rdTag (h ++ r) 0 = (h, r, 0) := by
  unfold rdTag
  have h1 : (h ++ r).take 32 = h := by rw [← hh, List.take_left]
  have h2 : (h ++ r).drop 32 = r := by rw [← hh, List.drop_left]
  rw [if_pos rfl, if_pos (by rw [List.length_append]; omega), h1, h2]

theorem recFields_form (r : Rec) (hm : r.may = true) (hh : r.hash.length = 32) (h2 : r.seqn ≤ 9223372036854775807) : recFields (recForm r) = (r, [], 0) := by
  obtain ⟨b1, b2, b3, b4⟩ := may_true hm
  obtain ⟨sq, sl, ln, tr, ha⟩ := r
  simp only at b1 b2 b3 b4 hh h2
  have e1 : recForm ⟨sq, sl, ln, tr, ha⟩ = be (u64 sq) 8 ++ (slotB ⟨sq, sl, ln, tr, ha⟩ :: (be (u64 ln) 8 ++ (flagB tr :: (ha ++ [])))) := by simp [recForm]
  have k1 := rdInt_be sq (slotB ⟨sq, sl, ln, tr, ha⟩ :: (be (u64 ln) 8 ++ (flagB tr :: (ha ++ [])))) (by omega) h2
  have k2 := rdByte_cons (slotB ⟨sq, sl, ln, tr, ha⟩) (be (u64 ln) 8 ++ (flagB tr :: (ha ++ [])))
  have k3 := rdInt_be ln (flagB tr :: (ha ++ [])) (by omega) (by omega)
  have k4 := rdFlag_b tr (ha ++ [])
  have k5 := rdTag_app ha [] hh
  have hs : ((slotB ⟨sq, sl, ln, tr, ha⟩).toNat : Int) = sl := by
    unfold slotB
    rcases b2 with rfl | rfl
    · rfl
    · rfl
  rw [e1]
  unfold recFields
  simp only [k1, k2, k3, k4, k5, hs]

theorem recRd_seal (r : Rec) (hm : r.may = true) (hh : r.hash.length = 32) (h2 : r.seqn ≤ 9223372036854775807) : recRd (sealL 1 (recForm r)) = (r, true) := by
  unfold recRd
  rw [open_seal 1 (recForm r) (by rw [recForm_len r hh]; omega)]
  simp only [Option.getD_some, recFields_form r hm hh h2, Option.isSome_some, hm]
  rfl
theorem recRd_zero : (recRd (List.replicate 64 0)).2 = false := by
  have : openL 1 (List.replicate 64 0) = none := by decide +kernel
  unfold recRd
  rw [this]
  rfl

/-- a disk of n sectors that is up, with nothing in its cache; a, b: the records of its first sectors -/
structure CalmC (D : Dk) (n : Nat) (a b : Rec) : Prop where
  up : D.up = true
  left : D.left = 0
  cache : D.cache = []
  len : D.sec.length = n
  two : 2 ≤ n
  stay : D.stay = []
  rec0 : cAt D 0 = a
  rec1 : cAt D 1 = b
theorem CalmC.sz {D : Dk} {n : Nat} {a b : Rec} (h : CalmC D n a b) : D.Sz := ⟨by rw [h.stay]; simp, by rw [h.left]; omega⟩

theorem cat_calm {D : Dk} (hc : D.cache = []) (i : Nat) : D.at_ i = D.sec.getD i [] := by
  unfold Dk.at_
  rw [hc]
  rfl
theorem cAt_zero (D : Dk) (i : Nat) (h : D.at_ i = List.replicate 64 0) : cAt D i = Rec.zero := by
  unfold cAt
  rw [h, recRd_zero]
  simp
theorem calmC_new (n : Nat) (h : 2 ≤ n) : CalmC (Dk.new n) n Rec.zero Rec.zero := by
  refine ⟨rfl, rfl, rfl, by simp [Dk.new], h, rfl, cAt_zero _ _ ?_, cAt_zero _ _ ?_⟩
  · rw [cat_calm rfl]; simp [Dk.new, List.getD, show 0 < n by omega]
  · rw [cat_calm rfl]; simp [Dk.new, List.getD, show 1 < n by omega]

theorem cput_calm {D : Dk} {n : Nat} {a b : Rec} (h : CalmC D n a b) (r : Rec) (hm : r.may = true) (hh : r.hash.length = 32) :
    cPut D r = ({ D with sec := D.sec.set (r.seqn % 2).toNat (sealL 1 (recForm r)) }, 0) := by
  have hs := sealL_len 1 (recForm r) (by rw [recForm_len r hh]; omega)
  obtain ⟨b1, _⟩ := may_true hm
  obtain ⟨hup, hl, hc, hn, h2, _, _, _⟩ := h
  obtain ⟨up, sec, cache, left, stay⟩ := D
  simp only at hup hl hc hn
  subst hup hl hc hn
  obtain ⟨i, hi⟩ : ∃ i : Nat, r.seqn % 2 = i := ⟨(r.seqn % 2).toNat, by omega⟩
  have hi2 : i < 2 := by omega
  unfold cPut
  rw [hm, hi]
  simp only [Bool.true_eq_false, if_false, Int.toNat_natCast]
  obtain ⟨sl, hsl⟩ : ∃ sl, sealL 1 (recForm r) = sl := ⟨_, rfl⟩
  rw [hsl] at hs ⊢
  have hm1 : max (-1 : Int) 0 = 0 := by decide
  have hd : dirty [(i, sl)] = [i] := by simp [dirty]
  have hw : Dk.write ⟨true, sec, [], 0, stay⟩ (i : Int) sl = (⟨true, sec, [(i, sl)], 0, stay⟩, 0) := by
    unfold Dk.write Dk.operate
    simp only [Bool.true_eq_false, if_false]
    rw [if_neg (by omega), if_neg (by omega)]
    simp [upd, hm1]
  rw [hw]
  simp [Dk.flush, Dk.operate, Dk.spill, Dk.spillTo, hd, look, hm1]

theorem cAt_set {D : Dk} {n : Nat} {a b : Rec} (h : CalmC D n a b) (r : Rec) (hm : r.may = true) (hh : r.hash.length = 32) (h2 : r.seqn ≤ 9223372036854775807) :
    CalmC { D with sec := D.sec.set (r.seqn % 2).toNat (sealL 1 (recForm r)) } n (if r.seqn % 2 = 0 then r else a) (if r.seqn % 2 = 0 then b else r) := by
  obtain ⟨hup, hl, hc, hn, h2n, hst, r0, r1⟩ := h
  have hrd := recRd_seal r hm hh h2
  have at_eq : ∀ i, ({ D with sec := D.sec.set (r.seqn % 2).toNat (sealL 1 (recForm r)) } : Dk).at_ i = (D.sec.set (r.seqn % 2).toNat (sealL 1 (recForm r))).getD i [] := fun i => cat_calm (D := { D with sec := D.sec.set (r.seqn % 2).toNat (sealL 1 (recForm r)) }) hc i
  have same : ∀ i : Nat, (i : Int) ≠ r.seqn % 2 → cAt { D with sec := D.sec.set (r.seqn % 2).toNat (sealL 1 (recForm r)) } i = cAt D i := by
    intro i hi
    unfold cAt
    rw [at_eq, cat_calm hc, List.getD, List.getElem?_set_ne (by omega), ← List.getD]
  have new : ∀ i : Nat, (i : Int) = r.seqn % 2 → i < n → cAt { D with sec := D.sec.set (r.seqn % 2).toNat (sealL 1 (recForm r)) } i = r := by
    intro i hi hin
    unfold cAt
    have e : (D.sec.set (r.seqn % 2).toNat (sealL 1 (recForm r))).getD i [] = sealL 1 (recForm r) := by
      rw [List.getD, show (r.seqn % 2).toNat = i by omega, List.getElem?_set_self (by omega)]
      rfl
    rw [at_eq, e, hrd]
    simp [hi]
  refine ⟨hup, hl, hc, by simp [hn], h2n, hst, ?_, ?_⟩
  · by_cases he : r.seqn % 2 = 0
    · rw [if_pos he]; exact new 0 (by simp [he]) (by omega)
    · rw [if_neg he, same 0 (by simp; omega)]; exact r0
  · by_cases he : r.seqn % 2 = 0
    · rw [if_pos he, same 1 (by simp [he])]; exact r1
    · rw [if_neg he]; exact new 1 (by simp; omega) (by omega)

/-- since w0 a disk was made, in blocks pd, ps, pm; nothing else was changed -/
def KeptC (w0 w : World) (pd ps pm n : Nat) (a b : Rec) : Prop :=
  ∃ D, IsD w pd ps pm D ∧ CalmC D n a b ∧ w0.heap.size ≤ pd ∧ w0.heap.size ≤ ps ∧ w0.heap.size ≤ pm ∧ Chg Non w0 w
theorem KeptC.non {w0 w w' : World} {pd ps pm n : Nat} {a b : Rec} (h : KeptC w0 w pd ps pm n a b) (hg : Chg Non w w') : KeptC w0 w' pd ps pm n a b := by
  obtain ⟨D, h1, h2, h4, h5, h6, h7⟩ := h
  exact ⟨D, h1.non hg, h2, h4, h5, h6, h7.then_non hg⟩
theorem KeptC.chg {w0 w : World} {pd ps pm n : Nat} {a b : Rec} (h : KeptC w0 w pd ps pm n a b) : Chg Non w0 w := by
  obtain ⟨_, _, _, _, _, _, h7⟩ := h
  exact h7

theorem KeptC.lt {w0 w : World} {pd ps pm n : Nat} {a b : Rec} (h : KeptC w0 w pd ps pm n a b) : pd < w.heap.size ∧ ps < w.heap.size ∧ pm < w.heap.size := by
  obtain ⟨_, h1, _⟩ := h
  exact h1.lt
theorem twoKeep {pd ps pm s b g : Nat} {X Y : Array Value} {w W : World} (h : Two b g X Y w) (hg : Chg (DS pd ps pm) w W) (hs : pd < s ∧ ps < s ∧ pm < s) (hb : s ≤ b) (hg' : s ≤ g) : Two b g X Y W :=
  h.keep hg (by unfold DS; omega) (by unfold DS; omega)

theorem keptC_new (w0 w : World) (n : Nat) (hn : 2 ≤ n) (hn2 : n ≤ 1024) (h0 : Chg Non w0 w) : Calls Tryz.prog 14 #[.int .i64 (n : Int)] w fun e w' => ∃ pd ps pm, e = .returned (.tuple #[.pointer (some ⟨pd, 0, none⟩), .int .i64 0]) ∧ KeptC w0 w' pd ps pm n Rec.zero Rec.zero ∧ Chg Non w w' := by
  refine (New_ok n w (by omega) hn2).mono ?_
  rintro e w' ⟨pd, ps, pm, rfl, h, h1, h2, h3, hg⟩
  have hs := h0.size
  exact ⟨pd, ps, pm, rfl, ⟨Dk.new n, h, calmC_new n hn, by omega, by omega, by omega, h0.then_non hg⟩, hg⟩

theorem keptC_get {w0 w : World} {pd ps pm n : Nat} {a b : Rec} (h : KeptC w0 w pd ps pm n a b) :
    Calls Tryz.prog 9 #[.pointer (some ⟨pd, 0, none⟩)] w fun e w' => e = .returned (.tuple #[.agg (recA (cTell a b).1), .agg (recA (cTell a b).2.1), .int .i64 (cTell a b).2.2]) ∧ KeptC w0 w' pd ps pm n a b ∧ Chg Non w w' := by
  have hk := h
  obtain ⟨D, h1, h2, h4, h5, h6, h7⟩ := h
  refine (cGet_up pd ps pm D w h1 h2.up (by rw [h2.len]; exact h2.two)).mono ?_
  rintro e w' ⟨rfl, hg⟩
  rw [h2.rec0, h2.rec1]
  exact ⟨rfl, hk.non hg, hg⟩

theorem keptC_put {w0 w : World} {pd ps pm n : Nat} {a b : Rec} (h : KeptC w0 w pd ps pm n a b) (r : Rec) (hm : r.may = true) (hh : r.hash.length = 32) (h2 : r.seqn ≤ 9223372036854775807) :
    Calls Tryz.prog 10 #[.pointer (some ⟨pd, 0, none⟩), .agg (recA r)] w fun e w' => e = .returned (.int .i64 0) ∧ KeptC w0 w' pd ps pm n (if r.seqn % 2 = 0 then r else a) (if r.seqn % 2 = 0 then b else r) ∧ Chg (DS pd ps pm) w w' := by
  obtain ⟨D, h1, hc, h4, h5, h6, h7⟩ := h
  refine (cPut_any pd ps pm D r w hh h2 h1 hc.sz (by rw [hc.len]; have := hc.two; omega)).mono ?_
  rw [cput_calm hc r hm hh]
  rintro e w' ⟨rfl, hd, hg⟩
  refine ⟨rfl, ⟨_, hd, cAt_set hc r hm hh h2, h4, h5, h6, h7.then_new hg ?_⟩, hg⟩
  rintro x (rfl | rfl | rfl) <;> assumption

theorem keptC_put_arg {w0 w : World} {pd ps pm n : Nat} {a b : Rec} (h : KeptC w0 w pd ps pm n a b) (r : Rec) (hm : r.may = false) (hh : r.hash.length = 32) (h2 : r.seqn ≤ 9223372036854775807) :
    Calls Tryz.prog 10 #[.pointer (some ⟨pd, 0, none⟩), .agg (recA r)] w fun e w' => e = .returned (.int .i64 2) ∧ KeptC w0 w' pd ps pm n a b ∧ Chg (DS pd ps pm) w w' := by
  obtain ⟨D, h1, hc, h4, h5, h6, h7⟩ := h
  have he : cPut D r = (D, 2) := by unfold cPut; rw [if_pos hm]
  refine (cPut_any pd ps pm D r w hh h2 h1 hc.sz (by rw [hc.len]; have := hc.two; omega)).mono ?_
  rw [he]
  rintro e w' ⟨rfl, hd, hg⟩
  refine ⟨rfl, ⟨_, hd, hc, h4, h5, h6, h7.then_new hg ?_⟩, hg⟩
  rintro x (rfl | rfl | rfl) <;> assumption
end Go.Proofs.YthhbdejagglgbaaGreat
