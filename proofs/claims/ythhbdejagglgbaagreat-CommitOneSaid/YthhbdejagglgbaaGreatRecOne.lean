/- Commit records: a Put on a disk that is armed. -/
import Derived.Test.YthhbdejagglgbaaGreatRecBack
namespace Go.Proofs.YthhbdejagglgbaaGreat
open Go.RowKit
set_option linter.unusedVariables false

theorem cput_armed (sec : List (List UInt8)) (st0 : List UInt8) (n : Nat) (r : Rec) (hm : r.may = true) (hh : r.hash.length = 32) (at_ : Int) (l : List UInt8) (hlen : 2 ≤ sec.length) (hat : 1 ≤ at_) :
    cPut ⟨true, sec, [], at_, l⟩ r =
      if at_ = 1 then (⟨false, sec, [], 0, []⟩, 60)
      else if at_ = 2 then (⟨false, if Dk.bit l 0 then sec.set (r.seqn % 2).toNat (sealL 1 (recForm r)) else sec, [], 0, []⟩, 60)
      else (⟨true, sec.set (r.seqn % 2).toNat (sealL 1 (recForm r)), [], at_ - 2, l⟩, 0) := by
  have hs := sealL_len 1 (recForm r) (by rw [recForm_len r hh]; omega)
  obtain ⟨b1, _⟩ := may_true hm
  obtain ⟨i, hi⟩ : ∃ i : Nat, r.seqn % 2 = i := ⟨(r.seqn % 2).toNat, by omega⟩
  have hi2 : i < sec.length := by omega
  unfold cPut
  rw [hm, hi]
  simp only [Bool.true_eq_false, if_false, Int.toNat_natCast]
  obtain ⟨sl, hsl⟩ : ∃ sl, sealL 1 (recForm r) = sl := ⟨_, rfl⟩
  rw [hsl] at hs ⊢
  have hd : dirty [(i, sl)] = [i] := by simp [dirty]
  by_cases h1 : at_ = 1
  · subst h1
    have hw : Dk.write ⟨true, sec, [], 1, l⟩ (i : Int) sl = (⟨false, sec, [], 0, []⟩, 60) := by
      unfold Dk.write
      simp only [Bool.true_eq_false, if_false]
      rw [if_neg (by omega), if_neg (by omega)]
      simp [Dk.operate, Dk.fall, Dk.spill, Dk.spillTo]
    rw [hw]
    simp
  · rw [if_neg h1]
    have hw : Dk.write ⟨true, sec, [], at_, l⟩ (i : Int) sl = (⟨true, sec, [(i, sl)], at_ - 1, l⟩, 0) := by
      unfold Dk.write Dk.operate
      simp only [Bool.true_eq_false, if_false]
      rw [if_neg (by omega), if_neg (by omega)]
      simp [upd, h1]
      omega
    rw [hw]
    by_cases h2 : at_ = 2
    · subst h2
      simp [Dk.flush, Dk.operate, Dk.fall, Dk.spill, Dk.spillTo, hd, look]
    · rw [if_neg h2]
      simp only [ne_eq, not_true_eq_false, if_false]
      unfold Dk.flush Dk.operate
      simp only [Bool.true_eq_false, if_false]
      rw [if_neg (by omega)]
      simp [Dk.spill, Dk.spillTo, hd, look]
      omega

/-- a disk of which the records are known -/
def OneSt (w0 w : World) (pd ps pm : Nat) (u : Bool) (a b : Rec) : Prop :=
  ∃ D, IsD w pd ps pm D ∧ D.up = u ∧ 2 ≤ D.sec.length ∧ cAt D 0 = a ∧ cAt D 1 = b ∧ w0.heap.size ≤ pd ∧ w0.heap.size ≤ ps ∧ w0.heap.size ≤ pm ∧ Chg Non w0 w
/-- a calm disk that is armed -/
def KeptCA (w0 w : World) (pd ps pm n : Nat) (a b : Rec) (at_ : Int) (l : List UInt8) : Prop :=
  ∃ D, IsD w pd ps pm { D with left := at_, stay := l } ∧ CalmC D n a b ∧ w0.heap.size ≤ pd ∧ w0.heap.size ≤ ps ∧ w0.heap.size ≤ pm ∧ Chg Non w0 w

theorem keptC_arm {w0 w : World} {pd ps pm n : Nat} {a b : Rec} (h : KeptC w0 w pd ps pm n a b) (at_ : Int) (B : Option Addr) (l : List UInt8) (c : Nat) (hr : Rd w0 B l) (hl : l.length ≤ 5) (hat : 1 ≤ at_) :
    Calls Tryz.prog 17 #[.pointer (some ⟨pd, 0, none⟩), .int .i64 at_, .slice B l.length c] w fun e w' => e = .returned (.int .i64 0) ∧ KeptCA w0 w' pd ps pm n a b at_ l ∧ Chg (DS pd ps pm) w w' := by
  obtain ⟨D, h1, h2, h4, h5, h6, h7⟩ := h
  refine (Arm_up pd ps pm D at_ B l c w h1 h2.up (hr.non h7) (by omega) hat).mono ?_
  rintro e w' ⟨rfl, hd, hg⟩
  refine ⟨rfl, ⟨D, hd, h2, h4, h5, h6, h7.then_new hg ?_⟩, hg⟩
  rintro x (rfl | rfl | rfl) <;> assumption

theorem keptCA_put {w0 w : World} {pd ps pm n : Nat} {a b : Rec} {at_ : Int} {l : List UInt8} (h : KeptCA w0 w pd ps pm n a b at_ l) (r : Rec) (hm : r.may = true) (hh : r.hash.length = 32) (h2 : r.seqn ≤ 9223372036854775807) (hat : 1 ≤ at_) (hat2 : at_ ≤ 9223372036854775807) (hl : l.length ≤ 5) :
    Calls Tryz.prog 10 #[.pointer (some ⟨pd, 0, none⟩), .agg (recA r)] w fun e w' =>
      ((2 < at_ ∧ e = .returned (.int .i64 0) ∧ OneSt w0 w' pd ps pm true (if r.seqn % 2 = 0 then r else a) (if r.seqn % 2 = 0 then b else r)) ∨
      (at_ ≤ 2 ∧ e = .returned (.int .i64 60) ∧ OneSt w0 w' pd ps pm false (if r.seqn % 2 = 0 then r else a) (if r.seqn % 2 = 0 then b else r)) ∨
      (at_ ≤ 2 ∧ e = .returned (.int .i64 60) ∧ OneSt w0 w' pd ps pm false a b)) ∧ Chg (DS pd ps pm) w w' := by
  obtain ⟨D, h1, hc, h4, h5, h6, h7⟩ := h
  have hset := cAt_set hc r hm hh h2
  refine (cPut_any pd ps pm _ r w hh h2 h1 ⟨by show l.length ≤ _; omega, by show at_ ≤ _; omega⟩ (by show 0 < D.sec.length; rw [hc.len]; have := hc.two; omega)).mono ?_
  obtain ⟨up, sec, cache, left, stay⟩ := D
  have hup := hc.up; have hlf := hc.left; have hca := hc.cache; have hst := hc.stay; have hln := hc.len; have h2n := hc.two
  simp only at hup hlf hca hst hln
  subst hup hlf hca hst
  have ho0 := hc.rec0
  have ho1 := hc.rec1
  have hn0 := hset.rec0
  have hn1 := hset.rec1
  have hp := cput_armed sec [] n r hm hh at_ l (by omega) hat
  rintro e w' ⟨rfl, hd, hg⟩
  have hcg := h7.then_new hg (by rintro x (rfl | rfl | rfl) <;> assumption)
  refine ⟨?_, hg⟩
  by_cases g1 : at_ = 1
  · rw [if_pos g1] at hp
    rw [hp] at hd ⊢
    exact .inr (.inr ⟨by omega, rfl, _, hd, rfl, by show 2 ≤ sec.length; omega, ho0, ho1, h4, h5, h6, hcg⟩)
  · by_cases g2 : at_ = 2
    · rw [if_neg g1, if_pos g2] at hp
      rw [hp] at hd ⊢
      by_cases hb : Dk.bit l 0 = true
      · rw [if_pos hb] at hd
        exact .inr (.inl ⟨by omega, rfl, _, hd, rfl, by show 2 ≤ (sec.set _ _).length; rw [List.length_set]; omega, hn0, hn1, h4, h5, h6, hcg⟩)
      · rw [if_neg hb] at hd
        exact .inr (.inr ⟨by omega, rfl, _, hd, rfl, by show 2 ≤ sec.length; omega, ho0, ho1, h4, h5, h6, hcg⟩)
    · rw [if_neg g1, if_neg g2] at hp
      rw [hp] at hd ⊢
      exact .inl ⟨by omega, rfl, _, hd, rfl, by show 2 ≤ (sec.set _ _).length; rw [List.length_set]; omega, hn0, hn1, h4, h5, h6, hcg⟩

theorem oneSt_up {w0 w : World} {pd ps pm : Nat} {u : Bool} {a b : Rec} (h : OneSt w0 w pd ps pm u a b) :
    Calls Tryz.prog 18 #[.pointer (some ⟨pd, 0, none⟩)] w fun e w' => e = .returned (.bool u) ∧ w = w' := by
  obtain ⟨D, h1, h2, h3, _⟩ := h
  rw [← h2]
  exact Up_ok pd ps pm D w h1
theorem oneSt_start {w0 w : World} {pd ps pm : Nat} {a b : Rec} (h : OneSt w0 w pd ps pm false a b) :
    Calls Tryz.prog 19 #[.pointer (some ⟨pd, 0, none⟩)] w fun e w' => e = .returned (.int .i64 0) ∧ OneSt w0 w' pd ps pm true a b ∧ Chg (DS pd ps pm) w w' := by
  obtain ⟨D, h1, h2, h3, ha, hb, h4, h5, h6, h7⟩ := h
  have hs : D.start = ({ D with up := true }, 0) := by unfold Dk.start; rw [h2]; rfl
  refine (Start_any pd ps pm D w h1).mono ?_
  rw [hs]
  rintro e w' ⟨rfl, hd, hg⟩
  refine ⟨rfl, ⟨_, hd, rfl, h3, ha, hb, h4, h5, h6, h7.then_new hg ?_⟩, hg⟩
  rintro x (rfl | rfl | rfl) <;> assumption
theorem oneSt_get {w0 w : World} {pd ps pm : Nat} {a b : Rec} (h : OneSt w0 w pd ps pm true a b) :
    Calls Tryz.prog 9 #[.pointer (some ⟨pd, 0, none⟩)] w fun e w' => e = .returned (.tuple #[.agg (recA (cTell a b).1), .agg (recA (cTell a b).2.1), .int .i64 (cTell a b).2.2]) ∧ Chg Non w w' := by
  obtain ⟨D, h1, h2, h3, ha, hb, h4, h5, h6, h7⟩ := h
  rw [← ha, ← hb]
  exact cGet_up pd ps pm D w h1 h2 h3
theorem OneSt.chg {w0 w : World} {pd ps pm : Nat} {u : Bool} {a b : Rec} (h : OneSt w0 w pd ps pm u a b) : Chg Non w0 w := by
  obtain ⟨D, h1, h2, h3, ha, hb, h4, h5, h6, h7⟩ := h
  exact h7

/-- behind a Put of the next one -/
theorem next_tell (f : Int) (l : List Rec) (k : Nat) (r : Rec) (h1 : 1 ≤ f) (hr : r.seqn = f + k + 1) :
    cTell (if r.seqn % 2 = 0 then r else (stAt f l (k + 1)).1) (if r.seqn % 2 = 0 then (stAt f l (k + 1)).2 else r) = (r, rN f l k, 0) := by
  have hs : (rN f l k).seqn = f + k := rfl
  have hz : r ≠ Rec.zero := fun e => by
    have h := congrArg Rec.seqn e
    have : Rec.zero.seqn = 0 := rfl
    omega
  have core : ∀ p : Rec × Rec, p = (r, rN f l k) → (if p.1 = Rec.zero then (p.1, p.2, (160 : Int)) else if p.2.seqn ≠ p.1.seqn - 1 then (p.1, Rec.zero, 0) else (p.1, p.2, 0)) = (r, rN f l k, 0) := by
    rintro p rfl
    rw [if_neg hz, if_neg (by show ¬ (rN f l k).seqn ≠ r.seqn - 1; omega)]
  rw [stAt_is]
  unfold cTell
  apply core
  by_cases h : (f + (k : Int)) % 2 = 0
  · rw [if_pos h, if_neg (show ¬ r.seqn % 2 = 0 by omega), if_neg (show ¬ r.seqn % 2 = 0 by omega)]
    show (if (rN f l k).seqn < r.seqn then _ else _) = _
    rw [if_pos (by omega)]
  · rw [if_neg h, if_pos (show r.seqn % 2 = 0 by omega), if_pos (show r.seqn % 2 = 0 by omega)]
    show (if r.seqn < (rN f l k).seqn then _ else _) = _
    rw [if_neg (by omega)]
theorem one_diff (f : Int) (l : List Rec) (k : Nat) (r : Rec) (hr : r.seqn = f + k + 1) : rN f l k ≠ r := fun e => by
  have h := congrArg Rec.seqn e
  have hs : (rN f l k).seqn = f + k := rfl
  omega
theorem eq_diff (a b : Rec) (ha : a.Bd) (hb : b.Bd) (h : a ≠ b) (w : World) : (binOp .eql 25 (.agg (recA a)) (.agg (recA b))).run Tryz.prog w = .ok (.bool false) w := by
  obtain ⟨q, hq, hr⟩ := eq_rec a b ha hb
  have : q = false := by
    cases q with
    | false => rfl
    | true => exact absurd (hq.1 rfl) h
  rw [(hr w).1, this]
end Go.Proofs.YthhbdejagglgbaaGreat
