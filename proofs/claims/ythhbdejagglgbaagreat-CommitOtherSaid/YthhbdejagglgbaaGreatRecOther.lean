/- Commit records: a sector with one byte otherwise is none. No walk. -/
import Derived.Test.YthhbdejagglgbaaGreatRecBack
namespace Go.Proofs.YthhbdejagglgbaaGreat
open Go.RowKit
set_option linter.unusedVariables false

theorem ccrc_one (l : List UInt8) (i : Nat) (x : UInt8) (hi : i < (crcPut l).length) (hx : (crcPut l)[i] ≠ x) : crcOk ((crcPut l).set i x) = false := by
  have hl : (crcPut l).length = l.length + 4 := by simp [crcPut, be_length]
  have hb := be_length (crcSum l) 4
  unfold crcOk
  rw [decide_eq_false_iff_not]
  rintro ⟨-, he⟩
  rw [List.length_set, hl, Nat.add_sub_cancel] at he
  by_cases h : i < l.length
  · have hs : (crcPut l).set i x = l.set i x ++ be (crcSum l) 4 := by
      unfold crcPut
      rw [List.set_append_left _ _ h]
    rw [hs, show l.length = (l.set i x).length by simp, List.take_left] at he
    have he2 : be (crcSum (l.set i x)) 4 = be (crcSum l) 4 := List.append_cancel_left he
    have he3 := congrArg num he2
    rw [num_be _ _ (Nat.lt_of_lt_of_eq (crcSum_lt _) (by decide)), num_be _ _ (Nat.lt_of_lt_of_eq (crcSum_lt _) (by decide))] at he3
    rw [List.set_eq_take_append_cons_drop, if_pos h] at he3
    have hg : l = l.take i ++ l[i] :: l.drop (i + 1) := by rw [List.getElem_cons_drop, List.take_append_drop]
    have he4 : crcSum (l.take i ++ x :: l.drop (i + 1)) = crcSum (l.take i ++ l[i] :: l.drop (i + 1)) := by rw [← hg]; exact he3
    have := crcSum_one _ _ _ _ he4
    apply hx
    simp only [crcPut, List.getElem_append_left h]
    exact this.symm
  · have hs : ((crcPut l).set i x).take l.length = l := by
      rw [List.take_set_of_le (by omega)]
      simp [crcPut]
    rw [hs] at he
    apply hx
    have h2 : (crcPut l)[i]? = ((crcPut l).set i x)[i]? := by rw [← he]
    rw [List.getElem?_eq_getElem hi, List.getElem?_set_self hi] at h2
    injection h2
theorem crcOk_one (s : List UInt8) (h : crcOk s = true) (i : Nat) (x : UInt8) (hi : i < s.length) (hx : s[i] ≠ x) : crcOk (s.set i x) = false := by
  unfold crcOk at h
  rw [decide_eq_true_eq] at h
  obtain ⟨l, hl⟩ : ∃ l, s.take (s.length - 4) = l := ⟨_, rfl⟩
  rw [hl] at h
  obtain ⟨_, rfl⟩ := h
  exact ccrc_one l i x hi hx
theorem recRd_ok {s : List UInt8} (h : (recRd s).2 = true) : s.length = 64 ∧ crcOk s = true := by
  unfold recRd at h
  simp only [Bool.and_eq_true] at h
  have h0 : (openL 1 s).isSome = true := h.1.1
  unfold openL at h0
  split at h0
  · rename_i h1
    have h2 := h1.1
    unfold wholeL at h2
    simp only [Bool.and_eq_true, decide_eq_true_eq] at h2
    exact ⟨h2.1, h2.2.1⟩
  · simp at h0
theorem recRd_one {s : List UInt8} (h : (recRd s).2 = true) (i : Nat) (x : UInt8) (hi : i < s.length) (hx : s[i] ≠ x) : (recRd (s.set i x)).2 = false := by
  have hc := crcOk_one s (recRd_ok h).2 i x hi hx
  have ho : openL 1 (s.set i x) = none := by unfold openL wholeL; rw [hc]; simp
  unfold recRd
  rw [ho]
  rfl
theorem cxor_other (x o : UInt8) (h : x ^^^ o = x) : o = 0 := by
  have := congrArg (x ^^^ ·) h
  simpa [← UInt8.xor_assoc] using this

theorem cAt_rd {D : Dk} {i : Nat} (h : cAt D i ≠ Rec.zero) : (recRd (D.at_ i)).2 = true := by
  unfold cAt at h
  split at h
  · rename_i h1; exact h1.1
  · exact absurd rfl h
theorem rN_ne (f : Int) (l : List Rec) (k : Nat) (h1 : 1 ≤ f) : rN f l k ≠ Rec.zero := fun e => by
  have h := congrArg Rec.seqn e
  have hs : (rN f l k).seqn = f + k := rfl
  rw [hs] at h
  have : Rec.zero.seqn = 0 := rfl
  omega

/-- what a Write of one sector makes of a calm disk -/
theorem cwrite_calm {D : Dk} {n : Nat} {a b : Rec} (h : CalmC D n a b) (i : Nat) (hi : i < n) (l : List UInt8) (hl : l.length = 64) : D.write (i : Int) l = ({ D with left := 0, cache := [(i, l)] }, 0) := by
  obtain ⟨up, sec, cache, left, stay⟩ := D
  have hu := h.up; have hlf := h.left; have hc := h.cache; have hln := h.len
  simp only at hu hlf hc hln
  subst hu hlf hc
  unfold Dk.write Dk.operate
  simp only [Bool.true_eq_false, if_false]
  rw [if_neg (by omega), if_neg (by omega)]
  simp [upd]
  decide
/-- the sector that was written, and the other one -/
theorem cAt_new {D : Dk} (i : Nat) (l : List UInt8) (h : (recRd l).2 = false) : cAt { D with left := 0, cache := [(i, l)] } i = Rec.zero := by
  unfold cAt
  have : ({ D with left := 0, cache := [(i, l)] } : Dk).at_ i = l := by simp [Dk.at_, look]
  rw [this, h]
  simp
theorem cAt_old {D : Dk} (hc : D.cache = []) (i j : Nat) (l : List UInt8) (h : j ≠ i) : cAt { D with left := 0, cache := [(i, l)] } j = cAt D j := by
  unfold cAt
  have : ({ D with left := 0, cache := [(i, l)] } : Dk).at_ j = D.at_ j := by
    rw [cat_calm hc]
    simp [Dk.at_, look, Ne.symm h]
  rw [this]
/-- what Get tells of one record -/
def oneTell (p : Rec) : Rec × Rec × Int := (p, Rec.zero, if p = Rec.zero then 160 else 0)
theorem cTell_0 (p : Rec) (h : 0 ≤ p.seqn) : cTell p Rec.zero = oneTell p := by
  have hz : Rec.zero.seqn = 0 := rfl
  unfold cTell oneTell
  rw [if_neg (show ¬ p.seqn < Rec.zero.seqn by omega)]
  simp only
  by_cases hp : p = Rec.zero
  · rw [if_pos hp, if_pos hp]
  · rw [if_neg hp, if_neg hp]
    split <;> rfl
theorem cTell_1 (p : Rec) (h : 1 ≤ p.seqn ∨ p = Rec.zero) : cTell Rec.zero p = oneTell p := by
  have hz : Rec.zero.seqn = 0 := rfl
  rcases h with h | h
  · have hp : p ≠ Rec.zero := fun e => by rw [e] at h; omega
    unfold cTell oneTell
    rw [if_pos (show Rec.zero.seqn < p.seqn by omega)]
    simp only
    rw [if_neg hp, if_neg hp]
    split <;> rfl
  · rw [h]; exact cTell_0 _ (by omega)

theorem prevR_sq (f : Int) (l : List Rec) (k : Nat) (h1 : 1 ≤ f) : 1 ≤ (prevR f l k).seqn ∨ prevR f l k = Rec.zero := by
  unfold prevR
  by_cases h : k = 0
  · rw [if_pos h]; exact .inr rfl
  · rw [if_neg h]
    have : (rN f l (k - 1)).seqn = f + ((k - 1 : Nat) : Int) := rfl
    exact .inl (by omega)

/-- the disk behind it: the last record's sector is none, the other one as it was -/
theorem other_tell {D : Dk} (f : Int) (l : List Rec) (k i : Nat) (h1 : 1 ≤ f) (hi : (i : Int) = (f + k) % 2) (h : CalmC D 3 (stAt f l (k + 1)).1 (stAt f l (k + 1)).2) (s : List UInt8) (hs : (recRd s).2 = false) :
    cTell (cAt { D with left := 0, cache := [(i, s)] } 0) (cAt { D with left := 0, cache := [(i, s)] } 1) = oneTell (prevR f l k) := by
  have h0 := h.rec0
  have h2 := h.rec1
  rw [stAt_is] at h0 h2
  have hp := prevR_sq f l k h1
  by_cases he : (f + (k : Int)) % 2 = 0
  · rw [if_pos he] at h0 h2
    obtain rfl : i = 0 := by omega
    rw [cAt_new 0 s hs, cAt_old h.cache 0 1 s (by omega), h2]
    exact cTell_1 _ hp
  · rw [if_neg he] at h0 h2
    obtain rfl : i = 1 := by omega
    rw [cAt_new 1 s hs, cAt_old h.cache 1 0 s (by omega), h0]
    refine cTell_0 _ ?_
    show 0 ≤ (prevR f l k).seqn
    rcases hp with hp | hp
    · omega
    · rw [hp]; exact Int.le_refl _
/-- the last record's sector is one -/
theorem other_rd {D : Dk} (f : Int) (l : List Rec) (k i : Nat) (h1 : 1 ≤ f) (hi : (i : Int) = (f + k) % 2) (h : CalmC D 3 (stAt f l (k + 1)).1 (stAt f l (k + 1)).2) : (recRd (D.at_ i)).2 = true := by
  apply cAt_rd
  have h0 := h.rec0
  have h2 := h.rec1
  rw [stAt_is] at h0 h2
  by_cases he : (f + (k : Int)) % 2 = 0
  · rw [if_pos he] at h0 h2
    obtain rfl : i = 0 := by omega
    rw [h0]; exact rN_ne f l k h1
  · rw [if_neg he] at h0 h2
    obtain rfl : i = 1 := by omega
    rw [h2]; exact rN_ne f l k h1
end Go.Proofs.YthhbdejagglgbaaGreat
