/- CheckPlays, part 10 of 27: contracts of the functions that it reaches, and the laws that they need, merged and shortened (from my texts XRk, XDiskW, XRef06, XRkMid, XRef06b, XDiskS). -/
import Derived.Test.YtkgnlobabknkcaaGreatMgCheckPlaysA
import Derived.Test.YtkgnlobabknkcaaGreatMgCheckPlaysE
import Derived.Test.YtkgnlobabknkcaaGreatMgCheckPlaysG
import Derived.Test.YtkgnlobabknkcaaGreatMgCheckPlaysI
import Derived.StillTailTactics
namespace Go.Proofs.YtkgnlobabknkcaaGreat
set_option linter.unusedVariables false
set_option linter.unusedSimpArgs false
set_option maxHeartbeats 8000000
set_option maxRecDepth 100000
section
structure Rk where
 l : List (List UInt8 × Option (List UInt8))
 down : Bool
 left : Int
 stay : List UInt8
namespace Rk
def fallL (stay : List UInt8) : Nat → List (List UInt8 × Option (List UInt8)) → List (List UInt8 × Option (List UInt8))
 | _, [] => []
 | n, (f, none) :: t => (f, none) :: fallL stay n t
 | n, (f, some c) :: t => ((if Dk.bit stay n then c else f), none) :: fallL stay (n + 1) t
def fall (E : Rk) (stay : List UInt8) : Rk := ⟨fallL stay 0 E.l, true, 0, []⟩
def falls (E : Rk) : Rk × Bool :=
 if E.left = 0 then (E, false) else if 0 < E.left - 1 then ({ E with left := E.left - 1 }, false) else (E.fall E.stay, true)
def write (E : Rk) (i : Int) (b : List UInt8) : Rk × Int :=
 if E.down = true then (E, 60)
 else if ¬ (0 ≤ i ∧ i < E.l.length) then (E, 61)
 else if b.length ≠ 64 then (E, 2)
 else if E.falls.2 = true then (E.falls.1, 60)
 else ({ E.falls.1 with l := E.falls.1.l.set i.toNat ((E.falls.1.l.getD i.toNat ([], none)).1, some b) }, 0)
def flushL (l : List (List UInt8 × Option (List UInt8))) : List (List UInt8 × Option (List UInt8)) := l.map fun x => (x.2.getD x.1, none)
def flush (E : Rk) : Rk × Int :=
 if E.down = true then (E, 60)
 else if E.falls.2 = true then (E.falls.1, 60)
 else ({ E.falls.1 with l := flushL E.falls.1.l }, 0)
def crash (E : Rk) (stay : List UInt8) : Rk × Int := if E.down = true then (E, 60) else (E.fall stay, 0)
def arm (E : Rk) (n : Int) (stay : List UInt8) : Rk × Int := if E.down = true then (E, 60) else if n < 1 then (E, 2) else ({ E with left := n, stay := stay }, 0)
def start (E : Rk) : Rk × Int := if E.down = true then ({ E with down := false }, 0) else (E, 2)
def new (n : Nat) : Rk := ⟨List.replicate n (List.replicate 64 0, none), false, 0, []⟩
end Rk
structure DSame (D : Dk) (E : Rk) : Prop where
 fl : E.l.map (·.1) = D.sec
 ca : ∀ i, (E.l[i]?).bind (·.2) = look D.cache i
 up : D.up = !E.down
 left : D.left = E.left
 stay : D.stay = E.stay
theorem DSame.len {D : Dk} {E : Rk} (h : DSame D E) : E.l.length = D.sec.length := by rw [← h.fl, List.length_map]
theorem new_same (n : Nat) : DSame (Dk.new n) (Rk.new n) := by
 refine ⟨by simp [Rk.new, Dk.new], ?_, rfl, rfl, rfl⟩
 intro i
 simp only [Rk.new, Dk.new, look, List.find?_nil, Option.map_none, List.getElem?_replicate]
 split <;> rfl
theorem look_isSome {m : List (Nat × List UInt8)} {i : Nat} : (look m i).isSome = true ↔ i ∈ m.map (·.1) := by
 unfold look
 rw [Option.isSome_map, List.find?_isSome]
 simp
theorem dirty_filter {D : Dk} (h : D.Ok) : dirty D.cache = (List.range D.sec.length).filter fun i => (look D.cache i).isSome := by
 have hp : (dirty D.cache).Perm ((List.range D.sec.length).filter fun i => (look D.cache i).isSome) := by
  refine (List.mergeSort_perm _ _).trans ?_
  refine (List.perm_ext_iff_of_nodup h.nodup (List.Pairwise.filter _ List.nodup_range)).2 ?_
  intro i
  rw [List.mem_filter, List.mem_range, look_isSome]
  constructor
  ·intro hi
   refine ⟨?_, hi⟩
   obtain ⟨q, hq, rfl⟩ := List.mem_map.1 hi
   exact (h.keys q hq).1
  ·exact fun hi => hi.2
 have h1 : (dirty D.cache).Pairwise (fun a b => a ≤ b) := by
  have := List.pairwise_mergeSort (le := fun a b : Nat => decide (a ≤ b)) (by intro a b c; simp; omega) (by intro a b; simp; omega) (D.cache.map (·.1))
  exact this.imp (by intro a b hab; simpa using hab)
 have h2 : ((List.range D.sec.length).filter fun i => (look D.cache i).isSome).Pairwise (fun a b => a ≤ b) := List.Pairwise.filter _ (List.pairwise_le_range)
 exact hp.eq_of_pairwise (fun a b _ _ h1 h2 => Nat.le_antisymm h1 h2) h1 h2
theorem filter_range_at (p : Nat → Bool) (N j : Nat) (hj : j < N) (hp : p j = true) : ((List.range N).filter p)[(List.range j).countP p]? = some j := by
 obtain ⟨k, rfl⟩ : ∃ k, N = j + (1 + k) := ⟨N - j - 1, by omega⟩
 rw [List.range_add, List.filter_append, List.countP_eq_length_filter, List.getElem?_append_right (Nat.le_refl _), Nat.sub_self, Nat.add_comm 1 k, List.range_succ_eq_map, List.map_cons, Nat.add_zero, List.filter_cons_of_pos hp]
 rfl
theorem spill_in {D : Dk} (h : D.Ok) (st : Nat → Bool) {m j : Nat} (hm : (dirty D.cache)[m]? = some j) (hj : j < D.sec.length) (hn : (dirty D.cache).Nodup) : ∀ n, (D.spillTo st n).length = D.sec.length ∧ (D.spillTo st n)[j]? = if m < n ∧ st m = true then some ((look D.cache j).getD []) else D.sec[j]? := by
 intro n
 induction n with
 | zero => exact ⟨rfl, by rw [if_neg (by omega)]; rfl⟩
 | succ n ih =>
  unfold Dk.spillTo
  cases hd : (dirty D.cache)[n]? with
  | none =>
   have hml : m < (dirty D.cache).length := (List.getElem?_eq_some_iff.1 hm).1
   have hnl : (dirty D.cache).length ≤ n := List.getElem?_eq_none_iff.1 hd
   refine ⟨ih.1, ?_⟩
   show (D.spillTo st n)[j]? = _
   rw [ih.2]
   have e : (m < n ∧ st m = true) ↔ (m < n + 1 ∧ st m = true) := by constructor <;> (intro hx; exact ⟨by omega, hx.2⟩)
   simp only [e]
  | some k =>
   simp only
   by_cases hst : st n = true
   ·rw [if_pos hst]
    refine ⟨by rw [List.length_set]; exact ih.1, ?_⟩
    rw [List.getElem?_set]
    by_cases hk : k = j
    ·subst hk
     have hnm : m = n := by
      obtain ⟨h1, e1⟩ := List.getElem?_eq_some_iff.1 hm
      obtain ⟨h2, e2⟩ := List.getElem?_eq_some_iff.1 hd
      have hp := List.pairwise_iff_getElem.1 hn
      rcases Nat.lt_trichotomy m n with hx | hx | hx
      ·exact absurd (e1.trans e2.symm) (hp m n h1 h2 hx)
      ·exact hx
      ·exact absurd (e2.trans e1.symm) (hp n m h2 h1 hx)
     subst hnm
     rw [if_pos rfl, if_pos (by rw [ih.1]; exact hj), if_pos ⟨by omega, hst⟩]
    ·rw [if_neg hk, ih.2]
     have hne : m ≠ n := by rintro rfl; rw [hm] at hd; injection hd with hd; exact hk hd.symm
     have e : (m < n ∧ st m = true) ↔ (m < n + 1 ∧ st m = true) := by constructor <;> (intro hx; exact ⟨by omega, hx.2⟩)
     simp only [e]
   ·rw [if_neg hst]
    refine ⟨ih.1, ?_⟩
    rw [ih.2]
    by_cases hmn : m = n
    ·subst hmn
     rw [if_neg (by omega), if_neg (fun hx => hst hx.2)]
    ·have e : (m < n ∧ st m = true) ↔ (m < n + 1 ∧ st m = true) := by constructor <;> (intro hx; exact ⟨by omega, hx.2⟩)
     simp only [e]
theorem spill_out {D : Dk} (st : Nat → Bool) {j : Nat} (hj : j ∉ dirty D.cache) : ∀ n, (D.spillTo st n)[j]? = D.sec[j]? := by
 intro n
 induction n with
 | zero => rfl
 | succ n ih =>
  unfold Dk.spillTo
  cases hd : (dirty D.cache)[n]? with
  | none => exact ih
  | some k =>
   simp only
   split
   ·rw [List.getElem?_set_ne (by rintro rfl; exact hj (List.mem_of_getElem? hd)), ih]
   ·exact ih
theorem fallL_at (stay : List UInt8) : ∀ (l : List (List UInt8 × Option (List UInt8))) (n j : Nat), (Rk.fallL stay n l)[j]? = (l[j]?).map fun x => match x.2 with
  | none => (x.1, none)
  | some c => ((if Dk.bit stay (n + (List.range j).countP fun i => ((l[i]?).bind (·.2)).isSome) then c else x.1), none) := by
 intro l
 induction l with
 | nil => intro n j; simp [Rk.fallL]
 | cons x t ih =>
  intro n j
  obtain ⟨f, c⟩ := x
  cases j with
  | zero =>
   cases c with
   | none => simp [Rk.fallL]
   | some c => by_cases hb : Dk.bit stay n = true <;> simp [Rk.fallL, hb]
  | succ j =>
   have hc : (List.range (j + 1)).countP (fun i => ((((f, c) :: t)[i]?).bind (·.2)).isSome) = (if c.isSome then 1 else 0) + (List.range j).countP fun i => ((t[i]?).bind (·.2)).isSome := by
    rw [List.range_succ_eq_map, List.countP_cons, List.countP_map]
    simp only [List.getElem?_cons_zero, Option.bind_some]
    have e : ((fun i => ((((f, c) :: t)[i]?).bind (·.2)).isSome) ∘ Nat.succ) = fun i => ((t[i]?).bind (·.2)).isSome := by funext i; simp
    rw [e, Nat.add_comm]
   rw [hc]
   cases c with
   | none =>
    show (Rk.fallL stay n t)[j]? = _
    rw [ih]
    simp
   | some c =>
    show (Rk.fallL stay (n + 1) t)[j]? = _
    rw [ih]
    simp [Nat.add_assoc]
theorem fallL_len (stay : List UInt8) : ∀ (l : List (List UInt8 × Option (List UInt8))) (n : Nat), (Rk.fallL stay n l).length = l.length := by
 intro l
 induction l with
 | nil => intro n; rfl
 | cons x t ih =>
  intro n
  obtain ⟨f, c⟩ := x
  cases c <;> simp [Rk.fallL, ih]
theorem dirty_nodup {D : Dk} (h : D.Ok) : (dirty D.cache).Nodup := (List.mergeSort_perm _ _).nodup_iff.2 h.nodup
theorem spillTo_all {D : Dk} (h : D.Ok) (st : Nat → Bool) (j : Nat) : (D.spillTo st D.cache.length)[j]? = if (look D.cache j).isSome = true ∧ st ((List.range j).countP fun i => (look D.cache i).isSome) = true then look D.cache j else D.sec[j]? := by
 have hdl : (dirty D.cache).length = D.cache.length := (List.mergeSort_perm _ _).length_eq.trans (List.length_map _)
 by_cases hl : (look D.cache j).isSome = true
 ·have hj : j < D.sec.length := by
   obtain ⟨q, hq, rfl⟩ := List.mem_map.1 (look_isSome.1 hl)
   exact (h.keys q hq).1
  have hm : (dirty D.cache)[(List.range j).countP fun i => (look D.cache i).isSome]? = some j := by
   rw [dirty_filter h]
   exact filter_range_at _ _ j hj hl
  rw [(spill_in h st hm hj (dirty_nodup h) _).2]
  have hlt := (List.getElem?_eq_some_iff.1 hm).1
  rw [hdl] at hlt
  obtain ⟨v, hv⟩ := Option.isSome_iff_exists.1 hl
  by_cases hst : st ((List.range j).countP fun i => (look D.cache i).isSome) = true
  ·rw [if_pos ⟨hlt, hst⟩, if_pos ⟨hl, hst⟩, hv]; rfl
  ·rw [if_neg (fun x => hst x.2), if_neg (fun x => hst x.2)]
 ·rw [if_neg (fun x => hl x.1)]
  refine spill_out st ?_ _
  intro hd
  exact hl (look_isSome.2 ((List.mergeSort_perm _ _).mem_iff.1 hd))
theorem fall_same {D : Dk} {E : Rk} (hok : D.Ok) (h : DSame D E) (stay : List UInt8) : DSame (D.fall stay) (E.fall stay) := by
 refine ⟨?_, ?_, rfl, rfl, rfl⟩
 ·show (Rk.fallL stay 0 E.l).map (·.1) = D.spillTo (Dk.bit stay) D.cache.length
  apply List.ext_getElem?
  intro j
  have hca : (fun i => ((E.l[i]?).bind (·.2)).isSome) = fun i => (look D.cache i).isSome := by funext i; rw [h.ca]
  have hs : D.sec[j]? = (E.l[j]?).map (·.1) := by rw [← h.fl, List.getElem?_map]
  rw [spillTo_all hok, List.getElem?_map, fallL_at, hca, Nat.zero_add, ← h.ca j, hs]
  cases E.l[j]? with
  | none => simp
  | some x =>
   obtain ⟨f, c⟩ := x
   cases c with
   | none => simp
   | some c =>
    simp only [Option.map_some, Option.bind_some, Option.isSome_some, true_and]
    split <;> simp_all
 ·intro i
  show ((Rk.fallL stay 0 E.l)[i]?).bind (·.2) = look [] i
  rw [fallL_at]
  cases E.l[i]? with
  | none => rfl
  | some x => obtain ⟨f, c⟩ := x; cases c <;> rfl
theorem falls_same {D : Dk} {E : Rk} (hok : D.Ok) (h : DSame D E) :
  (D.left = 1 ∧ E.falls.2 = true ∧ DSame (D.fall D.stay) E.falls.1) ∨ (D.left ≠ 1 ∧ E.falls.2 = false ∧ DSame { D with left := max (D.left - 1) 0 } E.falls.1 ∧ E.falls.1.l = E.l ∧ E.falls.1.down = E.down) := by
 have h0 := hok.left0
 have hl := h.left
 unfold Rk.falls
 by_cases h1 : D.left = 1
 ·left
  rw [if_neg (by omega), if_neg (by omega)]
  refine ⟨h1, rfl, ?_⟩
  rw [← h.stay]
  exact fall_same hok h D.stay
 ·right
  by_cases h2 : E.left = 0
  ·rw [if_pos h2]
   exact ⟨h1, rfl, ⟨h.fl, h.ca, h.up, by show max (D.left - 1) 0 = E.left; omega, h.stay⟩, rfl, rfl⟩
  ·rw [if_neg h2, if_pos (by omega)]
   exact ⟨h1, rfl, ⟨h.fl, h.ca, h.up, by show max (D.left - 1) 0 = E.left - 1; omega, h.stay⟩, rfl, rfl⟩
theorem up_iff {D : Dk} {E : Rk} (h : DSame D E) : (D.up = false) = (E.down = true) := by
 rw [h.up]
 cases E.down <;> simp
theorem write_same {D : Dk} {E : Rk} (hok : D.Ok) (h : DSame D E) (i : Int) (b : List UInt8) : DSame (D.write i b).1 (E.write i b).1 ∧ (D.write i b).2 = (E.write i b).2 := by
 unfold Dk.write Rk.write
 simp only [up_iff h, h.len]
 split
 ·exact ⟨h, rfl⟩
 split
 ·exact ⟨h, rfl⟩
 rename_i hi
 split
 ·exact ⟨h, rfl⟩
 unfold Dk.operate
 rcases falls_same hok h with ⟨h1, h2, h3⟩ | ⟨h1, h2, h3, h4, h5⟩
 ·rw [if_pos h1, if_pos h2]
  exact ⟨h3, rfl⟩
 ·rw [if_neg h1, if_neg (by rw [h2]; simp)]
  have hi' : i.toNat < E.falls.1.l.length := by rw [h4, h.len]; omega
  refine ⟨⟨?_, ?_, h3.up, h3.left, h3.stay⟩, rfl⟩
  ·show (E.falls.1.l.set i.toNat _).map (·.1) = D.sec
   rw [← h3.fl]
   apply List.ext_getElem?
   intro j
   rw [List.getElem?_map, List.getElem?_map, List.getElem?_set]
   split
   ·rename_i e
    subst e
    rw [List.getElem?_eq_getElem hi', List.getD_eq_getElem?_getD, List.getElem?_eq_getElem hi']
    rfl
   ·rfl
  ·intro j
   show ((E.falls.1.l.set i.toNat _)[j]?).bind (·.2) = look (upd D.cache i.toNat b) j
   rw [look_upd, List.getElem?_set]
   by_cases e : i.toNat = j
   ·rw [if_pos e, if_pos e.symm, if_pos hi']
    rfl
   ·rw [if_neg e, if_neg (fun x => e x.symm)]
    exact h3.ca j
theorem flush_same {D : Dk} {E : Rk} (hok : D.Ok) (h : DSame D E) : DSame D.flush.1 E.flush.1 ∧ D.flush.2 = E.flush.2 := by
 unfold Dk.flush Rk.flush
 simp only [up_iff h]
 split
 ·exact ⟨h, rfl⟩
 unfold Dk.operate
 rcases falls_same hok h with ⟨h1, h2, h3⟩ | ⟨h1, h2, h3, h4, h5⟩
 ·rw [if_pos h1, if_pos h2]
  exact ⟨h3, rfl⟩
 ·rw [if_neg h1, if_neg (by rw [h2]; simp)]
  have hok' : Dk.Ok { D with left := max (D.left - 1) 0 } := ⟨hok.secs, hok.keys, hok.nodup, hok.most, by show 0 ≤ max (D.left - 1) 0; omega⟩
  refine ⟨⟨?_, ?_, h3.up, h3.left, h3.stay⟩, rfl⟩
  ·show (Rk.flushL E.falls.1.l).map (·.1) = Dk.spillTo { D with left := max (D.left - 1) 0 } (fun _ => true) D.cache.length
   apply List.ext_getElem?
   intro j
   have hs := spillTo_all hok' (fun _ => true) j
   rw [hs]
   simp only [and_true]
   rw [Rk.flushL, List.map_map, List.getElem?_map, ← h3.ca j, ← h3.fl, List.getElem?_map]
   cases E.falls.1.l[j]? with
   | none => rfl
   | some x =>
    obtain ⟨f, c⟩ := x
    cases c <;> simp
  ·intro j
   show ((Rk.flushL E.falls.1.l)[j]?).bind (·.2) = look [] j
   rw [Rk.flushL, List.getElem?_map]
   cases E.falls.1.l[j]? <;> rfl
theorem crash_same {D : Dk} {E : Rk} (hok : D.Ok) (h : DSame D E) (stay : List UInt8) : DSame (D.crash stay).1 (E.crash stay).1 ∧ (D.crash stay).2 = (E.crash stay).2 := by
 unfold Dk.crash Rk.crash
 simp only [up_iff h]
 split
 ·exact ⟨h, rfl⟩
 ·exact ⟨fall_same hok h stay, rfl⟩
theorem arm_same {D : Dk} {E : Rk} (h : DSame D E) (n : Int) (stay : List UInt8) : DSame (D.arm n stay).1 (E.arm n stay).1 ∧ (D.arm n stay).2 = (E.arm n stay).2 := by
 unfold Dk.arm Rk.arm
 simp only [up_iff h]
 split
 ·exact ⟨h, rfl⟩
 split
 ·exact ⟨h, rfl⟩
 ·exact ⟨⟨h.fl, h.ca, h.up, rfl, rfl⟩, rfl⟩
theorem start_same {D : Dk} {E : Rk} (h : DSame D E) : DSame D.start.1 E.start.1 ∧ D.start.2 = E.start.2 := by
 unfold Dk.start Rk.start
 have hu := h.up
 cases hd : E.down with
 | true =>
  rw [hd] at hu
  rw [if_neg (by rw [hu]; simp), if_pos rfl]
  exact ⟨⟨h.fl, h.ca, rfl, h.left, h.stay⟩, rfl⟩
 | false =>
  rw [hd] at hu
  rw [if_pos (by rw [hu]; rfl), if_neg (by simp)]
  exact ⟨h, rfl⟩
theorem at_same {D : Dk} {E : Rk} (h : DSame D E) (i : Nat) (f : List UInt8) (c : Option (List UInt8)) (hi : E.l[i]? = some (f, c)) : D.at_ i = c.getD f ∧ D.sec.getD i [] = f := by
 have hs : D.sec[i]? = some f := by rw [← h.fl, List.getElem?_map, hi]; rfl
 have hc : look D.cache i = c := by rw [← h.ca i, hi]; rfl
 unfold Dk.at_
 rw [hc, List.getD_eq_getElem?_getD, hs]
 exact ⟨rfl, rfl⟩
end
section
open Go.RowKit
theorem chg_field {w : World} {pd ps pm i : Nat} {v : Value} : Chg (DS pd ps pm) w (w.setCell ⟨pd, i, none⟩ v) := (Chg.refl (DS pd ps pm) _).setCell (p := ⟨pd, i, none⟩) (.inl (.inl rfl)) _
theorem IsD.setStay {w : World} {pd ps pm c1 : Nat} {D : Dk} {A1 : Option Addr} {l : List UInt8} (h : IsD w pd ps pm D) (hr : Rd w A1 l) (hne : ∀ b o, A1 = some ⟨b, o, none⟩ → l ≠ [] → b ≠ ps) (hc : l.length ≤ c1) (hm : c1 ≤ maxLen) :
  IsD (w.setCell ⟨pd, 4, none⟩ (.slice A1 l.length c1)) pd ps pm { D with stay := l } := by
 have hn := h.ne
 obtain ⟨hok, A, c, h1, h2, h3, h4, h5, h6, h7⟩ := h
 have hg : Chg (fun k => k = pd) w (w.setCell ⟨pd, 4, none⟩ (.slice A1 l.length c1)) := (Chg.refl (fun k => k = pd) _).setCell (p := ⟨pd, 4, none⟩) (.inl rfl) _
 refine ⟨⟨hok.secs, hok.keys, hok.nodup, hok.most, hok.left0⟩, A1, c1, ?_, ?_, ?_, ?_, hne, hc, hm⟩
 ·rw [heap_setCell_same _ _ _ _ _ _ h1]; rfl
 ·exact (hg.block ps (Array.getElem?_eq_some_iff.1 h2).1 (Ne.symm hn.1)).trans h2
 ·exact h3.keep hg (Ne.symm hn.2.1)
 ·exact hr.keep hg (fun b o e hne' => (stay_ne h1 h3 hr b o e hne').1)
theorem Start_any (pd ps pm : Nat) (D : Dk) (w : World) (h : IsD w pd ps pm D) :
  Calls Tryz.prog 27 #[.pointer (some ⟨pd, 0, none⟩)] w fun e w' => e = .returned (.int .i64 D.start.2) ∧ IsD w' pd ps pm D.start.1 ∧ Chg (DS pd ps pm) w w' := by
 obtain ⟨A, c, h0, _⟩ := h.cells
 have f0 := h.free 0
 have HN := Lh (dnone_ok pd ps pm D w h)
 have HD := Lh h
 unfold Dk.start
 cases hu : D.up with
 | true =>
  rw [hu] at h0
  have HU := Lh hu
  clear hu h
  simp only [if_true]
  go_enter Tryz.func27, Tryz.ntmps27
  go_wp2_with fail
  refine HN.out.mono ?_
  rintro e w' ⟨rfl, rfl⟩
  go_wp2
  go_ret
  exact ⟨rfl, HD.out, Chg.refl _ _⟩
 | false =>
  rw [hu] at h0
  have HU := Lh hu
  clear hu h
  simp only [Bool.false_eq_true, if_false]
  go_enter Tryz.func27, Tryz.ntmps27
  go_wp2_with fail
  refine HN.out.mono ?_
  rintro e w' ⟨rfl, rfl⟩
  go_wp2
  go_ret
  have hok := HD.out.1
  exact ⟨rfl, HD.out.set 0 (.bool true) rfl rfl rfl ⟨hok.secs, hok.keys, hok.nodup, hok.most, hok.left0⟩ (fun A c => rfl), chg_field⟩
theorem Arm_up (pd ps pm : Nat) (D : Dk) (n : Int) (B : Option Addr) (l : List UInt8) (cb : Nat) (w : World) (h : IsD w pd ps pm D) (hup : D.up = true) (hr : Rd w B l) (hl : l.length ≤ 140737488351232) (hn : 1 ≤ n) :
  Calls Tryz.prog 26 #[.pointer (some ⟨pd, 0, none⟩), .int .i64 n, .slice B l.length cb] w fun e w' => e = .returned (.int .i64 0) ∧ IsD w' pd ps pm { D with left := n, stay := l } ∧ Chg (DS pd ps pm) w w' := by
 have hrd := ready_ok pd ps pm D w h
 have hr1 : D.ready = 0 := by unfold Dk.ready; rw [hup]; rfl
 rw [hr1] at hrd
 have HR := Lh hrd
 clear hrd hr1
 have HD := Lh h
 have HC := Lh (Clone_any B l cb w hr (by omega))
 have hlt := h.lt
 clear h hr
 go_enter Tryz.func26, Tryz.ntmps26
 go_wp2_with fail
 refine HR.out.mono ?_
 rintro e w' ⟨rfl, rfl⟩
 go_wp2_with fail
 refine HC.out.mono ?_
 rintro e w1 ⟨A1, c1, rfl, hc1, hm1, ho1, hg1⟩
 have h1 := HD.out.non hg1
 obtain ⟨A, c, _, _, _, k3, k4, _⟩ := h1.cells
 have f3 := h1.free 3
 have f4 := h1.free 4
 have H1 := Lh h1
 clear h1
 go_wp2
 go_ret
 have hD := H1.out
 have hok := hD.1
 have hs1 := hD.set 3 (.int .i64 n) (D' := { D with left := n }) rfl rfl rfl ⟨hok.secs, hok.keys, hok.nodup, hok.most, by show 0 ≤ n; omega⟩ (fun A c => rfl)
 have hgs : Chg (fun k => k = pd) w1 (w1.setCell ⟨pd, 3, none⟩ (.int .i64 n)) := (Chg.refl (fun k => k = pd) _).setCell (p := ⟨pd, 3, none⟩) (.inl rfl) _
 have hge : ∀ b o, A1 = some ⟨b, o, none⟩ → l ≠ [] → w.heap.size ≤ b := by
  rintro b o rfl hne
  exact ho1.ge hne
 have hs2 := hs1.setStay (A1 := A1) (l := l) (c1 := c1) (ho1.rd.keep hgs (fun b o e hne e' => by have := hge b o e hne; omega)) (fun b o e hne e' => by have := hge b o e hne; omega) hc1 hm1
 exact ⟨rfl, hs2, (hg1.non_then chg_field).trans_same chg_field⟩
end
section
open Go.RowKit
def KeepB (w w' : World) : Prop := ∀ (b o : Nat) (z : Int), w.cell? ⟨b, o, none⟩ = some (.int .u8 z) → w'.cell? ⟨b, o, none⟩ = some (.int .u8 z) ∧ w'.frozen? ⟨b, o, none⟩ = w.frozen? ⟨b, o, none⟩
theorem KeepB.refl (w : World) : KeepB w w := fun _ _ _ h => ⟨h, rfl⟩
theorem KeepB.trans {a b c : World} (h : KeepB a b) (k : KeepB b c) : KeepB a c := fun x o z hc => by
 obtain ⟨h1, h2⟩ := h x o z hc
 obtain ⟨k1, k2⟩ := k x o z h1
 exact ⟨k1, k2.trans h2⟩
theorem KeepB.non {w w' : World} (h : Chg Non w w') : KeepB w w' := fun b o z hc => ⟨h.cell_some hc (fun e => e), h.frozen (lt_of_cell hc) (fun e => e)⟩
theorem setCell_blk {w : World} {g i : Nat} {cs : Array Value} {t : TypeId} {fr : Nat × Nat} (u : Value) (h : w.heap[g]? = some (.cells cs t fr)) : (w.setCell ⟨g, i, none⟩ u).heap[g]? = some (.cells (cs.setIfInBounds i u) t fr) := by
 have hlt := (Array.getElem?_eq_some_iff.1 h).1
 have h' : w.heap[g] = .cells cs t fr := by simpa [Array.getElem?_eq_getElem hlt] using h
 show (w.heap.modify g _)[g]? = _
 rw [Array.getElem?_eq_getElem (by simpa using hlt), Array.getElem_modify_self, h']
 rfl
theorem keepB_set {w : World} {x j : Nat} (v : Value) (h : ∀ z, w.cell? ⟨x, j, none⟩ ≠ some (.int .u8 z)) : KeepB w (w.setCell ⟨x, j, none⟩ v) := by
 intro b o z hc
 by_cases e : b = x
 ·subst e
  cases hb : w.heap[b]? with
  | none => simp [World.cell?, hb] at hc
  | some ob =>
   cases ob with
   | cells cs t fr =>
    have h2 := setCell_blk (i := j) v hb
    have hne : o ≠ j := by rintro rfl; exact h z hc
    simp only [World.cell?, World.frozen?, hb, h2] at hc ⊢
    exact ⟨by rw [Array.getElem?_setIfInBounds_ne (fun e => hne e.symm)]; exact hc, trivial⟩
   | _ => simp [World.cell?, hb] at hc
 ·have hg : Chg (fun k => k = x) w (w.setCell ⟨x, j, none⟩ v) := (Chg.refl (fun k => k = x) _).setCell (p := ⟨x, j, none⟩) (.inl rfl) v
  exact ⟨hg.cell_some hc e, hg.frozen (lt_of_cell hc) e⟩
theorem Rd.keepB {w w' : World} {A : Option Addr} {l : List UInt8} (h : Rd w A l) (hk : KeepB w w') : Rd w' A l := by
 intro i x hx
 obtain ⟨b, o, rfl, hc⟩ := h i x hx
 exact ⟨b, o, rfl, (hk _ _ _ hc).1⟩
theorem Own.keepB {B : Nat} {w w' : World} {A : Option Addr} {l : List UInt8} (h : Own B w A l) (hk : KeepB w w') : Own B w' A l := by
 intro i x hx
 obtain ⟨b, o, rfl, hb, hc, hf⟩ := h i x hx
 exact ⟨b, o, rfl, hb, (hk _ _ _ hc).1, (hk _ _ _ hc).2.trans hf⟩
def SecV (B : Nat) (w : World) (v : Value) (f : List UInt8) : Prop := ∃ b o k, v = .slice (some ⟨b, o, none⟩) 64 k ∧ 64 ≤ k ∧ k ≤ maxLen ∧ Own B w (some ⟨b, o, none⟩) f ∧ f.length = 64
def CacV (B : Nat) (w : World) (v : Value) : Option (List UInt8) → Prop
 | none => v = .slice none 0 0
 | some c => SecV B w v c
theorem SecV.keep {S : Nat → Prop} {B : Nat} {w w' : World} {v : Value} {f : List UInt8} (h : SecV B w v f) (hg : Chg S w w') (hS : ∀ x, S x → x < B) : SecV B w' v f := by
 obtain ⟨b, o, k, h1, h2, h3, h4, h5⟩ := h
 exact ⟨b, o, k, h1, h2, h3, h4.keep hg (fun b o _ hb _ hs => absurd (hS b hs) (by omega)), h5⟩
theorem SecV.keepB {B : Nat} {w w' : World} {v : Value} {f : List UInt8} (h : SecV B w v f) (hk : KeepB w w') : SecV B w' v f := by
 obtain ⟨b, o, k, h1, h2, h3, h4, h5⟩ := h
 exact ⟨b, o, k, h1, h2, h3, h4.keepB hk, h5⟩
theorem CacV.keep {S : Nat → Prop} {B : Nat} {w w' : World} {v : Value} {c : Option (List UInt8)} (h : CacV B w v c) (hg : Chg S w w') (hS : ∀ x, S x → x < B) : CacV B w' v c := by
 cases c with
 | none => exact h
 | some c => exact SecV.keep h hg hS
theorem CacV.keepB {B : Nat} {w w' : World} {v : Value} {c : Option (List UInt8)} (h : CacV B w v c) (hk : KeepB w w') : CacV B w' v c := by
 cases c with
 | none => exact h
 | some c => exact SecV.keepB h hk
theorem SecV.isSl {B : Nat} {w : World} {v : Value} {f : List UInt8} (h : SecV B w v f) : ∃ A n c, v = .slice A n c := by
 obtain ⟨b, o, k, h1, _⟩ := h
 exact ⟨_, _, _, h1⟩
theorem CacV.isSl {B : Nat} {w : World} {v : Value} {c : Option (List UInt8)} (h : CacV B w v c) : ∃ A n c, v = .slice A n c := by
 cases c with
 | none => exact ⟨_, _, _, h⟩
 | some c => exact SecV.isSl h
def RowIs (B : Nat) (w : World) (vs : Array Value) (L : List (List UInt8 × Option (List UInt8))) : Prop :=
 ∀ i f c, L[i]? = some (f, c) → (∃ v, vs[i * 2]? = some v ∧ SecV B w v f) ∧ (∃ v, vs[i * 2 + 1]? = some v ∧ CacV B w v c)
def rkCells (E : Rk) (q cap : Nat) (A : Option Addr) (c : Nat) : Array Value := #[(.slice (some ⟨q, 0, none⟩) E.l.length cap : Value), .bool E.down, .int .i64 E.left, .slice A E.stay.length c]
def IsRk (B p q : Nat) (w : World) (E : Rk) : Prop :=
 ∃ cap A c vs, w.heap[p]? = some (.cells (rkCells E q cap A c) 52 (0, 0)) ∧ w.heap[q]? = some (.cells vs 63 (0, 0)) ∧ RowIs B w vs E.l ∧ True ∧
  E.l.length ≤ cap ∧ cap ≤ maxLen ∧ Own B w A E.stay ∧ E.stay.length ≤ c ∧ c ≤ maxLen ∧ B ≤ p ∧ B ≤ q
theorem rk_nop {w : World} {p : Nat} {E : Rk} {q cap : Nat} {A : Option Addr} {c : Nat} {t : TypeId} (h : w.heap[p]? = some (.cells (rkCells E q cap A c) t (0, 0))) : ∀ (j : Nat) (z : Int), w.cell? ⟨p, j, none⟩ ≠ some (.int .u8 z) := by
 intro j z hc
 rw [cell_of_row _ _ _ _ _ _ h, rkCells] at hc
 match j, hc with
 | 0, hc => simp at hc
 | 1, hc => simp at hc
 | 2, hc => simp at hc
 | 3, hc => simp at hc
 | n + 4, hc => simp at hc
theorem rk_noq {B : Nat} {w : World} {q : Nat} {vs : Array Value} {t : TypeId} {L : List (List UInt8 × Option (List UInt8))} (h : w.heap[q]? = some (.cells vs t (0, 0))) (hr : RowIs B w vs L) : ∀ (j : Nat), j < L.length * 2 → ∀ (z : Int), w.cell? ⟨q, j, none⟩ ≠ some (.int .u8 z) := by
 intro j hj z hc
 rw [cell_of_row _ _ _ _ _ _ h] at hc
 obtain ⟨⟨f, c⟩, hx⟩ : ∃ x, L[j / 2]? = some x := ⟨_, List.getElem?_eq_getElem (by omega)⟩
 obtain ⟨⟨v1, k1, k2⟩, ⟨v2, k3, k4⟩⟩ := hr _ _ _ hx
 rcases Nat.mod_two_eq_zero_or_one j with e | e
 ·rw [show j / 2 * 2 = j by omega, hc] at k1
  obtain ⟨A, n, c, e2⟩ := k2.isSl
  injection k1 with k1
  rw [← k1] at e2
  cases e2
 ·rw [show j / 2 * 2 + 1 = j by omega, hc] at k3
  obtain ⟨A, n, c, e2⟩ := k4.isSl
  injection k3 with k3
  rw [← k3] at e2
  cases e2
theorem rk_ne {w : World} {p q : Nat} {a b : Array Value} (h1 : w.heap[p]? = some (.cells a 52 (0, 0))) (h2 : w.heap[q]? = some (.cells b 63 (0, 0))) : p ≠ q := by
 rintro rfl
 rw [h1] at h2
 injection h2 with h2
 injection h2 with _ h2
 exact absurd h2 (by decide)
theorem RowIs.keepB {B : Nat} {w w' : World} {vs : Array Value} {L : List (List UInt8 × Option (List UInt8))} (h : RowIs B w vs L) (hk : KeepB w w') : RowIs B w' vs L := by
 intro i f c hi
 obtain ⟨⟨v1, h1, h2⟩, ⟨v2, h3, h4⟩⟩ := h i f c hi
 exact ⟨⟨v1, h1, h2.keepB hk⟩, ⟨v2, h3, h4.keepB hk⟩⟩
namespace IsRk
variable {B p q : Nat} {w w' : World} {E : Rk}
theorem keep {S : Nat → Prop} (h : IsRk B p q w E) (hg : Chg S w w') (hS : ∀ x, S x → x < B) : IsRk B p q w' E := by
 obtain ⟨cap, A, c, vs, h1, h2, h3, h4, h5, h6, h7, h8, h9, hp, hq⟩ := h
 refine ⟨cap, A, c, vs, ?_, ?_, ?_, h4, h5, h6, h7.keep hg (fun b o _ hb _ hs => absurd (hS b hs) (by omega)), h8, h9, hp, hq⟩
 ·exact (hg.block p (Array.getElem?_eq_some_iff.1 h1).1 (fun e => absurd (hS p e) (by omega))).trans h1
 ·exact (hg.block q (Array.getElem?_eq_some_iff.1 h2).1 (fun e => absurd (hS q e) (by omega))).trans h2
 ·intro i f c hi
  obtain ⟨⟨v1, h1, h2⟩, ⟨v2, h3, h4⟩⟩ := h3 i f c hi
  exact ⟨⟨v1, h1, h2.keep hg hS⟩, ⟨v2, h3, h4.keep hg hS⟩⟩
theorem non (h : IsRk B p q w E) (hg : Chg Non w w') : IsRk B p q w' E := h.keep hg (fun _ e => e.elim)
theorem lt (h : IsRk B p q w E) : p < w.heap.size ∧ q < w.heap.size := by
 obtain ⟨cap, A, c, vs, h1, h2, _⟩ := h
 exact ⟨(Array.getElem?_eq_some_iff.1 h1).1, (Array.getElem?_eq_some_iff.1 h2).1⟩
theorem ge (h : IsRk B p q w E) : B ≤ p ∧ B ≤ q := by
 obtain ⟨cap, A, c, vs, h1, h2, h3, h4, h5, h6, h7, h8, h9, hp, hq⟩ := h
 exact ⟨hp, hq⟩
theorem nobP (h : IsRk B p q w E) : ∀ (j : Nat) (z : Int), w.cell? ⟨p, j, none⟩ ≠ some (.int .u8 z) := by
 obtain ⟨cap, A, c, vs, h1, h2, h3, h4, _⟩ := h
 exact rk_nop h1
theorem nobQ (h : IsRk B p q w E) : ∀ (j : Nat), j < E.l.length * 2 → ∀ (z : Int), w.cell? ⟨q, j, none⟩ ≠ some (.int .u8 z) := by
 obtain ⟨cap, A, c, vs, h1, h2, h3, h4, _⟩ := h
 exact rk_noq h2 h3
theorem cells (h : IsRk B p q w E) : ∃ cap A c, w.cell? ⟨p, 0, none⟩ = some (.slice (some ⟨q, 0, none⟩) E.l.length cap) ∧ w.cell? ⟨p, 1, none⟩ = some (.bool E.down) ∧ w.cell? ⟨p, 2, none⟩ = some (.int .i64 E.left) ∧
  w.cell? ⟨p, 3, none⟩ = some (.slice A E.stay.length c) ∧ (∀ i, w.frozen? ⟨p, i, none⟩ = false) ∧ (∀ i, w.frozen? ⟨q, i, none⟩ = false) ∧ E.l.length ≤ cap ∧ cap ≤ maxLen ∧ Own B w A E.stay ∧ E.stay.length ≤ c ∧ c ≤ maxLen := by
 obtain ⟨cap, A, c, vs, h1, h2, h3, h4, h5, h6, h7, h8, h9, hp, hq⟩ := h
 exact ⟨cap, A, c, by rw [cell_of_row _ _ _ _ _ _ h1]; rfl, by rw [cell_of_row _ _ _ _ _ _ h1]; rfl, by rw [cell_of_row _ _ _ _ _ _ h1]; rfl, by rw [cell_of_row _ _ _ _ _ _ h1]; rfl,
   fun i => frozen_of_row _ _ _ _ _ h1, fun i => frozen_of_row _ _ _ _ _ h2, h5, h6, h7, h8, h9⟩
theorem row (h : IsRk B p q w E) {i : Nat} {f : List UInt8} {c : Option (List UInt8)} (hi : E.l[i]? = some (f, c)) :
  (∃ v, w.cell? ⟨q, i * 2, none⟩ = some v ∧ SecV B w v f) ∧ (∃ v, w.cell? ⟨q, i * 2 + 1, none⟩ = some v ∧ CacV B w v c) := by
 obtain ⟨cap, A, c', vs, h1, h2, h3, h4, _⟩ := h
 obtain ⟨⟨v1, k1, k2⟩, ⟨v2, k3, k4⟩⟩ := h3 i f c hi
 exact ⟨⟨v1, by rw [cell_of_row _ _ _ _ _ _ h2]; exact k1, k2⟩, ⟨v2, by rw [cell_of_row _ _ _ _ _ _ h2]; exact k3, k4⟩⟩
theorem setP (h : IsRk B p q w E) (E' : Rk) (j : Nat) (v : Value) (hl : E'.l = E.l) (A' : Option Addr) (c' : Nat) (hv : ∀ cap A c, w.cell? ⟨p, 3, none⟩ = some (.slice A E.stay.length c) → (rkCells E q cap A c).setIfInBounds j v = rkCells E' q cap A' c')
  (hs : Own B w A' E'.stay) (hc : E'.stay.length ≤ c') (hm : c' ≤ maxLen) : IsRk B p q (w.setCell ⟨p, j, none⟩ v) E' := by
 have hn := keepB_set v (h.nobP j)
 obtain ⟨cap, A, c, vs, h1, h2, h3, h4, h5, h6, h7, h8, h9, hp, hq⟩ := h
 have hne := rk_ne h1 h2
 refine ⟨cap, A', c', vs, ?_, ?_, by rw [hl]; exact h3.keepB hn, h4, by rw [hl]; exact h5, h6, hs.keepB hn, hc, hm, hp, hq⟩
 ·rw [r5_setI _ h1, hv cap A c (by rw [cell_of_row _ _ _ _ _ _ h1]; rfl)]
 ·exact (((Chg.refl (fun k => k = p) w).setCell (p := ⟨p, j, none⟩) (.inl rfl) v).block q (Array.getElem?_eq_some_iff.1 h2).1 (fun e => hne e.symm)).trans h2
theorem setDown (h : IsRk B p q w E) (b : Bool) : IsRk B p q (w.setCell ⟨p, 1, none⟩ (.bool b)) { E with down := b } := by
 obtain ⟨cap, A, c, h0, h1, h2, h3, h4, h5, h6, h7, h8, h9, h10⟩ := h.cells
 exact h.setP _ 1 _ rfl A c (fun cap A' c' e => by rw [h3] at e; injection e with e; injection e with e1 e2 e3; subst e1 e3; rfl) h8 h9 h10
theorem setLeft (h : IsRk B p q w E) (n : Int) : IsRk B p q (w.setCell ⟨p, 2, none⟩ (.int .i64 n)) { E with left := n } := by
 obtain ⟨cap, A, c, h0, h1, h2, h3, h4, h5, h6, h7, h8, h9, h10⟩ := h.cells
 exact h.setP _ 2 _ rfl A c (fun cap A' c' e => by rw [h3] at e; injection e with e; injection e with e1 e2 e3; subst e1 e3; rfl) h8 h9 h10
theorem setStay (h : IsRk B p q w E) (A : Option Addr) (l : List UInt8) (c : Nat) (ho : Own B w A l) (hc : l.length ≤ c) (hm : c ≤ maxLen) : IsRk B p q (w.setCell ⟨p, 3, none⟩ (.slice A l.length c)) { E with stay := l } :=
 h.setP _ 3 _ rfl A c (fun cap A' c' e => rfl) ho hc hm
theorem setQ (h : IsRk B p q w E) (j : Nat) (hj : j < E.l.length * 2) (v : Value) (L : List (List UInt8 × Option (List UInt8))) (hL : L.length = E.l.length)
  (hr : ∀ vs, w.heap[q]? = some (.cells vs 63 (0, 0)) → RowIs B w vs E.l → RowIs B w (vs.setIfInBounds j v) L) : IsRk B p q (w.setCell ⟨q, j, none⟩ v) { E with l := L } := by
 have hn := keepB_set v (h.nobQ j hj)
 obtain ⟨cap, A, c, vs, h1, h2, h3, h4, h5, h6, h7, h8, h9, hp, hq⟩ := h
 have hne := rk_ne h1 h2
 refine ⟨cap, A, c, _, ?_, r5_setI _ h2, (hr vs h2 h3).keepB hn, trivial, by rw [hL]; exact h5, h6, h7.keepB hn, h8, h9, hp, hq⟩
 have e : rkCells { E with l := L } q cap A c = rkCells E q cap A c := by simp only [rkCells, hL]
 rw [e]
 exact (((Chg.refl (fun k => k = q) w).setCell (p := ⟨q, j, none⟩) (.inl rfl) v).block p (Array.getElem?_eq_some_iff.1 h1).1 (fun e => hne e)).trans h1
theorem setFl (h : IsRk B p q w E) (i : Nat) (f f0 : List UInt8) (c : Option (List UInt8)) (hi : E.l[i]? = some (f0, c)) (v : Value) (hv : SecV B w v f) : IsRk B p q (w.setCell ⟨q, i * 2, none⟩ v) { E with l := E.l.set i (f, c) } := by
 refine h.setQ (i * 2) (by have := (List.getElem?_eq_some_iff.1 hi).1; omega) v _ (List.length_set ..) ?_
 intro vs hb hr k g d hk
 have hil := (List.getElem?_eq_some_iff.1 hi).1
 rw [List.getElem?_set] at hk
 by_cases e : i = k
 ·subst e
  rw [if_pos rfl, if_pos hil] at hk
  injection hk with hk
  injection hk with hk1 hk2
  subst hk1 hk2
  obtain ⟨⟨v1, k1, k2⟩, ⟨v2, k3, k4⟩⟩ := hr i f0 c hi
  have hlt := (Array.getElem?_eq_some_iff.1 k1).1
  exact ⟨⟨v, by rw [Array.getElem?_setIfInBounds_self, if_pos hlt], hv⟩, ⟨v2, by rw [Array.getElem?_setIfInBounds_ne (by omega)]; exact k3, k4⟩⟩
 ·rw [if_neg e] at hk
  obtain ⟨⟨v1, k1, k2⟩, ⟨v2, k3, k4⟩⟩ := hr k g d hk
  exact ⟨⟨v1, by rw [Array.getElem?_setIfInBounds_ne (by omega)]; exact k1, k2⟩, ⟨v2, by rw [Array.getElem?_setIfInBounds_ne (by omega)]; exact k3, k4⟩⟩
theorem setCa (h : IsRk B p q w E) (i : Nat) (f : List UInt8) (c c0 : Option (List UInt8)) (hi : E.l[i]? = some (f, c0)) (v : Value) (hv : CacV B w v c) : IsRk B p q (w.setCell ⟨q, i * 2 + 1, none⟩ v) { E with l := E.l.set i (f, c) } := by
 refine h.setQ (i * 2 + 1) (by have := (List.getElem?_eq_some_iff.1 hi).1; omega) v _ (List.length_set ..) ?_
 intro vs hb hr k g d hk
 have hil := (List.getElem?_eq_some_iff.1 hi).1
 rw [List.getElem?_set] at hk
 by_cases e : i = k
 ·subst e
  rw [if_pos rfl, if_pos hil] at hk
  injection hk with hk
  injection hk with hk1 hk2
  subst hk1 hk2
  obtain ⟨⟨v1, k1, k2⟩, ⟨v2, k3, k4⟩⟩ := hr i f c0 hi
  have hlt := (Array.getElem?_eq_some_iff.1 k3).1
  exact ⟨⟨v1, by rw [Array.getElem?_setIfInBounds_ne (by omega)]; exact k1, k2⟩, ⟨v, by rw [Array.getElem?_setIfInBounds_self, if_pos hlt], hv⟩⟩
 ·rw [if_neg e] at hk
  obtain ⟨⟨v1, k1, k2⟩, ⟨v2, k3, k4⟩⟩ := hr k g d hk
  exact ⟨⟨v1, by rw [Array.getElem?_setIfInBounds_ne (by omega)]; exact k1, k2⟩, ⟨v2, by rw [Array.getElem?_setIfInBounds_ne (by omega)]; exact k3, k4⟩⟩
end IsRk
def RS (p q : Nat) : Nat → Prop := fun k => k = p ∨ k = q
structure RChg (p q : Nat) (w w' : World) : Prop where
 chg : Chg (RS p q) w w'
 keep : KeepB w w'
namespace RChg
variable {p q : Nat} {a b c w w' : World}
theorem refl (p q : Nat) (w : World) : RChg p q w w := ⟨Chg.refl _ _, KeepB.refl _⟩
theorem trans_same (h : RChg p q a b) (k : RChg p q b c) : RChg p q a c := ⟨h.chg.trans_same k.chg, h.keep.trans k.keep⟩
theorem of_non (h : Chg Non a b) : RChg p q a b := ⟨h.of_non, KeepB.non h⟩
theorem then_non (h : RChg p q a b) (k : Chg Non b c) : RChg p q a c := h.trans_same (of_non k)
theorem non_then (h : Chg Non a b) (k : RChg p q b c) : RChg p q a c := (of_non h).trans_same k
theorem drew (h : RChg p q a w) : RChg p q a w.drew := h.then_non (Chg.refl _ _).drew
theorem size (h : RChg p q a b) : a.heap.size ≤ b.heap.size := h.chg.size
end RChg
theorem Rd.ref {p q : Nat} {w W : World} {A : Option Addr} {l : List UInt8} (hr : Rd w A l) (hg : RChg p q w W) : Rd W A l := hr.keepB hg.keep
theorem rs_p {B : Nat} {E : Rk} {w W : World} {p q j : Nat} {v : Value} (h : RChg p q w W) (hI : IsRk B p q W E) : RChg p q w (W.setCell ⟨p, j, none⟩ v) :=
 ⟨h.chg.setCell (p := ⟨p, j, none⟩) (.inl (.inl rfl)) v, h.keep.trans (keepB_set v (hI.nobP j))⟩
theorem rs_q {B : Nat} {E : Rk} {w W : World} {p q j : Nat} {v : Value} (h : RChg p q w W) (hI : IsRk B p q W E) (hj : j < E.l.length * 2) : RChg p q w (W.setCell ⟨q, j, none⟩ v) :=
 ⟨h.chg.setCell (p := ⟨q, j, none⟩) (.inl (.inr rfl)) v, h.keep.trans (keepB_set v (hI.nobQ j hj))⟩
theorem IsRk.ne {B p q : Nat} {w : World} {E : Rk} (h : IsRk B p q w E) : p ≠ q := by
 obtain ⟨cap, A, c, vs, h1, h2, _⟩ := h
 exact rk_ne h1 h2
end
section
def mid {α : Type} (X L : List α) (k : Nat) : List α := X.take k ++ L.drop k
theorem mid_len {α : Type} {X L : List α} (h : X.length = L.length) (k : Nat) : (mid X L k).length = L.length := by
 unfold mid
 rw [List.length_append, List.length_take, List.length_drop]
 omega
theorem mid_get {α : Type} {X L : List α} (h : X.length = L.length) (k i : Nat) : (mid X L k)[i]? = if i < k then X[i]? else L[i]? := by
 unfold mid
 rw [List.getElem?_append, List.length_take]
 by_cases hi : i < k
 ·rw [if_pos hi]
  by_cases h2 : i < min k X.length
  ·rw [if_pos h2, List.getElem?_take_of_lt hi]
  ·rw [if_neg h2, List.getElem?_drop, List.getElem?_eq_none (by omega), List.getElem?_eq_none (by omega)]
 ·rw [if_neg hi, if_neg (by omega), List.getElem?_drop]
  by_cases h3 : k ≤ X.length
  ·rw [Nat.min_eq_left h3, show k + (i - k) = i by omega]
  ·rw [List.getElem?_eq_none (by omega), List.getElem?_eq_none (by omega)]
theorem mid_zero {α : Type} (X L : List α) : mid X L 0 = L := by simp [mid]
theorem mid_all {α : Type} {X L : List α} (h : X.length = L.length) : mid X L L.length = X := by
 unfold mid
 rw [List.drop_length, List.append_nil, ← h, List.take_length]
theorem mid_step {α : Type} {X L : List α} (h : X.length = L.length) {k : Nat} {x : α} (hx : X[k]? = some x) : mid X L (k + 1) = (mid X L k).set k x := by
 have hk : k < X.length := (List.getElem?_eq_some_iff.1 hx).1
 apply List.ext_getElem?
 intro i
 rw [mid_get h, List.getElem?_set, mid_get h, mid_len h]
 by_cases e : k = i
 ·subst e
  rw [if_pos (by omega), if_pos rfl, if_pos (by omega), hx]
 ·rw [if_neg e]
  by_cases h1 : i < k
  ·rw [if_pos h1, if_pos (by omega)]
  ·rw [if_neg h1, if_neg (by omega)]
theorem mid_same {α : Type} {X L : List α} (h : X.length = L.length) {k : Nat} {x : α} (hx : X[k]? = some x) (hl : L[k]? = some x) : mid X L (k + 1) = mid X L k := by
 apply List.ext_getElem?
 intro i
 rw [mid_get h, mid_get h]
 by_cases e : k = i
 ·subst e
  rw [if_pos (by omega), if_neg (by omega), hx, hl]
 ·by_cases h1 : i < k
  ·rw [if_pos h1, if_pos (by omega)]
  ·rw [if_neg h1, if_neg (by omega)]
theorem mid_at {α : Type} {X L : List α} (h : X.length = L.length) (k : Nat) : (mid X L k)[k]? = L[k]? := by
 rw [mid_get h, if_neg (by omega)]
abbrev SecL := List (List UInt8 × Option (List UInt8))
def cnt (L : SecL) (k : Nat) : Nat := (List.range k).countP fun i => ((L[i]?).bind (·.2)).isSome
theorem cnt_le (L : SecL) (k : Nat) : cnt L k ≤ k := by
 have := List.countP_le_length (p := fun i => ((L[i]?).bind (·.2)).isSome) (l := List.range k)
 rw [List.length_range] at this
 exact this
theorem cnt_none {L : SecL} {k : Nat} {f : List UInt8} (h : L[k]? = some (f, none)) : cnt L (k + 1) = cnt L k := by
 unfold cnt
 rw [List.range_succ, List.countP_append]
 simp [h]
theorem cnt_some {L : SecL} {k : Nat} {f c : List UInt8} (h : L[k]? = some (f, some c)) : cnt L (k + 1) = cnt L k + 1 := by
 unfold cnt
 rw [List.range_succ, List.countP_append]
 simp [h]
theorem fall_none {st : List UInt8} {L : SecL} {k : Nat} {f : List UInt8} (h : L[k]? = some (f, none)) : (Rk.fallL st 0 L)[k]? = some (f, none) := by
 rw [fallL_at, h]
 rfl
theorem fall_some {st : List UInt8} {L : SecL} {k : Nat} {f c : List UInt8} (h : L[k]? = some (f, some c)) : (Rk.fallL st 0 L)[k]? = some ((if Dk.bit st (cnt L k) then c else f), none) := by
 rw [fallL_at, h, Nat.zero_add]
 rfl
theorem flush_at {L : SecL} {k : Nat} {f : List UInt8} {c : Option (List UInt8)} (h : L[k]? = some (f, c)) : (Rk.flushL L)[k]? = some (c.getD f, none) := by
 rw [Rk.flushL, List.getElem?_map, h]
 rfl
theorem flushL_len (L : SecL) : (Rk.flushL L).length = L.length := by rw [Rk.flushL, List.length_map]
end
section
open Go.RowKit
theorem nil_eql (w : World) (a : Option Addr) (n c : Nat) : (binOp .eql 29 (.slice a n c) (.slice none 0 0)).run Tryz.prog w = .ok (.bool a.isNone) w := Lib.run_eql_slice_nil w _ _ a n c 0 0 Tryz.underlying29
theorem nil_neq (w : World) (a : Option Addr) (n c : Nat) : (binOp .neq 29 (.slice a n c) (.slice none 0 0)).run Tryz.prog w = .ok (.bool (!a.isNone)) w := run_neq_slice_nil_any w _ _ a n c 0 0 Tryz.underlying29
theorem rFall (B p q : Nat) (E : Rk) (A : Option Addr) (st : List UInt8) (cs : Nat) (w : World) (h : IsRk B p q w E) (hr : Rd w A st) (hst : st.length ≤ 140737488351232) (hn : E.l.length ≤ 1024) :
  Calls Tryz.prog 91 #[.pointer (some ⟨p, 0, none⟩), .slice A st.length cs] w fun e w' => e = .returned (.tuple #[]) ∧ IsRk B p q w' (E.fall st) ∧ RChg p q w w' := by
 have hfl : E.fall st = ⟨Rk.fallL st 0 E.l, true, 0, []⟩ := rfl
 rw [hfl]
 have FN := fun k f (h : E.l[k]? = some (f, none)) => fall_none (st := st) h
 have FS := fun k f c (h : E.l[k]? = some (f, some c)) => fall_some (st := st) h
 have hXl := fallL_len st E.l 0
 obtain ⟨X, hX⟩ : ∃ X, Rk.fallL st 0 E.l = X := ⟨_, rfl⟩
 rw [hX] at hXl ⊢
 simp only [hX] at FN FS
 have HFN := Lh FN
 have HFS := Lh FS
 have HXL := Lh hXl
 have HS := Lh (fun W (hg : RChg p q w W) => hr.ref hg)
 have HB := Lh h
 clear hfl FN FS hX hXl hr h
 have hnil : ∀ W a n c, (binOp .eql 29 (.slice a n c) (.slice none 0 0)).run Tryz.prog W = .ok (.bool a.isNone) W := nil_eql
 go_enter Tryz.func91, Tryz.ntmps91
 go_wp2_with fail
 go_loopw [4, 5] (fun nv iv wr => ∃ k : Nat, k ≤ E.l.length ∧ iv = .int .i64 k ∧ nv = .int .i64 (cnt E.l k : Nat) ∧ IsRk B p q wr { E with l := mid X E.l k } ∧ RChg p q w wr) (fun _ iv _ => E.l.length - (intOf iv).toNat)
 case atStart => exact ⟨0, by omega, rfl, rfl, by rw [mid_zero]; exact HB.out, RChg.refl _ _ _⟩
 case round =>
  obtain ⟨k, hk, rfl, rfl, hI, hC⟩ := hrel
  have hlen := mid_len HXL.out k
  have hne := hI.ne
  obtain ⟨cap, A3, c3, k0, k1, k2, k3, fp, fq, z1, z2, z3, z4, z5⟩ := hI.cells
  have f8 := fq (k * 2)
  have f9 := fq (k * 2 + 1)
  simp only [hlen] at k0 z1
  have HI := Lh hI
  have HC := Lh hC
  have hcn := cnt_le E.l k
  by_cases hlt : k < E.l.length
  ·have hltd : decide ((k : Int) < (E.l.length : Int)) = true := by simpa using hlt
   obtain ⟨⟨f, c0⟩, hf⟩ : ∃ x, E.l[k]? = some x := ⟨_, List.getElem?_eq_getElem hlt⟩
   have hfm : (mid X E.l k)[k]? = some (f, c0) := by rw [mid_at HXL.out]; exact hf
   obtain ⟨⟨v1, r1, s1⟩, ⟨v2, r2, s2⟩⟩ := hI.row hfm
   have HF := Lh hf
   have HFM := Lh hfm
   have HL := Lh hlen
   clear hI hC z2 z3 z4 z5 hf hfm hlen s1 fp fq
   cases c0 with
   | none =>
    have s2 : v2 = .slice none 0 0 := s2
    subst s2
    go_wp2_with fail
    case roundEnd =>
     refine ⟨⟨k + 1, by omega, by simp, by rw [cnt_none HF.out], ?_, HC.out⟩, by simp [intOf]; omega⟩
     rw [mid_same HXL.out (HFN.out k f HF.out) HF.out]
     exact HI.out
   | some c =>
    obtain ⟨b, o, kk, rfl, g1, g2, g3, g4⟩ := s2
    have HSV : Hid (SecV B wr (.slice (some ⟨b, o, none⟩) 64 kk) c) := Lh ⟨b, o, kk, rfl, g1, g2, g3, g4⟩
    clear g1 g2 g3 g4
    have hk2 : k * 2 + 1 < (mid X E.l k).length * 2 := by rw [HL.out]; omega
    obtain ⟨n, hcnn⟩ : ∃ n, cnt E.l k = n := ⟨_, rfl⟩
    have HN := Lh hcnn
    rw [hcnn] at hcn ⊢
    clear hcnn
    have hset0 : ∀ g : List UInt8, X[k]? = some (g, none) → (mid X E.l k).set k (g, none) = mid X E.l (k + 1) := fun g h => (mid_step HXL.out h).symm
    have HSet := Lh hset0
    have HXk := Lh (HFS.out k f c HF.out)
    rw [HN.out] at HXk
    clear hset0
    by_cases hb8 : n / 8 < st.length
    ·obtain ⟨bA, oA, rfl, _, hcell⟩ := (HS.out wr HC.out).at_ (by omega)
     have hx1 := hcell (n / 8) hb8
     have hgd : st.getD (n / 8) 0 = st[n / 8] := by simp [List.getD, List.getElem?_eq_getElem hb8]
     have hbit : Dk.bit st n = ((st[n / 8]'hb8).toNat / 2 ^ (n % 8) % 2 == 1) := by
      unfold Dk.bit
      rw [decide_eq_true hb8, hgd]
      rfl
     have hx := (st[n / 8]'hb8).toNat_lt
     obtain ⟨x, hxx⟩ : ∃ x, (st[n / 8]'hb8).toNat = x := ⟨_, rfl⟩
     rw [hxx] at hx1 hx hbit
     clear hcell hgd hxx
     rw [hbit] at HXk
     clear hbit
     have hbq : (((x : Int) / 2 ^ (n % 8)).tmod 2 == 1) = (x / 2 ^ (n % 8) % 2 == 1) := by
      have e1 : ((x : Int) / 2 ^ (n % 8)) = ((x / 2 ^ (n % 8) : Nat) : Int) := by rw [Int.natCast_ediv, Int.natCast_pow]; rfl
      rw [e1, Int.tmod_eq_emod_of_nonneg (Int.natCast_nonneg _)]
      generalize x / 2 ^ (n % 8) = m
      by_cases hq : m % 2 = 1
      ·rw [beq_iff_eq.2 hq, beq_iff_eq.2 (by omega)]
      ·rw [beq_eq_false_iff_ne.2 hq, beq_eq_false_iff_ne.2 (by omega)]
     obtain ⟨y, hy⟩ : ∃ y, (x / 2 ^ (n % 8) % 2 == 1) = y := ⟨_, rfl⟩
     rw [hy] at hbq HXk
     have hd : decide ((n : Int) / 8 < (st.length : Int)) = true := by rw [decide_eq_true_eq]; omega
     have hb8i : (n : Int) / 8 < (st.length : Int) := by omega
     clear hy
     cases y with
     | false =>
      rw [if_neg (by simp)] at HXk
      have HI2 := Lh (HI.out.setCa k f none (some c) HFM.out (.slice none 0 0) rfl)
      have HC2 := Lh (rs_q (p := p) (q := q) (j := k * 2 + 1) (v := .slice none 0 0) HC.out HI.out hk2)
      go_wp2_with fail
      case roundEnd =>
       refine ⟨⟨k + 1, by omega, by simp, by rw [cnt_some HF.out, HN.out]; simp, ?_, HC2.out⟩, by simp [intOf]; omega⟩
       have h := HI2.out
       simp only [HSet.out f HXk.out] at h
       exact h
     | true =>
      rw [if_pos rfl] at HXk
      go_wp2_with fail
      refine wp_region_still_tail 14 (by kernel_rfl) (by kernel_rfl) ?_
      simp only [List.take_succ_cons, List.take_zero, List.drop_succ_cons, List.drop_zero]
      change wpStill _ _ wr.drew (fun a' => wpList _ _ _ _ a' wr.drew) _ _
      have hgd : Chg Non wr wr.drew := (Chg.refl _ _).drew
      have HI4 := Lh (HI.out.non hgd)
      have HC4 := Lh (HC.out.then_non hgd)
      have HSV4 := Lh (HSV.out.keep hgd (fun _ e => e.elim))
      have k0 := hgd.cell_some k0 (fun e => e)
      have f8 := (hgd.frozen (lt_of_cell r1) (fun e => e)).trans f8
      have f9 := (hgd.frozen (lt_of_cell r2) (fun e => e)).trans f9
      have r1 := hgd.cell_some r1 (fun e => e)
      have r2 := hgd.cell_some r2 (fun e => e)
      clear k1 k2 k3 hx1 hbq
      generalize wr.drew = w2 at *
      iterate 14 still_step
      refine wpStill_nil ?_
      have HC5 := Lh (rs_q (p := p) (q := q) (j := k * 2) (v := .slice (some ⟨b, o, none⟩) 64 kk) HC4.out HI4.out (by have := hk2; show k * 2 < (mid X E.l k).length * 2; omega))
      have HI5 := Lh (HI4.out.setFl k c f (some c) HFM.out _ HSV4.out)
      have HI6 := Lh (HI5.out.setCa k c none (some c) (by show ((mid X E.l k).set k (c, some c))[k]? = _; rw [List.getElem?_set_self (by rw [HL.out]; exact hlt)]) (.slice none 0 0) rfl)
      have HC6 := Lh (rs_q (p := p) (q := q) (j := k * 2 + 1) (v := .slice none 0 0) HC5.out HI5.out (by show k * 2 + 1 < ((mid X E.l k).set k (c, some c)).length * 2; rw [List.length_set]; exact hk2))
      go_wp2_with fail
      case roundEnd =>
       refine ⟨⟨k + 1, by omega, by simp, by rw [cnt_some HF.out, HN.out]; simp, ?_, HC6.out⟩, by simp [intOf]; omega⟩
       have h := HI6.out
       simp only [List.set_set, HSet.out c HXk.out] at h
       exact h
    ·have hd : decide ((n : Int) / 8 < (st.length : Int)) = false := by rw [decide_eq_false_iff_not]; omega
     have hbit : Dk.bit st n = false := by
      unfold Dk.bit
      rw [decide_eq_false hb8]
      rfl
     rw [hbit, if_neg (by simp)] at HXk
     have HI2 := Lh (HI.out.setCa k f none (some c) HFM.out (.slice none 0 0) rfl)
     have HC2 := Lh (rs_q (p := p) (q := q) (j := k * 2 + 1) (v := .slice none 0 0) HC.out HI.out hk2)
     clear hb8 hbit
     go_wp2_with fail
     case roundEnd =>
      refine ⟨⟨k + 1, by omega, by simp, by rw [cnt_some HF.out, HN.out]; simp, ?_, HC2.out⟩, by simp [intOf]; omega⟩
      have h := HI2.out
      simp only [HSet.out f HXk.out] at h
      exact h
  ·obtain rfl : k = E.l.length := by omega
   have hltd : decide ((E.l.length : Int) < (E.l.length : Int)) = false := by simp
   have HI3 : Hid (IsRk B p q wr { E with l := X }) := Lh (by have := HI.out; rwa [mid_all HXL.out] at this)
   clear f8 f9 hI hC z2 z3 z4 z5 hlen
   have HC3 := Lh (rs_p (p := p) (q := q) (j := 1) (v := .bool true) HC.out HI3.out)
   have HI4 := Lh (HI3.out.setDown true)
   have HC4 := Lh (rs_p (p := p) (q := q) (j := 2) (v := .int .i64 0) HC3.out HI4.out)
   have HI5 := Lh (HI4.out.setLeft 0)
   have HC5 := Lh (rs_p (p := p) (q := q) (j := 3) (v := .slice none 0 0) HC4.out HI5.out)
   have HI6 := Lh (HI5.out.setStay none [] 0 (Own.nil _ _ _) (Nat.le_refl _) (by simp))
   have g1 := fp 1
   have g2 := fp 2
   have g3 := fp 3
   clear fp fq
   go_wp2_with fail
   go_end0
   exact ⟨rfl, HI6.out, HC5.out⟩
end
section
open Go.RowKit
theorem setCells_block (b : Nat) : ∀ (vs : List Value) (o : Nat) (w : World) (cs : Array Value) (t : TypeId), w.heap[b]? = some (.cells cs t (0, 0)) →
  ∃ cs2, (w.setCells b o vs).heap[b]? = some (.cells cs2 t (0, 0)) ∧ cs2.size = cs.size ∧ Chg (fun k => k = b) w (w.setCells b o vs)
 | [], o, w, cs, t, h => ⟨cs, h, rfl, Chg.refl _ _⟩
 | v :: r, o, w, cs, t, h => by
  obtain ⟨cs2, h1, h2, h3⟩ := setCells_block b r (o + 1) (w.setCell ⟨b, o, none⟩ v) (cs.setIfInBounds o v) t (heap_setCell_same _ _ _ _ _ _ h)
  refine ⟨cs2, h1, by simpa using h2, ?_⟩
  exact ((Chg.refl (fun k => k = b) w).setCell (p := ⟨b, o, none⟩) (.inl rfl) v).trans_same h3
theorem flat_set {sec : List (List UInt8)} (h : ∀ s ∈ sec, s.length = 64) (k : Nat) (hk : k < sec.length) (l : List UInt8) (hl : l.length = 64) (j : Nat) :
  (sec.set k l).flatten[j]? = if k * 64 ≤ j ∧ j < k * 64 + 64 then l[j - k * 64]? else sec.flatten[j]? := by
 have h' : ∀ s ∈ sec.set k l, s.length = 64 := by
  intro s hs
  rcases List.mem_or_eq_of_mem_set hs with hs | rfl
  ·exact h s hs
  ·exact hl
 by_cases hj : j < sec.length * 64
 ·have hq : j / 64 < sec.length := by omega
  have hjj : j = j / 64 * 64 + j % 64 := by omega
  have hm : j % 64 < 64 := by omega
  have e1 := flat_at h' (j / 64) (by simpa using hq) (j % 64) hm
  have e2 := flat_at h (j / 64) hq (j % 64) hm
  rw [← hjj] at e1 e2
  rw [e1, e2]
  by_cases hkj : k = j / 64
  ·rw [if_pos (by omega)]
   have : (sec.set k l)[j / 64]'(by simpa using hq) = l := by simp [hkj]
   rw [this, show j - k * 64 = j % 64 from by omega]
  ·rw [if_neg (by omega)]
   have : (sec.set k l)[j / 64]'(by simpa using hq) = sec[j / 64] := by simp [hkj]
   rw [this]
 ·have e1 : (sec.set k l).flatten[j]? = none := List.getElem?_eq_none (by rw [flat_len h', List.length_set]; omega)
  have e2 : sec.flatten[j]? = none := List.getElem?_eq_none (by rw [flat_len h]; omega)
  rw [e1, e2, if_neg (by omega)]
theorem setCells_sec {w : World} {ps : Nat} {t : TypeId} {sec : List (List UInt8)} (hb : w.heap[ps]? = some (.cells (sec.flatten.map bv).toArray t (0, 0))) (h : ∀ s ∈ sec, s.length = 64) (k : Nat) (hk : k < sec.length) (l : List UInt8) (hl : l.length = 64) :
  (w.setCells ps (k * 64) (l.map bv)).heap[ps]? = some (.cells ((sec.set k l).flatten.map bv).toArray t (0, 0)) ∧ Chg (fun x => x = ps) w (w.setCells ps (k * 64) (l.map bv)) := by
 obtain ⟨cs2, h1, h2, h3⟩ := setCells_block ps (l.map bv) (k * 64) w _ t hb
 refine ⟨?_, h3⟩
 rw [h1]
 congr 2
 apply Array.ext_getElem?
 intro j
 have hc : cs2[j]? = (w.setCells ps (k * 64) (l.map bv)).cell? ⟨ps, j, none⟩ := (cell_of_row _ _ _ _ _ _ h1).symm
 have hw : w.cell? ⟨ps, j, none⟩ = (sec.flatten.map bv).toArray[j]? := cell_of_row _ _ _ _ _ _ hb
 rw [hc, List.getElem?_toArray, List.getElem?_map, flat_set h k hk l hl j]
 have hsome : ∀ j, j < (l.map bv).length → (w.cell? ⟨ps, k * 64 + j, none⟩).isSome = true := by
  intro j hj
  rw [cell_of_row _ _ _ _ _ _ hb]
  have : k * 64 + j < sec.flatten.length := by rw [flat_len h]; simp [hl] at hj; have : (k + 1) * 64 ≤ sec.length * 64 := Nat.mul_le_mul_right 64 hk; omega
  rw [List.getElem?_toArray, List.getElem?_map, List.getElem?_eq_getElem this]
  rfl
 by_cases hj : k * 64 ≤ j ∧ j < k * 64 + 64
 ·rw [if_pos hj]
  obtain ⟨d, rfl⟩ : ∃ d, j = k * 64 + d := ⟨j - k * 64, by omega⟩
  have hd : d < (l.map bv).length := by simp [hl]; omega
  rw [World.cell?_setCells_in ps (l.map bv) (k * 64) w hsome d hd, Nat.add_sub_cancel_left, ← List.getElem?_map, List.getElem?_eq_getElem hd]
 ·rw [if_neg hj, World.cell?_setCells_out ps (l.map bv) (k * 64) w ⟨ps, j, none⟩ (fun _ _ => by simp [hl]; omega), hw, List.getElem?_toArray, List.getElem?_map]
theorem wpList_store_sec {w : World} {ops : Array Oper} {rest : List Oper} {op : Oper} {a : Act} {Q : Exit → Act → World → Prop} (hgd : op.guard = none) (x y : Operand) (ho : op.op = .store 113 x y)
  (ps k : Nat) (sec : List (List UInt8)) (t : TypeId) (l : List UInt8) (hx : a.eval x = .pointer (some ⟨ps, k * 64, none⟩)) (hy : a.eval y = secV l) (hb : w.heap[ps]? = some (.cells (sec.flatten.map bv).toArray t (0, 0)))
  (h : ∀ s ∈ sec, s.length = 64) (hk : k < sec.length) (hl : l.length = 64)
  (hn : ∀ W, W.heap[ps]? = some (.cells ((sec.set k l).flatten.map bv).toArray t (0, 0)) → Chg (fun x => x = ps) w W → wpList Tryz.prog ops Q rest (a.put op.dst undef) W) : wpList Tryz.prog ops Q (op :: rest) a w := by
 refine wpList_store_mid hgd 113 x y ho ps (k * 64) (secA l) hx hy ?_ (by rw [secA_size l hl]; exact info_sec) (secA_one l) ?_
 ·intro j hj
  rw [secA_size l hl] at hj
  refine ⟨?_, frozen_of_row _ _ _ _ _ hb⟩
  rw [cell_of_row _ _ _ _ _ _ hb]
  have : k * 64 + j < sec.flatten.length := by rw [flat_len h]; have : (k + 1) * 64 ≤ sec.length * 64 := Nat.mul_le_mul_right 64 hk; omega
  rw [List.getElem?_toArray, List.getElem?_map, List.getElem?_eq_getElem this]
  rfl
 ·obtain ⟨h1, h2⟩ := setCells_sec hb h k hk l hl
  exact hn _ h1 h2
theorem spillTo_ok {D : Dk} (h : D.Ok) (st : Nat → Bool) : ∀ n, (D.spillTo st n).length = D.sec.length ∧ ∀ s ∈ D.spillTo st n, s.length = 64
 | 0 => ⟨rfl, h.secs⟩
 | n + 1 => by
  obtain ⟨h1, h2⟩ := spillTo_ok h st n
  unfold Dk.spillTo
  cases hk : (dirty D.cache)[n]? with
  | none => exact ⟨h1, h2⟩
  | some k =>
   by_cases hs : st n
   ·simp only [hs, if_true]
    refine ⟨by rw [List.length_set, h1], fun s hm => ?_⟩
    rcases List.mem_or_eq_of_mem_set hm with hm | rfl
    ·exact h2 s hm
    ·have hkm : k ∈ D.cache.map (·.1) := (dirty_perm D.cache).mem_iff.1 (List.mem_of_getElem? hk)
     obtain ⟨p, hp, rfl⟩ := List.mem_map.1 hkm
     rw [look_mem h.nodup hp]
     exact (h.keys p hp).2
   ·simp only [hs]
    exact ⟨h1, h2⟩
theorem dirty_look {D : Dk} (h : D.Ok) {n k : Nat} (hk : (dirty D.cache)[n]? = some k) : k < D.sec.length ∧ ∃ l, look D.cache k = some l ∧ l.length = 64 := by
 have hkm : k ∈ D.cache.map (·.1) := (dirty_perm D.cache).mem_iff.1 (List.mem_of_getElem? hk)
 obtain ⟨p, hp, rfl⟩ := List.mem_map.1 hkm
 exact ⟨(h.keys p hp).1, p.2, look_mem h.nodup hp, (h.keys p hp).2⟩
theorem cache_len {D : Dk} (h : D.Ok) : D.cache.length ≤ 1024 := by
 have h1 : (D.cache.map (·.1)).length ≤ (List.range D.sec.length).length := by
  refine List.Nodup.length_le_of_subset h.nodup ?_
  intro k hk
  obtain ⟨p, hp, rfl⟩ := List.mem_map.1 hk
  exact List.mem_range.2 (h.keys p hp).1
 rw [List.length_map, List.length_range] at h1
 have := h.most
 omega
end
end Go.Proofs.YtkgnlobabknkcaaGreat
