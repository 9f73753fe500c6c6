/- Commit records: the statement CommitBack (what was put is got), and what it shares with CommitOther, CommitOne. -/
import Derived.Test.YthhbdejagglgbaaGreatRecRows
namespace Go.Proofs.YthhbdejagglgbaaGreat
open Go.RowKit
set_option linter.unusedVariables false

theorem rN_ok {f : Int} {l : List Rec} (hok : ∀ r ∈ l, r.Ok) {k : Nat} (hk : k < l.length) : (rN f l k).hash.length = 32 := by
  unfold rN
  rw [List.getD, List.getElem?_eq_getElem hk, Option.getD_some]
  exact (hok _ (List.getElem_mem hk)).1
theorem rCells_len {f : Int} {l : List Rec} (hok : ∀ r ∈ l, r.Ok) : ∀ k, k ≤ l.length → (rCells f l k).length = k * 36
  | 0, _ => rfl
  | k + 1, h => by
    rw [rCells_succ, List.length_append, rCells_len hok k (by omega), Array.length_toList, recA_size _ (rN_ok hok (by omega))]
    omega
theorem rCells_get {f : Int} {l : List Rec} (hok : ∀ r ∈ l, r.Ok) (i j : Nat) (hj : j < 36) : ∀ k, k ≤ l.length → i < k → (rCells f l k)[i * 36 + j]? = (recA (rN f l i)).toList[j]?
  | 0, _, h => by omega
  | k + 1, h, hi => by
    rw [rCells_succ]
    by_cases h1 : i < k
    · rw [List.getElem?_append_left (by rw [rCells_len hok k (by omega)]; omega)]
      exact rCells_get hok i j hj k (by omega) h1
    · obtain rfl : i = k := by omega
      rw [List.getElem?_append_right (by rw [rCells_len hok i (by omega)]; omega), rCells_len hok i (by omega)]
      congr 1
      omega
/-- the list that rows built, read -/
theorem rows_reads {f : Int} {l : List Rec} (hok : ∀ r ∈ l, r.Ok) {w : World} {B : Nat} {v : Value} {k : Nat} (hk : k ≤ l.length) (h : w.ownsRow B 25 36 v k (rCells f l k)) :
    ∃ A c, v = .slice A k c ∧ ∀ i, i < k → ∃ b, A = some ⟨b, 0, none⟩ ∧ w.rangeAt b (i * 36) (recA (rN f l i)).toList := by
  rcases h.2 with ⟨rfl, h0⟩ | ⟨g, cap, cur, rfl, _⟩
  · subst h0
    exact ⟨none, 0, rfl, fun i hi => by omega⟩
  · refine ⟨_, cap, rfl, fun i hi => ⟨g, rfl, fun j x hx => ?_⟩⟩
    have hj : j < 36 := by
      have := (List.getElem?_eq_some_iff.1 hx).1
      rw [Array.length_toList, recA_size _ (rN_ok hok (by omega))] at this
      exact this
    have := h.cells (g := g) rfl (i * 36 + j) x (by rw [rCells_get hok i j hj k hk hi]; exact hx)
    rw [Addr.add_mid, Nat.zero_add] at this
    exact this

/-- the record ahead of the k-th -/
def prevR (f : Int) (l : List Rec) (k : Nat) : Rec := if k = 0 then Rec.zero else rN f l (k - 1)
theorem stAt_is (f : Int) (l : List Rec) : ∀ k, stAt f l (k + 1) = if (f + k) % 2 = 0 then (rN f l k, prevR f l k) else (prevR f l k, rN f l k)
  | 0 => rfl
  | k + 1 => by
    rw [stAt_succ, stAt_is f l k]
    have hp : prevR f l (k + 1) = rN f l k := by unfold prevR; rw [if_neg (by omega), Nat.add_sub_cancel]
    rw [hp]
    by_cases h : (f + (k : Int)) % 2 = 0
    · rw [if_pos h, if_neg (by omega), if_neg (by omega)]
    · rw [if_neg h, if_pos (by omega), if_pos (by omega)]
theorem rows_tell (f : Int) (l : List Rec) (k : Nat) (h1 : 1 ≤ f) : cTell (stAt f l (k + 1)).1 (stAt f l (k + 1)).2 = (rN f l k, prevR f l k, 0) := by
  have hs : (rN f l k).seqn = f + k := rfl
  have hz : rN f l k ≠ Rec.zero := fun e => by
    have h := congrArg Rec.seqn e
    rw [hs] at h
    have : Rec.zero.seqn = 0 := rfl
    omega
  have hp : (prevR f l k).seqn < f + k ∧ ((prevR f l k).seqn ≠ f + k - 1 → prevR f l k = Rec.zero) := by
    unfold prevR
    by_cases h : k = 0
    · rw [if_pos h]
      have : Rec.zero.seqn = 0 := rfl
      exact ⟨by omega, fun _ => rfl⟩
    · rw [if_neg h]
      have : (rN f l (k - 1)).seqn = f + ((k - 1 : Nat) : Int) := rfl
      exact ⟨by omega, fun e => absurd (by omega) e⟩
  have core : ∀ p : Rec × Rec, p = (rN f l k, prevR f l k) → (if p.1 = Rec.zero then (p.1, p.2, (160 : Int)) else if p.2.seqn ≠ p.1.seqn - 1 then (p.1, Rec.zero, 0) else (p.1, p.2, 0)) = (rN f l k, prevR f l k, 0) := by
    rintro p rfl
    rw [if_neg hz]
    split
    · rename_i h
      rw [hp.2 (by rw [← hs]; exact h)]
    · rfl
  rw [stAt_is]
  unfold cTell
  apply core
  by_cases h : (f + (k : Int)) % 2 = 0
  · rw [if_pos h]
    show (if (rN f l k).seqn < (prevR f l k).seqn then _ else _) = _
    rw [if_neg (by omega)]
  · rw [if_neg h]
    show (if (prevR f l k).seqn < (rN f l k).seqn then _ else _) = _
    rw [if_pos (by omega)]

set_option maxRecDepth 100000 in
set_option maxHeartbeats 4000000 in
theorem rows_no (f : Int) (B : Option Addr) (l : List Rec) (c : Nat) (w : World) (h : f < 1 ∨ f > 1099511627776 ∨ l.length > 20) :
    Calls Tryz.prog 12 #[.int .i64 f, .slice B l.length c] w fun e w' => e = .returned (.tuple #[.pointer none, .slice none 0 0, .bool false]) ∧ Chg Non w w' := by
  have HN := Lib.hid (fun W => keptC_new w W 3 (by omega) (by omega))
  go_enter Tryz.func12, Tryz.ntmps12
  go_wp2_with fail
  refine (HN.out _ (Chg.refl _ _)).mono ?_
  rintro e w1 ⟨pd, ps, pm, rfl, k1, hg1⟩
  have HG := Lib.hid hg1
  clear k1 hg1
  by_cases h1 : f < 1
  · have d1 : decide (f < 1) = true := by simpa using h1
    go_wp2_with fail
    go_ret3
    exact ⟨rfl, HG.out⟩
  · have d1 : decide (f < 1) = false := by simpa using h1
    by_cases h2 : f > 1099511627776
    · have d2 : decide (f > 1099511627776) = true := by simpa using h2
      go_wp2_with fail
      go_ret3
      exact ⟨rfl, HG.out⟩
    · have d2 : decide (f > 1099511627776) = false := by simpa using h2
      have d3 : decide ((l.length : Int) > 20) = true := by simp; omega
      go_wp2_with fail
      go_ret3
      exact ⟨rfl, HG.out⟩

/-- what rows answers, of every number and list -/
def RowsAll (f : Int) (l : List Rec) (B : Option Addr) (w : World) (e : Ending) (w' : World) : Prop :=
  (e = .returned (.tuple #[.pointer none, .slice none 0 0, .bool false]) ∧ Chg Non w w') ∨
  (1 ≤ f ∧ f ≤ 1099511627776 ∧ l.length ≤ 20 ∧ ∃ pd ps pm v, e = .returned (.tuple #[.pointer (some ⟨pd, 0, none⟩), v, .bool true]) ∧ RowsInv f l B w pd ps pm l.length v w')
theorem rows_all (f : Int) (B : Option Addr) (l : List Rec) (c : Nat) (w : World) (hB : RdR w B l) (hok : ∀ r ∈ l, r.Ok) :
    Calls Tryz.prog 12 #[.int .i64 f, .slice B l.length c] w (RowsAll f l B w) := by
  by_cases h : f < 1 ∨ f > 1099511627776 ∨ l.length > 20
  · exact (rows_no f B l c w h).mono fun e w' h => Or.inl h
  · refine (rows_any f B l c w hB hok (by omega) (by omega) (by omega)).mono ?_
    rintro e w' (⟨k, _, _, rfl, hg⟩ | ⟨pd, ps, pm, v, rfl, hI⟩)
    · exact Or.inl ⟨rfl, hg⟩
    · exact Or.inr ⟨by omega, by omega, by omega, pd, ps, pm, v, rfl, hI⟩


theorem rN_bd {f : Int} {l : List Rec} (hok : ∀ r ∈ l, r.Ok) (h1 : 1 ≤ f) (h2 : f ≤ 1099511627776) {k : Nat} (hk : k < l.length) (h3 : l.length ≤ 20) : (rN f l k).Bd := by
  have hs : (rN f l k).seqn = f + k := rfl
  have hm := hok _ (List.getElem_mem hk)
  refine ⟨rN_ok hok hk, ⟨by omega, by omega⟩, ?_, ?_⟩
  · unfold rN; rw [List.getD, List.getElem?_eq_getElem hk, Option.getD_some]; exact hm.2.2.1
  · unfold rN; rw [List.getD, List.getElem?_eq_getElem hk, Option.getD_some]; exact hm.2.2.2
theorem prevR_bd {f : Int} {l : List Rec} (hok : ∀ r ∈ l, r.Ok) (h1 : 1 ≤ f) (h2 : f ≤ 1099511627776) {k : Nat} (hk : k < l.length) (h3 : l.length ≤ 20) : (prevR f l k).Bd := by
  unfold prevR
  split
  · exact zero_bd
  · exact rN_bd hok h1 h2 (by omega) h3
theorem prevR_ok {f : Int} {l : List Rec} (hok : ∀ r ∈ l, r.Ok) {k : Nat} (hk : k < l.length) : (prevR f l k).hash.length = 32 := by
  unfold prevR
  split
  · exact zero_bd.1
  · exact rN_ok hok (by omega)
end Go.Proofs.YthhbdejagglgbaaGreat
