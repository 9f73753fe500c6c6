/- The disk in memory; walks of New, none, ready, Len, has, Up, Start, Arm, Read. -/
import Derived.Test.YthhbdejagglgbaaGreatDiskM
namespace Go.Proofs.YthhbdejagglgbaaGreat
open Go.RowKit
set_option linter.unusedVariables false

/-- the blocks of a disk -/
def DS (pd ps pm : Nat) : Nat → Prop := fun k => k = pd ∨ k = ps ∨ k = pm

def dCells (D : Dk) (ps pm : Nat) (A : Option Addr) (c : Nat) : Array Value :=
  #[.bool D.up, .slice (some ⟨ps, 0, none⟩) D.sec.length D.sec.length, .map (some pm), .int .i64 D.left, .slice A D.stay.length c]

/-- block pd is the disk D; its sectors lie in block ps, its cache is the map pm -/
def IsD (w : World) (pd ps pm : Nat) (D : Dk) : Prop :=
  D.Ok ∧ ∃ A c, w.heap[pd]? = some (.cells (dCells D ps pm A c) 31 (0, 0)) ∧ w.heap[ps]? = some (.cells (D.sec.flatten.map bv).toArray 78 (0, 0)) ∧ MapIs w pm D.cache ∧
    Rd w A D.stay ∧ (∀ b o, A = some ⟨b, o, none⟩ → D.stay ≠ [] → b ≠ ps) ∧ D.stay.length ≤ c ∧ c ≤ maxLen

theorem IsD.lt {w : World} {pd ps pm : Nat} {D : Dk} (h : IsD w pd ps pm D) : pd < w.heap.size ∧ ps < w.heap.size ∧ pm < w.heap.size := by
  obtain ⟨_, A, c, h1, h2, ⟨es, ck, h3, _⟩, _⟩ := h
  exact ⟨(Array.getElem?_eq_some_iff.1 h1).1, (Array.getElem?_eq_some_iff.1 h2).1, (Array.getElem?_eq_some_iff.1 h3).1⟩

theorem IsD.ne {w : World} {pd ps pm : Nat} {D : Dk} (h : IsD w pd ps pm D) : pd ≠ ps ∧ pd ≠ pm ∧ ps ≠ pm := by
  obtain ⟨_, A, c, h1, h2, ⟨es, ck, h3, _⟩, _⟩ := h
  refine ⟨?_, ?_, ?_⟩
  · rintro rfl; rw [h1] at h2; injection h2 with h2; injection h2 with _ h2; exact absurd h2 (by decide)
  · rintro rfl; rw [h1] at h3; injection h3 with h3; cases h3
  · rintro rfl; rw [h2] at h3; injection h3 with h3; cases h3

theorem MapIs.keep {S : Nat → Prop} {w w' : World} {b : Nat} {m : List (Nat × List UInt8)} (h : MapIs w b m) (hg : Chg S w w') (hb : ¬ S b) : MapIs w' b m := by
  obtain ⟨es, ck, h1, h2⟩ := h
  exact ⟨es, ck, (hg.block b (Array.getElem?_eq_some_iff.1 h1).1 hb).trans h1, h2⟩

/-- the slice of what stays lies in none of the disk's other blocks -/
theorem stay_ne {w : World} {pd pm : Nat} {A : Option Addr} {l : List UInt8} {D : Dk} {ps c : Nat} {A' : Option Addr} (h1 : w.heap[pd]? = some (.cells (dCells D ps pm A' c) 31 (0, 0))) {m : List (Nat × List UInt8)} (hm : MapIs w pm m) (hr : Rd w A l) :
    ∀ b o, A = some ⟨b, o, none⟩ → l ≠ [] → b ≠ pd ∧ b ≠ pm := by
  rintro b o rfl hne
  obtain ⟨x, r, rfl⟩ := List.exists_cons_of_ne_nil hne
  obtain ⟨b', o', e, hc⟩ := hr 0 x rfl
  injection e with e
  injection e with e1 e2
  subst e1 e2
  refine ⟨?_, ?_⟩
  · rintro rfl
    rw [cell_of_row _ _ _ _ _ _ h1, dCells] at hc
    match o + 0, hc with
    | 0, hc => simp at hc
    | 1, hc => simp at hc
    | 2, hc => simp at hc
    | 3, hc => simp at hc
    | 4, hc => simp at hc
    | n + 5, hc => simp at hc
  · rintro rfl
    obtain ⟨es, ck, h2, _⟩ := hm
    simp [World.cell?, h2] at hc

theorem IsD.keep {S : Nat → Prop} {w w' : World} {pd ps pm : Nat} {D : Dk} (h : IsD w pd ps pm D) (hg : Chg S w w') (hS : ∀ k, k < w.heap.size → S k → k ≠ pd ∧ k ≠ ps ∧ k ≠ pm)
    (hstay : ∀ A c, w.heap[pd]? = some (.cells (dCells D ps pm A c) 31 (0, 0)) → ∀ b o, A = some ⟨b, o, none⟩ → D.stay ≠ [] → ¬ S b) : IsD w' pd ps pm D := by
  obtain ⟨hok, A, c, h1, h2, h3, h4, h5⟩ := h
  have l1 := (Array.getElem?_eq_some_iff.1 h1).1
  have l2 := (Array.getElem?_eq_some_iff.1 h2).1
  have l3 : pm < w.heap.size := by obtain ⟨_, _, h, _⟩ := h3; exact (Array.getElem?_eq_some_iff.1 h).1
  exact ⟨hok, A, c, (hg.block pd l1 (fun e => (hS pd l1 e).1 rfl)).trans h1, (hg.block ps l2 (fun e => (hS ps l2 e).2.1 rfl)).trans h2, h3.keep hg (fun e => (hS pm l3 e).2.2 rfl), h4.keep hg (hstay A c h1), h5⟩

theorem IsD.non {w w' : World} {pd ps pm : Nat} {D : Dk} (h : IsD w pd ps pm D) (hg : Chg Non w w') : IsD w' pd ps pm D :=
  h.keep hg (fun _ _ e => e.elim) (fun _ _ _ _ _ _ _ e => e)

/-- the cells of the struct -/
theorem IsD.cells {w : World} {pd ps pm : Nat} {D : Dk} (h : IsD w pd ps pm D) : ∃ A c,
    w.cell? ⟨pd, 0, none⟩ = some (.bool D.up) ∧ w.cell? ⟨pd, 1, none⟩ = some (.slice (some ⟨ps, 0, none⟩) D.sec.length D.sec.length) ∧ w.cell? ⟨pd, 2, none⟩ = some (.map (some pm)) ∧
    w.cell? ⟨pd, 3, none⟩ = some (.int .i64 D.left) ∧ w.cell? ⟨pd, 4, none⟩ = some (.slice A D.stay.length c) ∧ Rd w A D.stay ∧ D.stay.length ≤ c ∧ c ≤ maxLen := by
  obtain ⟨hok, A, c, h1, h2, h3, h4, h5, h6, h7⟩ := h
  exact ⟨A, c, by rw [cell_of_row _ _ _ _ _ _ h1]; rfl, by rw [cell_of_row _ _ _ _ _ _ h1]; rfl, by rw [cell_of_row _ _ _ _ _ _ h1]; rfl, by rw [cell_of_row _ _ _ _ _ _ h1]; rfl, by rw [cell_of_row _ _ _ _ _ _ h1]; rfl, h4, h6, h7⟩

theorem IsD.free {w : World} {pd ps pm : Nat} {D : Dk} (h : IsD w pd ps pm D) (i : Nat) : w.frozen? ⟨pd, i, none⟩ = false := by
  obtain ⟨hok, A, c, h1, _⟩ := h
  exact frozen_of_row _ _ _ _ _ h1

/-- a store into one field -/
theorem IsD.set {w : World} {pd ps pm : Nat} {D D' : Dk} (h : IsD w pd ps pm D) (i : Nat) (v : Value) (hs : D'.sec = D.sec) (hc : D'.cache = D.cache) (hst : D'.stay = D.stay) (hok : D'.Ok)
    (hv : ∀ A c, (dCells D ps pm A c).setIfInBounds i v = dCells D' ps pm A c) : IsD (w.setCell ⟨pd, i, none⟩ v) pd ps pm D' := by
  have hne := h.ne
  obtain ⟨_, A, c, h1, h2, h3, h4, h5, h6, h7⟩ := h
  have hg : Chg (fun k => k = pd) w (w.setCell ⟨pd, i, none⟩ v) := (Chg.refl (fun k => k = pd) _).setCell (p := ⟨pd, i, none⟩) (.inl rfl) _
  refine ⟨hok, A, c, ?_, ?_, ?_, ?_, by rw [hst]; exact h5, by rw [hst]; exact h6, h7⟩
  · rw [heap_setCell_same _ _ _ _ _ _ h1, hv]
  · rw [hs]; exact (hg.block ps (Array.getElem?_eq_some_iff.1 h2).1 (Ne.symm hne.1)).trans h2
  · rw [hc]; exact h3.keep hg (Ne.symm hne.2.1)
  · rw [hst]; exact h4.keep hg (fun b o e hne' => (stay_ne h1 h3 h4 b o e hne').1)

set_option maxRecDepth 100000 in
set_option maxHeartbeats 2000000 in
theorem dnone_ok (pd ps pm : Nat) (D : Dk) (w : World) (h : IsD w pd ps pm D) :
    Calls Tryz.prog 37 #[.pointer (some ⟨pd, 0, none⟩)] w fun e w' => e = .returned (.bool false) ∧ w = w' := by
  obtain ⟨A, c, _, _, h2, _⟩ := h.cells
  have he : ∀ (W : World) (r : Option Nat), (binOp .eql 28 (.map r) (.map none)).run Tryz.prog W = .ok (.bool r.isNone) W := fun W r => run_eql_map_nil W _ _ _ r Tryz.underlying28
  go_enter Tryz.func37, Tryz.ntmps37
  go_wp2
  go_ret
  exact ⟨rfl, rfl⟩

set_option maxRecDepth 100000 in
set_option maxHeartbeats 2000000 in
theorem ready_ok (pd ps pm : Nat) (D : Dk) (w : World) (h : IsD w pd ps pm D) :
    Calls Tryz.prog 32 #[.pointer (some ⟨pd, 0, none⟩)] w fun e w' => e = .returned (.int .i64 D.ready) ∧ w = w' := by
  obtain ⟨A, c, h0, _⟩ := h.cells
  have hn := dnone_ok pd ps pm D w h
  have HN := Lib.hid hn
  clear hn
  unfold Dk.ready
  obtain ⟨u, hu⟩ : ∃ u, D.up = u := ⟨_, rfl⟩
  rw [hu] at h0 ⊢
  clear hu
  cases u with
  | true =>
    go_enter Tryz.func32, Tryz.ntmps32
    go_wp2_with fail
    refine HN.out.mono ?_
    rintro e w' ⟨rfl, rfl⟩
    go_wp2
    go_ret
    exact ⟨rfl, rfl⟩
  | false =>
    go_enter Tryz.func32, Tryz.ntmps32
    go_wp2_with fail
    refine HN.out.mono ?_
    rintro e w' ⟨rfl, rfl⟩
    go_wp2
    go_ret
    exact ⟨rfl, rfl⟩

set_option maxRecDepth 100000 in
set_option maxHeartbeats 2000000 in
theorem Len_ok (pd ps pm : Nat) (D : Dk) (w : World) (h : IsD w pd ps pm D) :
    Calls Tryz.prog 28 #[.pointer (some ⟨pd, 0, none⟩)] w fun e w' => e = .returned (.int .i64 (D.sec.length : Nat)) ∧ w = w' := by
  obtain ⟨A, c, _, h1, _⟩ := h.cells
  have HN := Lib.hid (dnone_ok pd ps pm D w h)
  go_enter Tryz.func28, Tryz.ntmps28
  go_wp2_with fail
  refine HN.out.mono ?_
  rintro e w' ⟨rfl, rfl⟩
  go_wp2
  go_ret
  exact ⟨rfl, rfl⟩

set_option maxRecDepth 100000 in
set_option maxHeartbeats 2000000 in
theorem has_ok (pd ps pm : Nat) (D : Dk) (i : Int) (w : World) (h : IsD w pd ps pm D) :
    Calls Tryz.prog 33 #[.pointer (some ⟨pd, 0, none⟩), .int .i64 i] w fun e w' => e = .returned (.bool (decide (0 ≤ i ∧ i < D.sec.length))) ∧ w = w' := by
  have HN := Lib.hid (Len_ok pd ps pm D w h)
  by_cases h0 : 0 ≤ i
  · by_cases h1 : i < D.sec.length
    · rw [decide_eq_true (show 0 ≤ i ∧ i < D.sec.length from ⟨h0, h1⟩)]
      go_enter Tryz.func33, Tryz.ntmps33
      go_wp2_with fail
      refine HN.out.mono ?_
      rintro e w' ⟨rfl, rfl⟩
      go_wp2
      go_ret
      exact ⟨rfl, rfl⟩
    · rw [decide_eq_false (show ¬ (0 ≤ i ∧ i < D.sec.length) from fun e => h1 e.2)]
      have hd : decide (i < (D.sec.length : Int)) = false := by simp; omega
      go_enter Tryz.func33, Tryz.ntmps33
      go_wp2_with fail
      refine HN.out.mono ?_
      rintro e w' ⟨rfl, rfl⟩
      go_wp2
      go_ret
      exact ⟨rfl, rfl⟩
  · rw [decide_eq_false (show ¬ (0 ≤ i ∧ i < D.sec.length) from fun e => h0 e.1)]
    have hd : decide (0 ≤ i) = false := by simp; omega
    go_enter Tryz.func33, Tryz.ntmps33
    go_wp2
    go_ret
    exact ⟨rfl, rfl⟩

set_option maxRecDepth 100000 in
set_option maxHeartbeats 2000000 in
theorem Up_ok (pd ps pm : Nat) (D : Dk) (w : World) (h : IsD w pd ps pm D) :
    Calls Tryz.prog 18 #[.pointer (some ⟨pd, 0, none⟩)] w fun e w' => e = .returned (.bool D.up) ∧ w = w' := by
  obtain ⟨A, c, h0, _⟩ := h.cells
  have HN := Lib.hid (dnone_ok pd ps pm D w h)
  go_enter Tryz.func18, Tryz.ntmps18
  go_wp2_with fail
  refine HN.out.mono ?_
  rintro e w' ⟨rfl, rfl⟩
  go_wp2
  go_ret
  exact ⟨rfl, rfl⟩
end Go.Proofs.YthhbdejagglgbaaGreat
