/- Attempts on a disk of one's own, that is up and has nothing in its cache; the chapter's examples (awake). -/
import Derived.Test.YthhbdejagglgbaaAttL
namespace Go.Proofs.Ythhbdejagglgbaa
open Go.RowKit
set_option linter.unusedVariables false

/-- since w0 a disk was made, in blocks pd, ps, pm; nothing else was changed; its record is of number a, and tells b attempts (0: no record) -/
def Kept (w0 w : World) (pd ps pm : Nat) (a b : Int) : Prop :=
  ∃ D s, IsD w pd ps pm D ∧ Calm D s ∧ (∀ q, recN s q = if a = q then b else 0) ∧ w0.heap.size ≤ pd ∧ w0.heap.size ≤ ps ∧ w0.heap.size ≤ pm ∧ Chg Non w0 w

theorem Kept.non {w0 w w' : World} {pd ps pm : Nat} {a b : Int} (h : Kept w0 w pd ps pm a b) (hg : Chg Non w w') : Kept w0 w' pd ps pm a b := by
  obtain ⟨D, s, h1, h2, h3, h4, h5, h6, h7⟩ := h
  exact ⟨D, s, h1.non hg, h2, h3, h4, h5, h6, h7.then_non hg⟩
theorem Kept.chg {w0 w : World} {pd ps pm : Nat} {a b : Int} (h : Kept w0 w pd ps pm a b) : Chg Non w0 w := by
  obtain ⟨D, s, h1, h2, h3, h4, h5, h6, h7⟩ := h
  exact h7

theorem kept_new (w0 w : World) (h0 : Chg Non w0 w) : Calls Try.prog 11 #[.int .i64 3] w fun e w' => ∃ pd ps pm, e = .returned (.tuple #[.pointer (some ⟨pd, 0, none⟩), .int .i64 0]) ∧ Kept w0 w' pd ps pm 0 0 := by
  refine (New_ok 3 w (by omega) (by omega)).mono ?_
  rintro e w' ⟨pd, ps, pm, rfl, h, h1, h2, h3, hg⟩
  have hs := h0.size
  exact ⟨pd, ps, pm, rfl, Dk.new 3, List.replicate 64 0, h, calm_new, fun q => by rw [recN_zero]; simp, by omega, by omega, by omega, h0.then_non hg⟩

theorem kept_get {w0 w : World} {pd ps pm : Nat} {a b : Int} (h : Kept w0 w pd ps pm a b) (q : Int) :
    Calls Try.prog 7 #[.pointer (some ⟨pd, 0, none⟩), .int .i64 q] w fun e w' => e = .returned (.tuple #[.int .i64 (if a = q then b else 0), .int .i64 0]) ∧ Kept w0 w' pd ps pm a b := by
  have hk := h
  obtain ⟨D, s, h1, h2, h3, h4, h5, h6, h7⟩ := h
  refine (Get_up pd ps pm D q w h1 h2.up (by rw [h2.len]; omega)).mono ?_
  rintro e w' ⟨rfl, hg⟩
  rw [h2.attN, h3]
  exact ⟨rfl, hk.non hg⟩

theorem kept_next {w0 w : World} {pd ps pm : Nat} {a b : Int} (h : Kept w0 w pd ps pm a b) (q : Int) (hq : 1 ≤ q) (hq2 : q ≤ 9223372036854775807) (hb : 0 ≤ b) (hb2 : b ≤ 1000) :
    Calls Try.prog 8 #[.pointer (some ⟨pd, 0, none⟩), .int .i64 q] w fun e w' => e = .returned (.tuple #[.int .i64 ((if a = q then b else 0) + 1), .int .i64 0]) ∧ Kept w0 w' pd ps pm q ((if a = q then b else 0) + 1) := by
  obtain ⟨D, s, h1, h2, h3, h4, h5, h6, h7⟩ := h
  have hn : 0 ≤ recN s q ∧ recN s q ≤ 1000 := by rw [h3]; split <;> omega
  obtain ⟨k1, k2⟩ := h2.next q hq hn.1 (by omega)
  refine (Next_up pd ps pm D q w h1 h2.up h2.sz (by rw [h2.len]; omega) (by rw [h2.attN]; omega)).mono ?_
  rintro e w' ⟨rfl, hd, hg⟩
  rw [k1, ← h3]
  refine ⟨rfl, _, _, hd, k2, fun x => recN_seal _ _ _ hq (by omega) hq2 (by omega), h4, h5, h6, h7.then_new hg ?_⟩
  rintro x (rfl | rfl | rfl) <;> assumption

theorem kept_next_arg {w0 w : World} {pd ps pm : Nat} {a b : Int} (h : Kept w0 w pd ps pm a b) (q : Int) (hq : q < 1) (hb : b ≤ 1000) :
    Calls Try.prog 8 #[.pointer (some ⟨pd, 0, none⟩), .int .i64 q] w fun e w' => e = .returned (.tuple #[.int .i64 0, .int .i64 2]) ∧ Kept w0 w' pd ps pm a b := by
  obtain ⟨D, s, h1, h2, h3, h4, h5, h6, h7⟩ := h
  have hn : recN s q ≤ 1000 := by rw [h3]; split <;> omega
  have he : attNext D q = (D, 0, 2) := by unfold attNext; rw [if_pos hq]
  refine (Next_up pd ps pm D q w h1 h2.up h2.sz (by rw [h2.len]; omega) (by rw [h2.attN]; omega)).mono ?_
  rintro e w' ⟨rfl, hd, hg⟩
  rw [he] at hd ⊢
  refine ⟨rfl, _, _, hd, h2, h3, h4, h5, h6, h7.then_new hg ?_⟩
  rintro x (rfl | rfl | rfl) <;> assumption

theorem kept_put {w0 w : World} {pd ps pm : Nat} {a b : Int} (h : Kept w0 w pd ps pm a b) (q n : Int) (hq : 1 ≤ q) (hq2 : q ≤ 9223372036854775807) (hn : 1 ≤ n) (hn2 : n ≤ 9223372036854775807) :
    Calls Try.prog 9 #[.pointer (some ⟨pd, 0, none⟩), .int .i64 q, .int .i64 n] w fun e w' => e = .returned (.int .i64 0) ∧ Kept w0 w' pd ps pm q n := by
  obtain ⟨D, s, h1, h2, h3, h4, h5, h6, h7⟩ := h
  obtain ⟨k1, k2⟩ := h2.put q n hq hn
  refine (Put_any pd ps pm D q n w h1 h2.sz (by rw [h2.len]; omega)).mono ?_
  rintro e w' ⟨rfl, hd, hg⟩
  rw [k1]
  refine ⟨rfl, _, _, hd, k2, fun x => recN_seal _ _ _ hq hn hq2 hn2, h4, h5, h6, h7.then_new hg ?_⟩
  rintro x (rfl | rfl | rfl) <;> assumption

theorem kept_put_arg {w0 w : World} {pd ps pm : Nat} {a b : Int} (h : Kept w0 w pd ps pm a b) (q n : Int) (hn : min q n < 1) :
    Calls Try.prog 9 #[.pointer (some ⟨pd, 0, none⟩), .int .i64 q, .int .i64 n] w fun e w' => e = .returned (.int .i64 2) ∧ Kept w0 w' pd ps pm a b := by
  obtain ⟨D, s, h1, h2, h3, h4, h5, h6, h7⟩ := h
  have he := put_arg D q n hn
  refine (Put_any pd ps pm D q n w h1 h2.sz (by rw [h2.len]; omega)).mono ?_
  rintro e w' ⟨rfl, hd, hg⟩
  rw [he] at hd ⊢
  refine ⟨rfl, _, _, hd, h2, h3, h4, h5, h6, h7.then_new hg ?_⟩
  rintro x (rfl | rfl | rfl) <;> assumption
end Go.Proofs.Ythhbdejagglgbaa
