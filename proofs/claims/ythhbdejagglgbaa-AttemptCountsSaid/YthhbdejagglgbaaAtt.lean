/- Walks of package attempt: form, read, Put, Get, Next. -/
import Derived.Test.YthhbdejagglgbaaDiskF
import Derived.Test.YthhbdejagglgbaaReader
namespace Go.Proofs.Ythhbdejagglgbaa
open Go.RowKit
set_option linter.unusedVariables false

/-- the form of two numbers -/
def form2 (a b : Int) : List UInt8 := be (u64 a) 8 ++ be (u64 b) 8
theorem form2_len (a b : Int) : (form2 a b).length = 16 := by simp [form2, be_length]

set_option maxRecDepth 100000 in
set_option maxHeartbeats 2000000 in
theorem form_any (a b : Int) (g : Nat) (w : World) (h0 : w.cell? ⟨g, 0, none⟩ = some (.int .i64 a)) (h1 : w.cell? ⟨g, 1, none⟩ = some (.int .i64 b)) :
    Calls Try.prog 20 #[.slice (some ⟨g, 0, none⟩) 2 2] w (RetB w (form2 a b)) := by
  have hg := lt_of_cell h0
  go_enter Try.func20, Try.ntmps20
  go_wp2_with fail
  refine (NewWriter_any w).mono ?_
  rintro e w1 ⟨rfl, hW1, hg1⟩
  have k0 : w1.cell? ⟨g, 0, none⟩ = some (.int .i64 a) := hg1.cell_some h0 (fun e => e)
  have k1 : w1.cell? ⟨g, 1, none⟩ = some (.int .i64 b) := hg1.cell_some h1 (fun e => e)
  go_wp2_with fail
  refine wp_loop_rounds 3 ?_
  rw [rounds_succ]
  go_wp2_with fail
  refine (WInt_room w.heap.size w.heap.size [] a w1 hW1 (by simp)).mono ?_
  rintro e w2 ⟨rfl, hW2, hb2⟩
  have k2 : w2.cell? ⟨g, 1, none⟩ = some (.int .i64 b) := (hb2.cell (p := ⟨g, 1, none⟩) hg).trans k1
  have hl2 : ([] ++ be (u64 a) 8 : List UInt8).length + 8 ≤ 65536 := by simp [be_length]
  have hI := WInt_room w.heap.size w.heap.size ([] ++ be (u64 a) 8) b w2 hW2 hl2
  rw [List.nil_append] at hI
  have HI := Lib.hid hI
  clear hI hl2
  go_wp2
  rw [rounds_succ]
  go_wp2_with fail
  refine HI.out.mono ?_
  rintro e w3 ⟨rfl, hW3, hb3⟩
  go_wp2
  rw [rounds_succ]
  have hD := WDone_ok w.heap.size w.heap.size (form2 a b) w3 hW3 (by rw [form2_len]; omega)
  have HD := Lib.hid hD
  have HL := Lib.hid (form2_len a b)
  clear hD hW3 hW2 hW1
  obtain ⟨m, hm⟩ : ∃ m, form2 a b = m := ⟨_, rfl⟩
  rw [hm] at HD HL
  have HM := Lib.hid hm
  clear hm
  go_wp2_with fail
  refine HD.out.mono ?_
  rintro e w4 ⟨A, c, rfl, hc, hmx, ho, hg4⟩
  go_wp2
  go_ret
  have hb : Below w.heap.size w w3 := (hg1.below_non.trans hb2).trans hb3
  rw [HM.out]
  exact ⟨A, c, rfl, hc, hmx, ho, (Chg.of_below hb (Nat.le_refl _)).then_non hg4⟩

/-- the attempt record that a sector is; zeros, if it is none's -/
def attRec (s : List UInt8) : Int × Int :=
  match openL 2 s with
  | none => (0, 0)
  | some m =>
    let a := rdInt m 0
    let b := rdInt a.2.1 a.2.2
    if b.2.2 = 0 ∧ b.2.1 = [] ∧ 1 ≤ a.1 ∧ 1 ≤ b.1 then (a.1, b.1) else (0, 0)

theorem rdInt_er (l : List UInt8) (er : Int) (h : er = 0 ∨ er = 50) : (rdInt l er).2.2 = 0 ∨ (rdInt l er).2.2 = 50 := by
  unfold rdInt
  rcases h with rfl | rfl
  · simp only [if_true]
    split <;> simp
  · simp

theorem bounds_i64 (n : Nat) : -9223372036854775808 ≤ i64 n ∧ i64 n ≤ 9223372036854775807 := by
  unfold i64 wrap64
  omega
theorem rdInt_bd (l : List UInt8) (er : Int) : -9223372036854775808 ≤ (rdInt l er).1 ∧ (rdInt l er).1 ≤ 9223372036854775807 := by
  unfold rdInt
  split
  · split
    · exact bounds_i64 _
    · simp
  · simp

theorem rec_stored {W : World} {g : Nat} {v0 v1 u0 u1 : Value} {t : TypeId} (o : Obj) (h : W.heap[g]? = some (.cells #[v0, v1] t (0, 0))) :
    (((W.setCell ⟨g, 0, none⟩ u0).setCell ⟨g, 1, none⟩ u1).alloc o).heap[g]? = some (.cells #[u0, u1] t (0, 0)) := by
  have hl : g < W.heap.size := (Array.getElem?_eq_some_iff.1 h).1
  rw [Below.heap_alloc _ _ _ (by simpa [World.setCell] using hl), heap_setCell_same _ _ _ _ _ _ (heap_setCell_same _ _ _ _ _ _ h)]
  rfl

/-- the result's cell is kept while the reader is read -/
theorem rec_kept {w w1 w4 : World} {t : TypeId} {v0 v1 : Value} (hg1 : Chg Non (w.alloc (.cells #[v0, v1] t)) w1) (hg : Chg (At w1.heap.size) w1 w4) :
    Chg Non (w.alloc (.cells #[v0, v1] t)) w4 ∧ w4.heap[w.heap.size]? = some (.cells #[v0, v1] t (0, 0)) ∧ w.heap.size < w4.heap.size := by
  have hch : Chg Non (w.alloc (.cells #[v0, v1] t)) w4 := hg1.then_new hg (fun x e => by unfold At at e; have := hg1.size; omega)
  exact ⟨hch, (hch.block _ (by simp) (fun e => e)).trans (heap_alloc_new _ _), by have := hch.size; simp at this; omega⟩

set_option maxRecDepth 100000 in
set_option maxHeartbeats 2000000 in
theorem attRead_any (A : Option Addr) (l : List UInt8) (cap : Nat) (w : World) (hr : Rd w A l) (h64 : 64 ≤ l.length) (hl : l.length ≤ 64) (hcap : l.length ≤ cap) (hm : cap ≤ maxLen) :
    Calls Try.prog 17 #[.slice A l.length cap] w fun e w' => e = .returned (.agg #[.int .i64 (attRec l).1, .int .i64 (attRec l).2]) ∧ Chg Non w w' := by
  unfold attRec
  cases ho : openL 2 l with
  | none =>
    have HO := Lib.hid (fun W h => Open_none 2 A l cap W h h64 hl hcap hm ho)
    clear ho
    have HN := Lib.hid (fun W => NewReader_ok none [] 0 W (Rd.nil _ _) (by simp))
    go_enter Try.func17, Try.ntmps17
    go_wp2_with fail
    refine (HO.out _ (hr.non ((Chg.refl _ _).alloc _))).mono ?_
    rintro e w1 ⟨rfl, hg1⟩
    go_wp2_with fail
    refine (HN.out w1).mono ?_
    rintro e w2 ⟨rfl, hR2, hg2⟩
    go_wp2_with fail
    refine (RInt_any _ _ _ _ hR2).mono ?_
    rintro e w3 ⟨rfl, hR3, hg3⟩
    go_wp2_with fail
    refine (RInt_any _ _ _ _ hR3).mono ?_
    rintro e w4 ⟨rfl, hR4, hg4⟩
    obtain ⟨hch, hb4, hlt4⟩ := rec_kept hg1 ((hg2.non_then hg3).trans_same hg4)
    have k0 : w4.cell? ⟨w.heap.size, 0, none⟩ = some (.int .i64 0) := by rw [cell_of_row _ _ _ _ _ _ hb4]; rfl
    have k1 : w4.cell? ⟨w.heap.size, 1, none⟩ = some (.int .i64 0) := by rw [cell_of_row _ _ _ _ _ _ hb4]; rfl
    have f0 : w4.frozen? ⟨w.heap.size, 0, none⟩ = false := frozen_of_row _ _ _ _ _ hb4
    have f1 : w4.frozen? ⟨w.heap.size, 1, none⟩ = false := frozen_of_row _ _ _ _ _ hb4
    have HB4 := Lib.hid hb4
    clear hb4 hR2 hR3 hR4 hg1 hg2 hg3 hg4
    go_wp2
    refine bodyPost_ret (results_cell_row Try.results17 _ _ w.heap.size 45 _ (0, 0) _ rfl (rec_stored _ HB4.out) Try.underlying45 rfl (by kernel_rfl)) rfl ⟨rfl, ?_⟩
    exact ((((Chg.refl Non w).alloc _).then_non hch).setCell (.inr (Nat.le_refl _)) _).setCell (.inr (Nat.le_refl _)) _ |>.alloc _
  | some m =>
    have HO := Lib.hid (fun W h => Open_some 2 A l m cap W h h64 hl hcap hm ho)
    have hml : m.length ≤ 65536 := by
      unfold openL at ho
      split at ho
      · injection ho with ho
        rw [← ho, List.length_take, List.length_drop]; omega
      · cases ho
    clear ho
    obtain ⟨x1, l1, e1, hq1⟩ : ∃ x1 l1 e1, rdInt m 0 = (x1, l1, e1) := ⟨_, _, _, rfl⟩
    obtain ⟨x2, l2, e2, hq2⟩ : ∃ x2 l2 e2, rdInt l1 e1 = (x2, l2, e2) := ⟨_, _, _, rfl⟩
    have hbd1 := rdInt_bd m 0
    have hbd2 := rdInt_bd l1 e1
    have hR1 := fun p W h => RInt_any p m 0 W h
    have hR2 := fun p W h => RInt_any p l1 e1 W h
    rw [hq1] at hR1 hbd1
    rw [hq2] at hR2 hbd2
    simp only at hR1 hR2 hbd1 hbd2
    have HR1 := Lib.hid hR1
    have HR2 := Lib.hid hR2
    simp only [hq1, hq2]
    clear hR1 hR2 hq1 hq2
    have HE := Lib.hid (fun p W h => End_any p l2 e2 W h)
    have hcond : (if e2 = 0 ∧ l2 = [] ∧ 1 ≤ x1 ∧ 1 ≤ x2 then (x1, x2) else (0, 0)) = if (if e2 = 0 ∧ l2 ≠ [] then (50 : Int) else e2) = 0 ∧ 1 ≤ min x1 x2 then (x1, x2) else (0, 0) := by
      by_cases he : e2 = 0
      · by_cases hl2 : l2 = []
        · simp only [he, hl2, ne_eq, not_true_eq_false, and_false, if_false, true_and]
          have : (1 ≤ x1 ∧ 1 ≤ x2) ↔ 1 ≤ min x1 x2 := by omega
          simp only [this]
        · simp [he, hl2]
      · simp [he]
    rw [hcond]
    clear hcond
    obtain ⟨er, her⟩ : ∃ er, (if e2 = 0 ∧ l2 ≠ [] then (50 : Int) else e2) = er := ⟨_, rfl⟩
    rw [her] at HE ⊢
    clear her
    have HN := Lib.hid (fun B W c h => NewReader_ok B m c W h hml)
    by_cases hc : er = 0 ∧ 1 ≤ min x1 x2
    · rw [if_pos hc]
      obtain ⟨rfl, hmin⟩ := hc
      have hd : decide (min x1 x2 < 1) = false := by simp; omega
      clear hmin
      go_enter Try.func17, Try.ntmps17
      go_wp2_with fail
      refine (HO.out _ (hr.non ((Chg.refl _ _).alloc _))).mono ?_
      rintro e w1 ⟨A1, c1, rfl, hc1, hm1, ho1, hg1⟩
      go_wp2_with fail
      refine (HN.out A1 w1 c1 ho1.rd).mono ?_
      rintro e w2 ⟨rfl, hR2, hg2⟩
      go_wp2_with fail
      refine (HR1.out _ _ hR2).mono ?_
      rintro e w3 ⟨rfl, hR3, hg3⟩
      go_wp2_with fail
      refine (HR2.out _ _ hR3).mono ?_
      rintro e w4 ⟨rfl, hR4, hg4⟩
      obtain ⟨hch, hb4, hlt4⟩ := rec_kept hg1 ((hg2.non_then hg3).trans_same hg4)
      have k0 : w4.cell? ⟨w.heap.size, 0, none⟩ = some (.int .i64 0) := by rw [cell_of_row _ _ _ _ _ _ hb4]; rfl
      have k1 : w4.cell? ⟨w.heap.size, 1, none⟩ = some (.int .i64 0) := by rw [cell_of_row _ _ _ _ _ _ hb4]; rfl
      have f0 : w4.frozen? ⟨w.heap.size, 0, none⟩ = false := frozen_of_row _ _ _ _ _ hb4
      have f1 : w4.frozen? ⟨w.heap.size, 1, none⟩ = false := frozen_of_row _ _ _ _ _ hb4
      have HB4 := Lib.hid hb4
      clear hb4 hR2 hR3 hg1 hg2 hg3 hg4
      go_wp2_with fail
      refine (HE.out _ _ (hR4.non ((Chg.refl _ _).alloc _))).mono ?_
      rintro e w5 ⟨rfl, rfl⟩
      go_wp2
      refine bodyPost_ret (results_cell_row Try.results17 _ _ w.heap.size 45 _ (0, 0) _ rfl (rec_stored _ HB4.out) Try.underlying45 rfl (by kernel_rfl)) rfl ⟨rfl, ?_⟩
      exact ((((Chg.refl Non w).alloc _).then_non hch).setCell (.inr (Nat.le_refl _)) _).setCell (.inr (Nat.le_refl _)) _ |>.alloc _
    · rw [if_neg hc]
      by_cases he : er = 0
      · have hmin : ¬ 1 ≤ min x1 x2 := fun h => hc ⟨he, h⟩
        subst he
        have hd : decide (min x1 x2 < 1) = true := by simp; omega
        clear hmin hc
        go_enter Try.func17, Try.ntmps17
        go_wp2_with fail
        refine (HO.out _ (hr.non ((Chg.refl _ _).alloc _))).mono ?_
        rintro e w1 ⟨A1, c1, rfl, hc1, hm1, ho1, hg1⟩
        go_wp2_with fail
        refine (HN.out A1 w1 c1 ho1.rd).mono ?_
        rintro e w2 ⟨rfl, hR2, hg2⟩
        go_wp2_with fail
        refine (HR1.out _ _ hR2).mono ?_
        rintro e w3 ⟨rfl, hR3, hg3⟩
        go_wp2_with fail
        refine (HR2.out _ _ hR3).mono ?_
        rintro e w4 ⟨rfl, hR4, hg4⟩
        obtain ⟨hch, hb4, hlt4⟩ := rec_kept hg1 ((hg2.non_then hg3).trans_same hg4)
        have k0 : w4.cell? ⟨w.heap.size, 0, none⟩ = some (.int .i64 0) := by rw [cell_of_row _ _ _ _ _ _ hb4]; rfl
        have k1 : w4.cell? ⟨w.heap.size, 1, none⟩ = some (.int .i64 0) := by rw [cell_of_row _ _ _ _ _ _ hb4]; rfl
        have f0 : w4.frozen? ⟨w.heap.size, 0, none⟩ = false := frozen_of_row _ _ _ _ _ hb4
        have f1 : w4.frozen? ⟨w.heap.size, 1, none⟩ = false := frozen_of_row _ _ _ _ _ hb4
        have HB4 := Lib.hid hb4
        clear hb4 hR2 hR3 hg1 hg2 hg3 hg4
        go_wp2_with fail
        refine (HE.out _ _ (hR4.non ((Chg.refl _ _).alloc _))).mono ?_
        rintro e w5 ⟨rfl, rfl⟩
        go_wp2
        refine bodyPost_ret (results_cell_row Try.results17 _ _ w.heap.size 45 _ (0, 0) _ rfl (rec_stored _ HB4.out) Try.underlying45 rfl (by kernel_rfl)) rfl ⟨rfl, ?_⟩
        exact ((((Chg.refl Non w).alloc _).then_non hch).setCell (.inr (Nat.le_refl _)) _).setCell (.inr (Nat.le_refl _)) _ |>.alloc _
      · have hd : (er != 0) = true := by simpa using he
        clear hc he
        go_enter Try.func17, Try.ntmps17
        go_wp2_with fail
        refine (HO.out _ (hr.non ((Chg.refl _ _).alloc _))).mono ?_
        rintro e w1 ⟨A1, c1, rfl, hc1, hm1, ho1, hg1⟩
        go_wp2_with fail
        refine (HN.out A1 w1 c1 ho1.rd).mono ?_
        rintro e w2 ⟨rfl, hR2, hg2⟩
        go_wp2_with fail
        refine (HR1.out _ _ hR2).mono ?_
        rintro e w3 ⟨rfl, hR3, hg3⟩
        go_wp2_with fail
        refine (HR2.out _ _ hR3).mono ?_
        rintro e w4 ⟨rfl, hR4, hg4⟩
        obtain ⟨hch, hb4, hlt4⟩ := rec_kept hg1 ((hg2.non_then hg3).trans_same hg4)
        have k0 : w4.cell? ⟨w.heap.size, 0, none⟩ = some (.int .i64 0) := by rw [cell_of_row _ _ _ _ _ _ hb4]; rfl
        have k1 : w4.cell? ⟨w.heap.size, 1, none⟩ = some (.int .i64 0) := by rw [cell_of_row _ _ _ _ _ _ hb4]; rfl
        have f0 : w4.frozen? ⟨w.heap.size, 0, none⟩ = false := frozen_of_row _ _ _ _ _ hb4
        have f1 : w4.frozen? ⟨w.heap.size, 1, none⟩ = false := frozen_of_row _ _ _ _ _ hb4
        have HB4 := Lib.hid hb4
        clear hb4 hR2 hR3 hg1 hg2 hg3 hg4
        go_wp2_with fail
        refine (HE.out _ _ (hR4.non ((Chg.refl _ _).alloc _))).mono ?_
        rintro e w5 ⟨rfl, rfl⟩
        go_wp2
        refine bodyPost_ret (results_cell_row Try.results17 _ _ w.heap.size 45 _ (0, 0) _ rfl (rec_stored _ HB4.out) Try.underlying45 rfl (by kernel_rfl)) rfl ⟨rfl, ?_⟩
        exact ((((Chg.refl Non w).alloc _).then_non hch).setCell (.inr (Nat.le_refl _)) _).setCell (.inr (Nat.le_refl _)) _ |>.alloc _
end Go.Proofs.Ythhbdejagglgbaa
