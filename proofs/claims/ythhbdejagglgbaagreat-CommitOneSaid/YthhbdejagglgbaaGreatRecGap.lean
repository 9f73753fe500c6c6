/- The law CommitGap: a record that is no neighbour of the last one is none ahead; the greater one is the last one. Holds for every two records; no condition. -/
import Derived.Test.YthhbdejagglgbaaGreatRecAw
namespace Go.Proofs.YthhbdejagglgbaaGreat
open Go.RowKit
set_option linter.unusedVariables false

theorem eq_same (a : Rec) (h : a.Bd) (w : World) : (binOp .eql 25 (.agg (recA a)) (.agg (recA a))).run Tryz.prog w = .ok (.bool true) w := by
  obtain ⟨q, hq, hr⟩ := eq_rec a a h h
  have : q = true := hq.2 rfl
  subst this
  exact (hr w).1

theorem KeptC.ge {w0 w : World} {pd ps pm n : Nat} {a b : Rec} (h : KeptC w0 w pd ps pm n a b) : w0.heap.size ≤ pd ∧ w0.heap.size ≤ ps ∧ w0.heap.size ≤ pm := by
  obtain ⟨_, _, _, h1, h2, h3, _⟩ := h
  exact ⟨h1, h2, h3⟩

theorem KeptC.newKeep {T : Nat → Prop} {w0 w w' : World} {pd ps pm n : Nat} {a b : Rec} (h : KeptC w0 w pd ps pm n a b) (hg : Chg T w w') (hT : ∀ x, T x → x ≠ pd ∧ x ≠ ps ∧ x ≠ pm ∧ w0.heap.size ≤ x) : KeptC w0 w' pd ps pm n a b := by
  obtain ⟨D, h1, h2, h4, h5, h6, h7⟩ := h
  refine ⟨D, h1.keep hg (fun x hx e => ?_) (fun A' c' _ b' o' _ hne => absurd h2.stay hne), h2, h4, h5, h6, h7.then_new hg (fun x e => (hT x e).2.2.2)⟩
  obtain ⟨k1, k2, k3, _⟩ := hT x e
  exact ⟨k1, k2, k3⟩

/-- the greater one, and the other one, if it is one less -/
theorem gap_tell (x y : Rec) (hx : x.may = true) (hy : y.may = true) (h0 : x.seqn % 2 = 0) (h1 : y.seqn % 2 ≠ 0) :
    cTell x y = if x.seqn < y.seqn then (y, if y.seqn - x.seqn = 1 then x else Rec.zero, 0) else (x, if x.seqn - y.seqn = 1 then y else Rec.zero, 0) := by
  have a1 := (may_true hx).1
  have b1 := (may_true hy).1
  have zx : ¬ x = Rec.zero := fun e => by rw [e] at a1; simp [Rec.zero] at a1
  have zy : ¬ y = Rec.zero := fun e => by rw [e] at b1; simp [Rec.zero] at b1
  unfold cTell
  by_cases h : x.seqn < y.seqn
  · rw [if_pos h, if_pos h]
    refine (if_neg zy).trans ?_
    by_cases hd : y.seqn - x.seqn = 1
    · rw [if_pos hd]; exact if_neg (by show ¬ (x.seqn ≠ y.seqn - 1); omega)
    · rw [if_neg hd]; exact if_pos (by show x.seqn ≠ y.seqn - 1; omega)
  · rw [if_neg h, if_neg h]
    refine (if_neg zx).trans ?_
    by_cases hd : x.seqn - y.seqn = 1
    · rw [if_pos hd]; exact if_neg (by show ¬ (y.seqn ≠ x.seqn - 1); omega)
    · rw [if_neg hd]; exact if_pos (by show y.seqn ≠ x.seqn - 1; omega)

set_option maxRecDepth 100000 in
set_option maxHeartbeats 4000000 in
theorem gap_same (a b : Rec) (ha : a.Bd) (hb : b.Bd) (hma : a.may = true) (hmb : b.may = true) (hpar : a.seqn % 2 = b.seqn % 2) (w : World) :
    Calls Tryz.prog 5 #[.agg (recA a), .agg (recA b)] w fun e w' => e = .returned (.bool true) ∧ Chg Non w w' := by
  have HSA := Lib.hid (recA_size a ha.1)
  have HSB := Lib.hid (recA_size b hb.1)
  have HOA := Lib.hid (recA_one a)
  have HOB := Lib.hid (recA_one b)
  have HCA := Lib.hid (recA_0 a)
  have HCB := Lib.hid (recA_0 b)
  have hMA := May_any a
  have hMB := May_any b
  rw [hma] at hMA
  rw [hmb] at hMB
  have HMA := Lib.hid hMA
  have HMB := Lib.hid hMB
  have a1 := (may_true hma).1
  have b1 := (may_true hmb).1
  have hPA : ∀ (w0 W : World) (pd ps pm n : Nat) (x y : Rec), KeptC w0 W pd ps pm n x y → _ := fun w0 W pd ps pm n x y h => keptC_put h a hma ha.1 ha.2.1.2
  have hPB : ∀ (w0 W : World) (pd ps pm n : Nat) (x y : Rec), KeptC w0 W pd ps pm n x y → _ := fun w0 W pd ps pm n x y h => keptC_put h b hmb hb.1 hb.2.1.2
  have eA := eq_same a ha
  have eB := eq_same b hb
  have eZ := eq_same Rec.zero zero_bd
  have a2 := ha.2.1.2
  have b2 := hb.2.1.2
  obtain ⟨XA, hXA⟩ : ∃ X, recA a = X := ⟨_, rfl⟩
  obtain ⟨XB, hXB⟩ : ∃ X, recA b = X := ⟨_, rfl⟩
  rw [hXA] at HSA HOA HCA HMA eA ⊢
  simp only [hXA] at hPA
  rw [hXB] at HSB HOB HCB HMB eB ⊢
  simp only [hXB] at hPB
  have HXA := Lib.hid hXA
  have HXB := Lib.hid hXB
  have HPA := Lib.hid hPA
  have HPB := Lib.hid hPB
  have HAw := Lib.hid cawake_ok
  have hT0 : Two w.heap.size (w.heap.size + 1) XA XB ((w.alloc (.cells XA 25)).alloc (.cells XB 25)) := ⟨heap_alloc2_old _ _ _, heap_alloc2_new _ _ _⟩
  have HT0 := Lib.hid hT0
  obtain ⟨sa, hsa⟩ : ∃ s, a.seqn = s := ⟨_, rfl⟩
  obtain ⟨sb, hsb⟩ : ∃ s, b.seqn = s := ⟨_, rfl⟩
  have HA := Lib.hid hsa
  have HB := Lib.hid hsb
  simp only [hsa, hsb] at HCA HCB a1 a2 b1 b2 hpar
  have ma : sa.tmod 2 = sa % 2 := Int.tmod_eq_emod_of_nonneg (by omega)
  have mb : sb.tmod 2 = sb % 2 := Int.tmod_eq_emod_of_nonneg (by omega)
  have wa : IntKind.i64.wrap (sa % 2) = sa % 2 := Go.IntWalk.i64_in _ (by omega)
  have wb : IntKind.i64.wrap (sb % 2) = sb % 2 := Go.IntWalk.i64_in _ (by omega)
  clear hXA hXB hT0 hMA hMB hPA hPB hma hmb hsa hsb ha hb
  have hq : (sa % 2 == sb % 2) = true := by rw [beq_iff_eq]; exact hpar
  clear hpar
  go_enter Tryz.func5, Tryz.ntmps5
  go_wp2_with fail
  refine (HAw.out _).mono ?_
  rintro e u ⟨rfl, hg⟩
  have HTU := Lib.hid (HT0.out.non hg)
  have HGU := Lib.hid ((((Chg.refl Non w).alloc _).alloc _).then_non hg)
  clear hg
  go_wp2_with (first
    | (refine sel (some 14) (.load 25 (.tmp 2)) ?_
       refine wpList_loadW (some 14) 25 (.tmp 2) w.heap.size 0 XA _ rfl rfl (by kernel_rfl) (by kernel_rfl) HTU.out.left Tryz.underlying25 rfl (by rw [HSA.out]; exact info_rec) ?_)
    | (go_at_call 13
       refine (HMA.out _).mono ?_
       rintro e u2 ⟨rfl, hg⟩
       have HG2 := Lib.hid (HGU.out.then_non hg)
       have HT2 := Lib.hid (HTU.out.non hg)
       clear hg
       clear HMA)
    | (refine sel (some 18) (.load 25 (.tmp 3)) ?_
       refine wpList_loadW (some 18) 25 (.tmp 3) (w.heap.size + 1) 0 XB _ rfl rfl (by kernel_rfl) (by kernel_rfl) HT2.out.right Tryz.underlying25 rfl (by rw [HSB.out]; exact info_rec) ?_)
    | (go_at_call 13
       refine (HMB.out _).mono ?_
       rintro e u3 ⟨rfl, hg⟩
       have HG3 := Lib.hid (HG2.out.then_non hg)
       have HT3 := Lib.hid (HT2.out.non hg)
       have ka : u3.cell? ⟨w.heap.size, 0, none⟩ = some (.int .i64 sa) := by rw [cell_of_row _ _ _ _ _ _ HT3.out.1]; exact HCA.out
       have kb : u3.cell? ⟨w.heap.size + 1, 0, none⟩ = some (.int .i64 sb) := by rw [cell_of_row _ _ _ _ _ _ HT3.out.2]; exact HCB.out
       clear hg
       clear HMB))
  go_ret
  exact ⟨rfl, HG3.out⟩

set_option maxRecDepth 100000 in
set_option maxHeartbeats 4000000 in
theorem gap_core (a b : Rec) (ha : a.Bd) (hb : b.Bd) (hma : a.may = true) (hmb : b.may = true) (p0 p1 st0 st1 : Rec) (hpar : a.seqn % 2 ≠ b.seqn % 2) (hPA2 : ∀ (w0 W : World) (pd ps pm : Nat), KeptC w0 W pd ps pm 2 Rec.zero Rec.zero → Calls Tryz.prog 10 #[.pointer (some ⟨pd, 0, none⟩), .agg (recA a)] W fun e w' => e = .returned (.int .i64 0) ∧ KeptC w0 w' pd ps pm 2 p0 p1 ∧ Chg (DS pd ps pm) W w')
    (hPB2 : ∀ (w0 W : World) (pd ps pm : Nat), KeptC w0 W pd ps pm 2 p0 p1 → Calls Tryz.prog 10 #[.pointer (some ⟨pd, 0, none⟩), .agg (recA b)] W fun e w' => e = .returned (.int .i64 0) ∧ KeptC w0 w' pd ps pm 2 st0 st1 ∧ Chg (DS pd ps pm) W w')
    (htell : cTell st0 st1 = if a.seqn < b.seqn then (b, if b.seqn - a.seqn = 1 then a else Rec.zero, 0) else (a, if a.seqn - b.seqn = 1 then b else Rec.zero, 0)) (w : World) :
    Calls Tryz.prog 5 #[.agg (recA a), .agg (recA b)] w fun e w' => e = .returned (.bool true) ∧ Chg Non w w' := by
  have HSA := Lib.hid (recA_size a ha.1)
  have HSB := Lib.hid (recA_size b hb.1)
  have HOA := Lib.hid (recA_one a)
  have HOB := Lib.hid (recA_one b)
  have HCA := Lib.hid (recA_0 a)
  have HCB := Lib.hid (recA_0 b)
  have hMA := May_any a
  have hMB := May_any b
  rw [hma] at hMA
  rw [hmb] at hMB
  have HMA := Lib.hid hMA
  have HMB := Lib.hid hMB
  have a1 := (may_true hma).1
  have b1 := (may_true hmb).1
  have hPA : ∀ (w0 W : World) (pd ps pm n : Nat) (x y : Rec), KeptC w0 W pd ps pm n x y → _ := fun w0 W pd ps pm n x y h => keptC_put h a hma ha.1 ha.2.1.2
  have hPB : ∀ (w0 W : World) (pd ps pm n : Nat) (x y : Rec), KeptC w0 W pd ps pm n x y → _ := fun w0 W pd ps pm n x y h => keptC_put h b hmb hb.1 hb.2.1.2
  have eA := eq_same a ha
  have eB := eq_same b hb
  have eZ := eq_same Rec.zero zero_bd
  have a2 := ha.2.1.2
  have b2 := hb.2.1.2
  clear hPA hPB
  have hPA := hPA2
  have hPB := hPB2
  clear hPA2 hPB2
  have hzz : recA Rec.zero = recZ := rfl
  rw [hzz] at eZ
  have HTell := Lib.hid htell
  clear htell
  obtain ⟨XA, hXA⟩ : ∃ X, recA a = X := ⟨_, rfl⟩
  obtain ⟨XB, hXB⟩ : ∃ X, recA b = X := ⟨_, rfl⟩
  rw [hXA] at HSA HOA HCA HMA eA ⊢
  simp only [hXA] at hPA
  rw [hXB] at HSB HOB HCB HMB eB ⊢
  simp only [hXB] at hPB
  have HXA := Lib.hid hXA
  have HXB := Lib.hid hXB
  have HPA := Lib.hid hPA
  have HPB := Lib.hid hPB
  have HAw := Lib.hid cawake_ok
  have hT0 : Two w.heap.size (w.heap.size + 1) XA XB ((w.alloc (.cells XA 25)).alloc (.cells XB 25)) := ⟨heap_alloc2_old _ _ _, heap_alloc2_new _ _ _⟩
  have HT0 := Lib.hid hT0
  obtain ⟨sa, hsa⟩ : ∃ s, a.seqn = s := ⟨_, rfl⟩
  obtain ⟨sb, hsb⟩ : ∃ s, b.seqn = s := ⟨_, rfl⟩
  have HA := Lib.hid hsa
  have HB := Lib.hid hsb
  simp only [hsa, hsb] at HCA HCB a1 a2 b1 b2 hpar
  have ma : sa.tmod 2 = sa % 2 := Int.tmod_eq_emod_of_nonneg (by omega)
  have mb : sb.tmod 2 = sb % 2 := Int.tmod_eq_emod_of_nonneg (by omega)
  have wa : IntKind.i64.wrap (sa % 2) = sa % 2 := Go.IntWalk.i64_in _ (by omega)
  have wb : IntKind.i64.wrap (sb % 2) = sb % 2 := Go.IntWalk.i64_in _ (by omega)
  clear hXA hXB hT0 hMA hMB hPA hPB hma hmb hsa hsb ha hb
  have HZZ := Lib.hid hzz
  have hq : (sa % 2 == sb % 2) = false := by rw [beq_eq_false_iff_ne]; omega
  have HN := Lib.hid (fun W => keptC_new W W 2 (by omega) (by omega) (Chg.refl _ _))
  clear hzz
  go_enter Tryz.func5, Tryz.ntmps5
  go_wp2_with fail
  refine (HAw.out _).mono ?_
  rintro e u ⟨rfl, hg⟩
  have HTU := Lib.hid (HT0.out.non hg)
  have HGU := Lib.hid ((((Chg.refl Non w).alloc _).alloc _).then_non hg)
  clear hg
  go_wp2_with (first
    | (refine sel (some 14) (.load 25 (.tmp 2)) ?_
       refine wpList_loadW (some 14) 25 (.tmp 2) w.heap.size 0 XA _ rfl rfl (by kernel_rfl) (by kernel_rfl) HTU.out.left Tryz.underlying25 rfl (by rw [HSA.out]; exact info_rec) ?_)
    | (go_at_call 13
       refine (HMA.out _).mono ?_
       rintro e u2 ⟨rfl, hg⟩
       have HG2 := Lib.hid (HGU.out.then_non hg)
       have HT2 := Lib.hid (HTU.out.non hg)
       clear hg
       clear HMA)
    | (refine sel (some 18) (.load 25 (.tmp 3)) ?_
       refine wpList_loadW (some 18) 25 (.tmp 3) (w.heap.size + 1) 0 XB _ rfl rfl (by kernel_rfl) (by kernel_rfl) HT2.out.right Tryz.underlying25 rfl (by rw [HSB.out]; exact info_rec) ?_)
    | (go_at_call 13
       refine (HMB.out _).mono ?_
       rintro e u3 ⟨rfl, hg⟩
       have HG3 := Lib.hid (HG2.out.then_non hg)
       have HT3 := Lib.hid (HT2.out.non hg)
       have ka : u3.cell? ⟨w.heap.size, 0, none⟩ = some (.int .i64 sa) := by rw [cell_of_row _ _ _ _ _ _ HT3.out.1]; exact HCA.out
       have kb : u3.cell? ⟨w.heap.size + 1, 0, none⟩ = some (.int .i64 sb) := by rw [cell_of_row _ _ _ _ _ _ HT3.out.2]; exact HCB.out
       clear hg
       clear HMB)
    | (go_at_call 14
       refine (HN.out _).mono ?_
       rintro e u4 ⟨pd, ps, pm, rfl, k, hg⟩
       have hl4 := k.lt
       have KC := Lib.hid k
       have HT4 := Lib.hid (HT3.out.non hg)
       have hs : w.heap.size + 1 < u3.heap.size := (Array.getElem?_eq_some_iff.1 HT3.out.2).1
       have hge : u3.heap.size ≤ pd ∧ u3.heap.size ≤ ps ∧ u3.heap.size ≤ pm := k.ge
       clear k hg ka kb)
    | (refine sel (some 43) (.load 25 (.tmp 2)) ?_
       refine wpList_loadW (some 43) 25 (.tmp 2) w.heap.size 0 XA _ rfl rfl (by kernel_rfl) (by kernel_rfl) HT4.out.left Tryz.underlying25 rfl (by rw [HSA.out]; exact info_rec) ?_)
    | (go_at_call 10
       refine (HPA.out _ _ _ _ _ KC.out).mono ?_
       rintro e u5 ⟨rfl, k, hg⟩
       have hl5 := k.lt
       have KC := Lib.hid k
       have HT5 := Lib.hid (HT4.out.keep hg (by unfold DS; omega) (by unfold DS; omega))
       clear k hg
       clear HPA)
    | (refine sel (some 49) (.load 25 (.tmp 3)) ?_
       refine wpList_loadW (some 49) 25 (.tmp 3) (w.heap.size + 1) 0 XB _ rfl rfl (by kernel_rfl) (by kernel_rfl) HT5.out.right Tryz.underlying25 rfl (by rw [HSB.out]; exact info_rec) ?_)
    | (go_at_call 10
       refine (HPB.out _ _ _ _ _ KC.out).mono ?_
       rintro e u6 ⟨rfl, k, hg⟩
       have hl6 := k.lt
       have KC := Lib.hid k
       have HT6 := Lib.hid (HT5.out.keep hg (by unfold DS; omega) (by unfold DS; omega))
       have hs6 : u3.heap.size ≤ u6.heap.size := by omega
       clear k hg))
  apply wp_cutB (α := Nat × Nat) (f := fun y a => (((a.put (some 53) (.agg XA)).put (some 54) (.agg XB)).put (some 7) (.pointer (some ⟨y.1, 0, none⟩))).put (some 8) (.pointer (some ⟨y.2, 0, none⟩)))
    (R := fun y v => Two y.1 y.2 XA XB v ∧ Chg Non u6 v ∧ u6.heap.size ≤ y.1 ∧ u6.heap.size ≤ y.2 ∧ y.1 ≠ y.2)
  · refine wp_region_any (by kernel_rfl) ?_
    change wpAny _ _ _ _ _ _ _ (World.drew u6)
    have hUs : Chg Non u6 u6.drew := (Chg.refl _ _).drew
    have hUz : u6.heap.size = u6.drew.heap.size := rfl
    have HTU : Hid (Two w.heap.size (w.heap.size + 1) XA XB u6.drew) := Lib.hid HT6.out
    generalize u6.drew = U at hUs hUz HTU ⊢
    have hbU : w.heap.size + 1 < U.heap.size := by omega
    have hsz2 : (U.alloc (.cells recZ 25)).heap.size = U.heap.size + 1 := by simp
    refine g_four 0 1 2 3 (by kernel_rfl) ?_ ?_ ?_ ?_
    · refine g_load (some 53) 25 (.tmp 2) w.heap.size 0 XA _ rfl (by kernel_rfl) (by kernel_rfl) (by kernel_rfl) (by kernel_rfl) (HTU.out.non (Chg.refl Non U)).left Tryz.underlying25 rfl (by rw [HSA.out]; exact info_rec) ?_
      simp only [Act.put, List.setIfInBounds_toArray, List.set_cons_zero, List.set_cons_succ]
      refine g_three 1 2 3 (by kernel_rfl) ?_ ?_ ?_
      · refine g_load (some 54) 25 (.tmp 3) (w.heap.size + 1) 0 XB _ rfl (by kernel_rfl) (by kernel_rfl) (by kernel_rfl) (by kernel_rfl) (HTU.out.non (Chg.refl Non U)).right Tryz.underlying25 rfl (by rw [HSB.out]; exact info_rec) ?_
        simp only [Act.put, List.setIfInBounds_toArray, List.set_cons_zero, List.set_cons_succ]
        refine g_two 2 3 (by kernel_rfl) ?_ ?_
        · refine g_step (some 7) (.pointer (some ⟨U.heap.size, 0, none⟩)) (U.alloc (.cells recZ 25)) rfl (by kernel_rfl) (by kernel_rfl) (by kernel_rfl) ?_
          simp only [Act.put, List.setIfInBounds_toArray, List.set_cons_zero, List.set_cons_succ]
          refine g_one 3 (by kernel_rfl) ?_
          refine g_step (some 8) (.pointer (some ⟨U.heap.size + 1, 0, none⟩)) ((U.alloc (.cells recZ 25)).alloc (.cells recZ 25)) rfl (by kernel_rfl) (by kernel_rfl) (by rw [← hsz2]; kernel_rfl) ?_
          simp only [Act.put, List.setIfInBounds_toArray, List.set_cons_zero, List.set_cons_succ]
          refine g_one 4 (by kernel_rfl) ?_
          refine g_store 25 (.tmp 7) (.tmp 53) U.heap.size XA rfl (by kernel_rfl) (by kernel_rfl) (by kernel_rfl) (by kernel_rfl) (by kernel_rfl) 25 ⟨recZ, (heap_alloc2_old _ _ _), by rw [HSA.out]; exact recZ_size⟩ (by rw [HSA.out]; exact info_rec) HOA.out ?_
          intro W1 hg1 hb1
          have hgs : Chg Non U W1 := (((Chg.refl Non U).alloc _).alloc _).then_new hg1 (fun x e => by omega)
          refine g_one 5 (by kernel_rfl) ?_
          refine g_store 25 (.tmp 8) (.tmp 54) (U.heap.size + 1) XB rfl (by kernel_rfl) (by kernel_rfl) (by kernel_rfl) (by kernel_rfl) (by kernel_rfl) 25 ⟨recZ, (hg1.block (U.heap.size + 1) (by simp <;> omega) (by omega)).trans (heap_alloc2_new _ _ _), by rw [HSB.out]; exact recZ_size⟩ (by rw [HSB.out]; exact info_rec) HOB.out ?_
          intro W2 hg2 hb2
          have hT2 : Two U.heap.size (U.heap.size + 1) XA XB W2 := ⟨(hg2.block U.heap.size (Array.getElem?_eq_some_iff.1 hb1).1 (by omega)).trans hb1, hb2⟩
          refine wpAny_done (by kernel_rfl) ?_ _
          exact ⟨rfl, (U.heap.size, (U.heap.size + 1)), by kernel_rfl, hT2, hUs.then_non (hgs.then_new hg2 (fun x e => by omega)), (by show u6.heap.size ≤ U.heap.size; omega), (by show u6.heap.size ≤ (U.heap.size + 1); omega), (by show U.heap.size ≠ (U.heap.size + 1); omega)⟩
        · refine g_step (some 8) (.pointer (some ⟨U.heap.size, 0, none⟩)) (U.alloc (.cells recZ 25)) rfl (by kernel_rfl) (by kernel_rfl) (by kernel_rfl) ?_
          simp only [Act.put, List.setIfInBounds_toArray, List.set_cons_zero, List.set_cons_succ]
          refine g_one 2 (by kernel_rfl) ?_
          refine g_step (some 7) (.pointer (some ⟨U.heap.size + 1, 0, none⟩)) ((U.alloc (.cells recZ 25)).alloc (.cells recZ 25)) rfl (by kernel_rfl) (by kernel_rfl) (by rw [← hsz2]; kernel_rfl) ?_
          simp only [Act.put, List.setIfInBounds_toArray, List.set_cons_zero, List.set_cons_succ]
          refine g_one 4 (by kernel_rfl) ?_
          refine g_store 25 (.tmp 7) (.tmp 53) (U.heap.size + 1) XA rfl (by kernel_rfl) (by kernel_rfl) (by kernel_rfl) (by kernel_rfl) (by kernel_rfl) 25 ⟨recZ, (heap_alloc2_new _ _ _), by rw [HSA.out]; exact recZ_size⟩ (by rw [HSA.out]; exact info_rec) HOA.out ?_
          intro W1 hg1 hb1
          have hgs : Chg Non U W1 := (((Chg.refl Non U).alloc _).alloc _).then_new hg1 (fun x e => by omega)
          refine g_one 5 (by kernel_rfl) ?_
          refine g_store 25 (.tmp 8) (.tmp 54) U.heap.size XB rfl (by kernel_rfl) (by kernel_rfl) (by kernel_rfl) (by kernel_rfl) (by kernel_rfl) 25 ⟨recZ, (hg1.block U.heap.size (by simp <;> omega) (by omega)).trans (heap_alloc2_old _ _ _), by rw [HSB.out]; exact recZ_size⟩ (by rw [HSB.out]; exact info_rec) HOB.out ?_
          intro W2 hg2 hb2
          have hT2 : Two (U.heap.size + 1) U.heap.size XA XB W2 := ⟨(hg2.block (U.heap.size + 1) (Array.getElem?_eq_some_iff.1 hb1).1 (by omega)).trans hb1, hb2⟩
          refine wpAny_done (by kernel_rfl) ?_ _
          exact ⟨rfl, ((U.heap.size + 1), U.heap.size), by kernel_rfl, hT2, hUs.then_non (hgs.then_new hg2 (fun x e => by omega)), (by show u6.heap.size ≤ (U.heap.size + 1); omega), (by show u6.heap.size ≤ U.heap.size; omega), (by show (U.heap.size + 1) ≠ U.heap.size; omega)⟩
      · refine g_step (some 7) (.pointer (some ⟨U.heap.size, 0, none⟩)) (U.alloc (.cells recZ 25)) rfl (by kernel_rfl) (by kernel_rfl) (by kernel_rfl) ?_
        simp only [Act.put, List.setIfInBounds_toArray, List.set_cons_zero, List.set_cons_succ]
        refine g_two 1 3 (by kernel_rfl) ?_ ?_
        · refine g_load (some 54) 25 (.tmp 3) (w.heap.size + 1) 0 XB _ rfl (by kernel_rfl) (by kernel_rfl) (by kernel_rfl) (by kernel_rfl) (HTU.out.non ((Chg.refl Non U).alloc _)).right Tryz.underlying25 rfl (by rw [HSB.out]; exact info_rec) ?_
          simp only [Act.put, List.setIfInBounds_toArray, List.set_cons_zero, List.set_cons_succ]
          refine g_one 3 (by kernel_rfl) ?_
          refine g_step (some 8) (.pointer (some ⟨U.heap.size + 1, 0, none⟩)) ((U.alloc (.cells recZ 25)).alloc (.cells recZ 25)) rfl (by kernel_rfl) (by kernel_rfl) (by rw [← hsz2]; kernel_rfl) ?_
          simp only [Act.put, List.setIfInBounds_toArray, List.set_cons_zero, List.set_cons_succ]
          refine g_one 4 (by kernel_rfl) ?_
          refine g_store 25 (.tmp 7) (.tmp 53) U.heap.size XA rfl (by kernel_rfl) (by kernel_rfl) (by kernel_rfl) (by kernel_rfl) (by kernel_rfl) 25 ⟨recZ, (heap_alloc2_old _ _ _), by rw [HSA.out]; exact recZ_size⟩ (by rw [HSA.out]; exact info_rec) HOA.out ?_
          intro W1 hg1 hb1
          have hgs : Chg Non U W1 := (((Chg.refl Non U).alloc _).alloc _).then_new hg1 (fun x e => by omega)
          refine g_one 5 (by kernel_rfl) ?_
          refine g_store 25 (.tmp 8) (.tmp 54) (U.heap.size + 1) XB rfl (by kernel_rfl) (by kernel_rfl) (by kernel_rfl) (by kernel_rfl) (by kernel_rfl) 25 ⟨recZ, (hg1.block (U.heap.size + 1) (by simp <;> omega) (by omega)).trans (heap_alloc2_new _ _ _), by rw [HSB.out]; exact recZ_size⟩ (by rw [HSB.out]; exact info_rec) HOB.out ?_
          intro W2 hg2 hb2
          have hT2 : Two U.heap.size (U.heap.size + 1) XA XB W2 := ⟨(hg2.block U.heap.size (Array.getElem?_eq_some_iff.1 hb1).1 (by omega)).trans hb1, hb2⟩
          refine wpAny_done (by kernel_rfl) ?_ _
          exact ⟨rfl, (U.heap.size, (U.heap.size + 1)), by kernel_rfl, hT2, hUs.then_non (hgs.then_new hg2 (fun x e => by omega)), (by show u6.heap.size ≤ U.heap.size; omega), (by show u6.heap.size ≤ (U.heap.size + 1); omega), (by show U.heap.size ≠ (U.heap.size + 1); omega)⟩
        · refine g_step (some 8) (.pointer (some ⟨U.heap.size + 1, 0, none⟩)) ((U.alloc (.cells recZ 25)).alloc (.cells recZ 25)) rfl (by kernel_rfl) (by kernel_rfl) (by rw [← hsz2]; kernel_rfl) ?_
          simp only [Act.put, List.setIfInBounds_toArray, List.set_cons_zero, List.set_cons_succ]
          refine g_two 1 4 (by kernel_rfl) ?_ ?_
          · refine g_load (some 54) 25 (.tmp 3) (w.heap.size + 1) 0 XB _ rfl (by kernel_rfl) (by kernel_rfl) (by kernel_rfl) (by kernel_rfl) (HTU.out.non (((Chg.refl Non U).alloc _).alloc _)).right Tryz.underlying25 rfl (by rw [HSB.out]; exact info_rec) ?_
            simp only [Act.put, List.setIfInBounds_toArray, List.set_cons_zero, List.set_cons_succ]
            refine g_one 4 (by kernel_rfl) ?_
            refine g_store 25 (.tmp 7) (.tmp 53) U.heap.size XA rfl (by kernel_rfl) (by kernel_rfl) (by kernel_rfl) (by kernel_rfl) (by kernel_rfl) 25 ⟨recZ, (heap_alloc2_old _ _ _), by rw [HSA.out]; exact recZ_size⟩ (by rw [HSA.out]; exact info_rec) HOA.out ?_
            intro W1 hg1 hb1
            have hgs : Chg Non U W1 := (((Chg.refl Non U).alloc _).alloc _).then_new hg1 (fun x e => by omega)
            refine g_one 5 (by kernel_rfl) ?_
            refine g_store 25 (.tmp 8) (.tmp 54) (U.heap.size + 1) XB rfl (by kernel_rfl) (by kernel_rfl) (by kernel_rfl) (by kernel_rfl) (by kernel_rfl) 25 ⟨recZ, (hg1.block (U.heap.size + 1) (by simp <;> omega) (by omega)).trans (heap_alloc2_new _ _ _), by rw [HSB.out]; exact recZ_size⟩ (by rw [HSB.out]; exact info_rec) HOB.out ?_
            intro W2 hg2 hb2
            have hT2 : Two U.heap.size (U.heap.size + 1) XA XB W2 := ⟨(hg2.block U.heap.size (Array.getElem?_eq_some_iff.1 hb1).1 (by omega)).trans hb1, hb2⟩
            refine wpAny_done (by kernel_rfl) ?_ _
            exact ⟨rfl, (U.heap.size, (U.heap.size + 1)), by kernel_rfl, hT2, hUs.then_non (hgs.then_new hg2 (fun x e => by omega)), (by show u6.heap.size ≤ U.heap.size; omega), (by show u6.heap.size ≤ (U.heap.size + 1); omega), (by show U.heap.size ≠ (U.heap.size + 1); omega)⟩
          · refine g_store 25 (.tmp 7) (.tmp 53) U.heap.size XA rfl (by kernel_rfl) (by kernel_rfl) (by kernel_rfl) (by kernel_rfl) (by kernel_rfl) 25 ⟨recZ, (heap_alloc2_old _ _ _), by rw [HSA.out]; exact recZ_size⟩ (by rw [HSA.out]; exact info_rec) HOA.out ?_
            intro W1 hg1 hb1
            have hgs : Chg Non U W1 := (((Chg.refl Non U).alloc _).alloc _).then_new hg1 (fun x e => by omega)
            refine g_one 1 (by kernel_rfl) ?_
            refine g_load (some 54) 25 (.tmp 3) (w.heap.size + 1) 0 XB _ rfl (by kernel_rfl) (by kernel_rfl) (by kernel_rfl) (by kernel_rfl) (HTU.out.non hgs).right Tryz.underlying25 rfl (by rw [HSB.out]; exact info_rec) ?_
            simp only [Act.put, List.setIfInBounds_toArray, List.set_cons_zero, List.set_cons_succ]
            refine g_one 5 (by kernel_rfl) ?_
            refine g_store 25 (.tmp 8) (.tmp 54) (U.heap.size + 1) XB rfl (by kernel_rfl) (by kernel_rfl) (by kernel_rfl) (by kernel_rfl) (by kernel_rfl) 25 ⟨recZ, (hg1.block (U.heap.size + 1) (by simp <;> omega) (by omega)).trans (heap_alloc2_new _ _ _), by rw [HSB.out]; exact recZ_size⟩ (by rw [HSB.out]; exact info_rec) HOB.out ?_
            intro W2 hg2 hb2
            have hT2 : Two U.heap.size (U.heap.size + 1) XA XB W2 := ⟨(hg2.block U.heap.size (Array.getElem?_eq_some_iff.1 hb1).1 (by omega)).trans hb1, hb2⟩
            refine wpAny_done (by kernel_rfl) ?_ _
            exact ⟨rfl, (U.heap.size, (U.heap.size + 1)), by kernel_rfl, hT2, hUs.then_non (hgs.then_new hg2 (fun x e => by omega)), (by show u6.heap.size ≤ U.heap.size; omega), (by show u6.heap.size ≤ (U.heap.size + 1); omega), (by show U.heap.size ≠ (U.heap.size + 1); omega)⟩
      · refine g_step (some 8) (.pointer (some ⟨U.heap.size, 0, none⟩)) (U.alloc (.cells recZ 25)) rfl (by kernel_rfl) (by kernel_rfl) (by kernel_rfl) ?_
        simp only [Act.put, List.setIfInBounds_toArray, List.set_cons_zero, List.set_cons_succ]
        refine g_two 1 2 (by kernel_rfl) ?_ ?_
        · refine g_load (some 54) 25 (.tmp 3) (w.heap.size + 1) 0 XB _ rfl (by kernel_rfl) (by kernel_rfl) (by kernel_rfl) (by kernel_rfl) (HTU.out.non ((Chg.refl Non U).alloc _)).right Tryz.underlying25 rfl (by rw [HSB.out]; exact info_rec) ?_
          simp only [Act.put, List.setIfInBounds_toArray, List.set_cons_zero, List.set_cons_succ]
          refine g_one 2 (by kernel_rfl) ?_
          refine g_step (some 7) (.pointer (some ⟨U.heap.size + 1, 0, none⟩)) ((U.alloc (.cells recZ 25)).alloc (.cells recZ 25)) rfl (by kernel_rfl) (by kernel_rfl) (by rw [← hsz2]; kernel_rfl) ?_
          simp only [Act.put, List.setIfInBounds_toArray, List.set_cons_zero, List.set_cons_succ]
          refine g_one 4 (by kernel_rfl) ?_
          refine g_store 25 (.tmp 7) (.tmp 53) (U.heap.size + 1) XA rfl (by kernel_rfl) (by kernel_rfl) (by kernel_rfl) (by kernel_rfl) (by kernel_rfl) 25 ⟨recZ, (heap_alloc2_new _ _ _), by rw [HSA.out]; exact recZ_size⟩ (by rw [HSA.out]; exact info_rec) HOA.out ?_
          intro W1 hg1 hb1
          have hgs : Chg Non U W1 := (((Chg.refl Non U).alloc _).alloc _).then_new hg1 (fun x e => by omega)
          refine g_one 5 (by kernel_rfl) ?_
          refine g_store 25 (.tmp 8) (.tmp 54) U.heap.size XB rfl (by kernel_rfl) (by kernel_rfl) (by kernel_rfl) (by kernel_rfl) (by kernel_rfl) 25 ⟨recZ, (hg1.block U.heap.size (by simp <;> omega) (by omega)).trans (heap_alloc2_old _ _ _), by rw [HSB.out]; exact recZ_size⟩ (by rw [HSB.out]; exact info_rec) HOB.out ?_
          intro W2 hg2 hb2
          have hT2 : Two (U.heap.size + 1) U.heap.size XA XB W2 := ⟨(hg2.block (U.heap.size + 1) (Array.getElem?_eq_some_iff.1 hb1).1 (by omega)).trans hb1, hb2⟩
          refine wpAny_done (by kernel_rfl) ?_ _
          exact ⟨rfl, ((U.heap.size + 1), U.heap.size), by kernel_rfl, hT2, hUs.then_non (hgs.then_new hg2 (fun x e => by omega)), (by show u6.heap.size ≤ (U.heap.size + 1); omega), (by show u6.heap.size ≤ U.heap.size; omega), (by show (U.heap.size + 1) ≠ U.heap.size; omega)⟩
        · refine g_step (some 7) (.pointer (some ⟨U.heap.size + 1, 0, none⟩)) ((U.alloc (.cells recZ 25)).alloc (.cells recZ 25)) rfl (by kernel_rfl) (by kernel_rfl) (by rw [← hsz2]; kernel_rfl) ?_
          simp only [Act.put, List.setIfInBounds_toArray, List.set_cons_zero, List.set_cons_succ]
          refine g_two 1 4 (by kernel_rfl) ?_ ?_
          · refine g_load (some 54) 25 (.tmp 3) (w.heap.size + 1) 0 XB _ rfl (by kernel_rfl) (by kernel_rfl) (by kernel_rfl) (by kernel_rfl) (HTU.out.non (((Chg.refl Non U).alloc _).alloc _)).right Tryz.underlying25 rfl (by rw [HSB.out]; exact info_rec) ?_
            simp only [Act.put, List.setIfInBounds_toArray, List.set_cons_zero, List.set_cons_succ]
            refine g_one 4 (by kernel_rfl) ?_
            refine g_store 25 (.tmp 7) (.tmp 53) (U.heap.size + 1) XA rfl (by kernel_rfl) (by kernel_rfl) (by kernel_rfl) (by kernel_rfl) (by kernel_rfl) 25 ⟨recZ, (heap_alloc2_new _ _ _), by rw [HSA.out]; exact recZ_size⟩ (by rw [HSA.out]; exact info_rec) HOA.out ?_
            intro W1 hg1 hb1
            have hgs : Chg Non U W1 := (((Chg.refl Non U).alloc _).alloc _).then_new hg1 (fun x e => by omega)
            refine g_one 5 (by kernel_rfl) ?_
            refine g_store 25 (.tmp 8) (.tmp 54) U.heap.size XB rfl (by kernel_rfl) (by kernel_rfl) (by kernel_rfl) (by kernel_rfl) (by kernel_rfl) 25 ⟨recZ, (hg1.block U.heap.size (by simp <;> omega) (by omega)).trans (heap_alloc2_old _ _ _), by rw [HSB.out]; exact recZ_size⟩ (by rw [HSB.out]; exact info_rec) HOB.out ?_
            intro W2 hg2 hb2
            have hT2 : Two (U.heap.size + 1) U.heap.size XA XB W2 := ⟨(hg2.block (U.heap.size + 1) (Array.getElem?_eq_some_iff.1 hb1).1 (by omega)).trans hb1, hb2⟩
            refine wpAny_done (by kernel_rfl) ?_ _
            exact ⟨rfl, ((U.heap.size + 1), U.heap.size), by kernel_rfl, hT2, hUs.then_non (hgs.then_new hg2 (fun x e => by omega)), (by show u6.heap.size ≤ (U.heap.size + 1); omega), (by show u6.heap.size ≤ U.heap.size; omega), (by show (U.heap.size + 1) ≠ U.heap.size; omega)⟩
          · refine g_store 25 (.tmp 7) (.tmp 53) (U.heap.size + 1) XA rfl (by kernel_rfl) (by kernel_rfl) (by kernel_rfl) (by kernel_rfl) (by kernel_rfl) 25 ⟨recZ, (heap_alloc2_new _ _ _), by rw [HSA.out]; exact recZ_size⟩ (by rw [HSA.out]; exact info_rec) HOA.out ?_
            intro W1 hg1 hb1
            have hgs : Chg Non U W1 := (((Chg.refl Non U).alloc _).alloc _).then_new hg1 (fun x e => by omega)
            refine g_one 1 (by kernel_rfl) ?_
            refine g_load (some 54) 25 (.tmp 3) (w.heap.size + 1) 0 XB _ rfl (by kernel_rfl) (by kernel_rfl) (by kernel_rfl) (by kernel_rfl) (HTU.out.non hgs).right Tryz.underlying25 rfl (by rw [HSB.out]; exact info_rec) ?_
            simp only [Act.put, List.setIfInBounds_toArray, List.set_cons_zero, List.set_cons_succ]
            refine g_one 5 (by kernel_rfl) ?_
            refine g_store 25 (.tmp 8) (.tmp 54) U.heap.size XB rfl (by kernel_rfl) (by kernel_rfl) (by kernel_rfl) (by kernel_rfl) (by kernel_rfl) 25 ⟨recZ, (hg1.block U.heap.size (by simp <;> omega) (by omega)).trans (heap_alloc2_old _ _ _), by rw [HSB.out]; exact recZ_size⟩ (by rw [HSB.out]; exact info_rec) HOB.out ?_
            intro W2 hg2 hb2
            have hT2 : Two (U.heap.size + 1) U.heap.size XA XB W2 := ⟨(hg2.block (U.heap.size + 1) (Array.getElem?_eq_some_iff.1 hb1).1 (by omega)).trans hb1, hb2⟩
            refine wpAny_done (by kernel_rfl) ?_ _
            exact ⟨rfl, ((U.heap.size + 1), U.heap.size), by kernel_rfl, hT2, hUs.then_non (hgs.then_new hg2 (fun x e => by omega)), (by show u6.heap.size ≤ (U.heap.size + 1); omega), (by show u6.heap.size ≤ U.heap.size; omega), (by show (U.heap.size + 1) ≠ U.heap.size; omega)⟩
    · refine g_load (some 54) 25 (.tmp 3) (w.heap.size + 1) 0 XB _ rfl (by kernel_rfl) (by kernel_rfl) (by kernel_rfl) (by kernel_rfl) (HTU.out.non (Chg.refl Non U)).right Tryz.underlying25 rfl (by rw [HSB.out]; exact info_rec) ?_
      simp only [Act.put, List.setIfInBounds_toArray, List.set_cons_zero, List.set_cons_succ]
      refine g_three 0 2 3 (by kernel_rfl) ?_ ?_ ?_
      · refine g_load (some 53) 25 (.tmp 2) w.heap.size 0 XA _ rfl (by kernel_rfl) (by kernel_rfl) (by kernel_rfl) (by kernel_rfl) (HTU.out.non (Chg.refl Non U)).left Tryz.underlying25 rfl (by rw [HSA.out]; exact info_rec) ?_
        simp only [Act.put, List.setIfInBounds_toArray, List.set_cons_zero, List.set_cons_succ]
        refine g_two 2 3 (by kernel_rfl) ?_ ?_
        · refine g_step (some 7) (.pointer (some ⟨U.heap.size, 0, none⟩)) (U.alloc (.cells recZ 25)) rfl (by kernel_rfl) (by kernel_rfl) (by kernel_rfl) ?_
          simp only [Act.put, List.setIfInBounds_toArray, List.set_cons_zero, List.set_cons_succ]
          refine g_one 3 (by kernel_rfl) ?_
          refine g_step (some 8) (.pointer (some ⟨U.heap.size + 1, 0, none⟩)) ((U.alloc (.cells recZ 25)).alloc (.cells recZ 25)) rfl (by kernel_rfl) (by kernel_rfl) (by rw [← hsz2]; kernel_rfl) ?_
          simp only [Act.put, List.setIfInBounds_toArray, List.set_cons_zero, List.set_cons_succ]
          refine g_one 4 (by kernel_rfl) ?_
          refine g_store 25 (.tmp 7) (.tmp 53) U.heap.size XA rfl (by kernel_rfl) (by kernel_rfl) (by kernel_rfl) (by kernel_rfl) (by kernel_rfl) 25 ⟨recZ, (heap_alloc2_old _ _ _), by rw [HSA.out]; exact recZ_size⟩ (by rw [HSA.out]; exact info_rec) HOA.out ?_
          intro W1 hg1 hb1
          have hgs : Chg Non U W1 := (((Chg.refl Non U).alloc _).alloc _).then_new hg1 (fun x e => by omega)
          refine g_one 5 (by kernel_rfl) ?_
          refine g_store 25 (.tmp 8) (.tmp 54) (U.heap.size + 1) XB rfl (by kernel_rfl) (by kernel_rfl) (by kernel_rfl) (by kernel_rfl) (by kernel_rfl) 25 ⟨recZ, (hg1.block (U.heap.size + 1) (by simp <;> omega) (by omega)).trans (heap_alloc2_new _ _ _), by rw [HSB.out]; exact recZ_size⟩ (by rw [HSB.out]; exact info_rec) HOB.out ?_
          intro W2 hg2 hb2
          have hT2 : Two U.heap.size (U.heap.size + 1) XA XB W2 := ⟨(hg2.block U.heap.size (Array.getElem?_eq_some_iff.1 hb1).1 (by omega)).trans hb1, hb2⟩
          refine wpAny_done (by kernel_rfl) ?_ _
          exact ⟨rfl, (U.heap.size, (U.heap.size + 1)), by kernel_rfl, hT2, hUs.then_non (hgs.then_new hg2 (fun x e => by omega)), (by show u6.heap.size ≤ U.heap.size; omega), (by show u6.heap.size ≤ (U.heap.size + 1); omega), (by show U.heap.size ≠ (U.heap.size + 1); omega)⟩
        · refine g_step (some 8) (.pointer (some ⟨U.heap.size, 0, none⟩)) (U.alloc (.cells recZ 25)) rfl (by kernel_rfl) (by kernel_rfl) (by kernel_rfl) ?_
          simp only [Act.put, List.setIfInBounds_toArray, List.set_cons_zero, List.set_cons_succ]
          refine g_one 2 (by kernel_rfl) ?_
          refine g_step (some 7) (.pointer (some ⟨U.heap.size + 1, 0, none⟩)) ((U.alloc (.cells recZ 25)).alloc (.cells recZ 25)) rfl (by kernel_rfl) (by kernel_rfl) (by rw [← hsz2]; kernel_rfl) ?_
          simp only [Act.put, List.setIfInBounds_toArray, List.set_cons_zero, List.set_cons_succ]
          refine g_one 4 (by kernel_rfl) ?_
          refine g_store 25 (.tmp 7) (.tmp 53) (U.heap.size + 1) XA rfl (by kernel_rfl) (by kernel_rfl) (by kernel_rfl) (by kernel_rfl) (by kernel_rfl) 25 ⟨recZ, (heap_alloc2_new _ _ _), by rw [HSA.out]; exact recZ_size⟩ (by rw [HSA.out]; exact info_rec) HOA.out ?_
          intro W1 hg1 hb1
          have hgs : Chg Non U W1 := (((Chg.refl Non U).alloc _).alloc _).then_new hg1 (fun x e => by omega)
          refine g_one 5 (by kernel_rfl) ?_
          refine g_store 25 (.tmp 8) (.tmp 54) U.heap.size XB rfl (by kernel_rfl) (by kernel_rfl) (by kernel_rfl) (by kernel_rfl) (by kernel_rfl) 25 ⟨recZ, (hg1.block U.heap.size (by simp <;> omega) (by omega)).trans (heap_alloc2_old _ _ _), by rw [HSB.out]; exact recZ_size⟩ (by rw [HSB.out]; exact info_rec) HOB.out ?_
          intro W2 hg2 hb2
          have hT2 : Two (U.heap.size + 1) U.heap.size XA XB W2 := ⟨(hg2.block (U.heap.size + 1) (Array.getElem?_eq_some_iff.1 hb1).1 (by omega)).trans hb1, hb2⟩
          refine wpAny_done (by kernel_rfl) ?_ _
          exact ⟨rfl, ((U.heap.size + 1), U.heap.size), by kernel_rfl, hT2, hUs.then_non (hgs.then_new hg2 (fun x e => by omega)), (by show u6.heap.size ≤ (U.heap.size + 1); omega), (by show u6.heap.size ≤ U.heap.size; omega), (by show (U.heap.size + 1) ≠ U.heap.size; omega)⟩
      · refine g_step (some 7) (.pointer (some ⟨U.heap.size, 0, none⟩)) (U.alloc (.cells recZ 25)) rfl (by kernel_rfl) (by kernel_rfl) (by kernel_rfl) ?_
        simp only [Act.put, List.setIfInBounds_toArray, List.set_cons_zero, List.set_cons_succ]
        refine g_two 0 3 (by kernel_rfl) ?_ ?_
        · refine g_load (some 53) 25 (.tmp 2) w.heap.size 0 XA _ rfl (by kernel_rfl) (by kernel_rfl) (by kernel_rfl) (by kernel_rfl) (HTU.out.non ((Chg.refl Non U).alloc _)).left Tryz.underlying25 rfl (by rw [HSA.out]; exact info_rec) ?_
          simp only [Act.put, List.setIfInBounds_toArray, List.set_cons_zero, List.set_cons_succ]
          refine g_one 3 (by kernel_rfl) ?_
          refine g_step (some 8) (.pointer (some ⟨U.heap.size + 1, 0, none⟩)) ((U.alloc (.cells recZ 25)).alloc (.cells recZ 25)) rfl (by kernel_rfl) (by kernel_rfl) (by rw [← hsz2]; kernel_rfl) ?_
          simp only [Act.put, List.setIfInBounds_toArray, List.set_cons_zero, List.set_cons_succ]
          refine g_one 4 (by kernel_rfl) ?_
          refine g_store 25 (.tmp 7) (.tmp 53) U.heap.size XA rfl (by kernel_rfl) (by kernel_rfl) (by kernel_rfl) (by kernel_rfl) (by kernel_rfl) 25 ⟨recZ, (heap_alloc2_old _ _ _), by rw [HSA.out]; exact recZ_size⟩ (by rw [HSA.out]; exact info_rec) HOA.out ?_
          intro W1 hg1 hb1
          have hgs : Chg Non U W1 := (((Chg.refl Non U).alloc _).alloc _).then_new hg1 (fun x e => by omega)
          refine g_one 5 (by kernel_rfl) ?_
          refine g_store 25 (.tmp 8) (.tmp 54) (U.heap.size + 1) XB rfl (by kernel_rfl) (by kernel_rfl) (by kernel_rfl) (by kernel_rfl) (by kernel_rfl) 25 ⟨recZ, (hg1.block (U.heap.size + 1) (by simp <;> omega) (by omega)).trans (heap_alloc2_new _ _ _), by rw [HSB.out]; exact recZ_size⟩ (by rw [HSB.out]; exact info_rec) HOB.out ?_
          intro W2 hg2 hb2
          have hT2 : Two U.heap.size (U.heap.size + 1) XA XB W2 := ⟨(hg2.block U.heap.size (Array.getElem?_eq_some_iff.1 hb1).1 (by omega)).trans hb1, hb2⟩
          refine wpAny_done (by kernel_rfl) ?_ _
          exact ⟨rfl, (U.heap.size, (U.heap.size + 1)), by kernel_rfl, hT2, hUs.then_non (hgs.then_new hg2 (fun x e => by omega)), (by show u6.heap.size ≤ U.heap.size; omega), (by show u6.heap.size ≤ (U.heap.size + 1); omega), (by show U.heap.size ≠ (U.heap.size + 1); omega)⟩
        · refine g_step (some 8) (.pointer (some ⟨U.heap.size + 1, 0, none⟩)) ((U.alloc (.cells recZ 25)).alloc (.cells recZ 25)) rfl (by kernel_rfl) (by kernel_rfl) (by rw [← hsz2]; kernel_rfl) ?_
          simp only [Act.put, List.setIfInBounds_toArray, List.set_cons_zero, List.set_cons_succ]
          refine g_one 0 (by kernel_rfl) ?_
          refine g_load (some 53) 25 (.tmp 2) w.heap.size 0 XA _ rfl (by kernel_rfl) (by kernel_rfl) (by kernel_rfl) (by kernel_rfl) (HTU.out.non (((Chg.refl Non U).alloc _).alloc _)).left Tryz.underlying25 rfl (by rw [HSA.out]; exact info_rec) ?_
          simp only [Act.put, List.setIfInBounds_toArray, List.set_cons_zero, List.set_cons_succ]
          refine g_one 4 (by kernel_rfl) ?_
          refine g_store 25 (.tmp 7) (.tmp 53) U.heap.size XA rfl (by kernel_rfl) (by kernel_rfl) (by kernel_rfl) (by kernel_rfl) (by kernel_rfl) 25 ⟨recZ, (heap_alloc2_old _ _ _), by rw [HSA.out]; exact recZ_size⟩ (by rw [HSA.out]; exact info_rec) HOA.out ?_
          intro W1 hg1 hb1
          have hgs : Chg Non U W1 := (((Chg.refl Non U).alloc _).alloc _).then_new hg1 (fun x e => by omega)
          refine g_one 5 (by kernel_rfl) ?_
          refine g_store 25 (.tmp 8) (.tmp 54) (U.heap.size + 1) XB rfl (by kernel_rfl) (by kernel_rfl) (by kernel_rfl) (by kernel_rfl) (by kernel_rfl) 25 ⟨recZ, (hg1.block (U.heap.size + 1) (by simp <;> omega) (by omega)).trans (heap_alloc2_new _ _ _), by rw [HSB.out]; exact recZ_size⟩ (by rw [HSB.out]; exact info_rec) HOB.out ?_
          intro W2 hg2 hb2
          have hT2 : Two U.heap.size (U.heap.size + 1) XA XB W2 := ⟨(hg2.block U.heap.size (Array.getElem?_eq_some_iff.1 hb1).1 (by omega)).trans hb1, hb2⟩
          refine wpAny_done (by kernel_rfl) ?_ _
          exact ⟨rfl, (U.heap.size, (U.heap.size + 1)), by kernel_rfl, hT2, hUs.then_non (hgs.then_new hg2 (fun x e => by omega)), (by show u6.heap.size ≤ U.heap.size; omega), (by show u6.heap.size ≤ (U.heap.size + 1); omega), (by show U.heap.size ≠ (U.heap.size + 1); omega)⟩
      · refine g_step (some 8) (.pointer (some ⟨U.heap.size, 0, none⟩)) (U.alloc (.cells recZ 25)) rfl (by kernel_rfl) (by kernel_rfl) (by kernel_rfl) ?_
        simp only [Act.put, List.setIfInBounds_toArray, List.set_cons_zero, List.set_cons_succ]
        refine g_two 0 2 (by kernel_rfl) ?_ ?_
        · refine g_load (some 53) 25 (.tmp 2) w.heap.size 0 XA _ rfl (by kernel_rfl) (by kernel_rfl) (by kernel_rfl) (by kernel_rfl) (HTU.out.non ((Chg.refl Non U).alloc _)).left Tryz.underlying25 rfl (by rw [HSA.out]; exact info_rec) ?_
          simp only [Act.put, List.setIfInBounds_toArray, List.set_cons_zero, List.set_cons_succ]
          refine g_one 2 (by kernel_rfl) ?_
          refine g_step (some 7) (.pointer (some ⟨U.heap.size + 1, 0, none⟩)) ((U.alloc (.cells recZ 25)).alloc (.cells recZ 25)) rfl (by kernel_rfl) (by kernel_rfl) (by rw [← hsz2]; kernel_rfl) ?_
          simp only [Act.put, List.setIfInBounds_toArray, List.set_cons_zero, List.set_cons_succ]
          refine g_one 4 (by kernel_rfl) ?_
          refine g_store 25 (.tmp 7) (.tmp 53) (U.heap.size + 1) XA rfl (by kernel_rfl) (by kernel_rfl) (by kernel_rfl) (by kernel_rfl) (by kernel_rfl) 25 ⟨recZ, (heap_alloc2_new _ _ _), by rw [HSA.out]; exact recZ_size⟩ (by rw [HSA.out]; exact info_rec) HOA.out ?_
          intro W1 hg1 hb1
          have hgs : Chg Non U W1 := (((Chg.refl Non U).alloc _).alloc _).then_new hg1 (fun x e => by omega)
          refine g_one 5 (by kernel_rfl) ?_
          refine g_store 25 (.tmp 8) (.tmp 54) U.heap.size XB rfl (by kernel_rfl) (by kernel_rfl) (by kernel_rfl) (by kernel_rfl) (by kernel_rfl) 25 ⟨recZ, (hg1.block U.heap.size (by simp <;> omega) (by omega)).trans (heap_alloc2_old _ _ _), by rw [HSB.out]; exact recZ_size⟩ (by rw [HSB.out]; exact info_rec) HOB.out ?_
          intro W2 hg2 hb2
          have hT2 : Two (U.heap.size + 1) U.heap.size XA XB W2 := ⟨(hg2.block (U.heap.size + 1) (Array.getElem?_eq_some_iff.1 hb1).1 (by omega)).trans hb1, hb2⟩
          refine wpAny_done (by kernel_rfl) ?_ _
          exact ⟨rfl, ((U.heap.size + 1), U.heap.size), by kernel_rfl, hT2, hUs.then_non (hgs.then_new hg2 (fun x e => by omega)), (by show u6.heap.size ≤ (U.heap.size + 1); omega), (by show u6.heap.size ≤ U.heap.size; omega), (by show (U.heap.size + 1) ≠ U.heap.size; omega)⟩
        · refine g_step (some 7) (.pointer (some ⟨U.heap.size + 1, 0, none⟩)) ((U.alloc (.cells recZ 25)).alloc (.cells recZ 25)) rfl (by kernel_rfl) (by kernel_rfl) (by rw [← hsz2]; kernel_rfl) ?_
          simp only [Act.put, List.setIfInBounds_toArray, List.set_cons_zero, List.set_cons_succ]
          refine g_one 0 (by kernel_rfl) ?_
          refine g_load (some 53) 25 (.tmp 2) w.heap.size 0 XA _ rfl (by kernel_rfl) (by kernel_rfl) (by kernel_rfl) (by kernel_rfl) (HTU.out.non (((Chg.refl Non U).alloc _).alloc _)).left Tryz.underlying25 rfl (by rw [HSA.out]; exact info_rec) ?_
          simp only [Act.put, List.setIfInBounds_toArray, List.set_cons_zero, List.set_cons_succ]
          refine g_one 4 (by kernel_rfl) ?_
          refine g_store 25 (.tmp 7) (.tmp 53) (U.heap.size + 1) XA rfl (by kernel_rfl) (by kernel_rfl) (by kernel_rfl) (by kernel_rfl) (by kernel_rfl) 25 ⟨recZ, (heap_alloc2_new _ _ _), by rw [HSA.out]; exact recZ_size⟩ (by rw [HSA.out]; exact info_rec) HOA.out ?_
          intro W1 hg1 hb1
          have hgs : Chg Non U W1 := (((Chg.refl Non U).alloc _).alloc _).then_new hg1 (fun x e => by omega)
          refine g_one 5 (by kernel_rfl) ?_
          refine g_store 25 (.tmp 8) (.tmp 54) U.heap.size XB rfl (by kernel_rfl) (by kernel_rfl) (by kernel_rfl) (by kernel_rfl) (by kernel_rfl) 25 ⟨recZ, (hg1.block U.heap.size (by simp <;> omega) (by omega)).trans (heap_alloc2_old _ _ _), by rw [HSB.out]; exact recZ_size⟩ (by rw [HSB.out]; exact info_rec) HOB.out ?_
          intro W2 hg2 hb2
          have hT2 : Two (U.heap.size + 1) U.heap.size XA XB W2 := ⟨(hg2.block (U.heap.size + 1) (Array.getElem?_eq_some_iff.1 hb1).1 (by omega)).trans hb1, hb2⟩
          refine wpAny_done (by kernel_rfl) ?_ _
          exact ⟨rfl, ((U.heap.size + 1), U.heap.size), by kernel_rfl, hT2, hUs.then_non (hgs.then_new hg2 (fun x e => by omega)), (by show u6.heap.size ≤ (U.heap.size + 1); omega), (by show u6.heap.size ≤ U.heap.size; omega), (by show (U.heap.size + 1) ≠ U.heap.size; omega)⟩
    · refine g_step (some 7) (.pointer (some ⟨U.heap.size, 0, none⟩)) (U.alloc (.cells recZ 25)) rfl (by kernel_rfl) (by kernel_rfl) (by kernel_rfl) ?_
      simp only [Act.put, List.setIfInBounds_toArray, List.set_cons_zero, List.set_cons_succ]
      refine g_three 0 1 3 (by kernel_rfl) ?_ ?_ ?_
      · refine g_load (some 53) 25 (.tmp 2) w.heap.size 0 XA _ rfl (by kernel_rfl) (by kernel_rfl) (by kernel_rfl) (by kernel_rfl) (HTU.out.non ((Chg.refl Non U).alloc _)).left Tryz.underlying25 rfl (by rw [HSA.out]; exact info_rec) ?_
        simp only [Act.put, List.setIfInBounds_toArray, List.set_cons_zero, List.set_cons_succ]
        refine g_two 1 3 (by kernel_rfl) ?_ ?_
        · refine g_load (some 54) 25 (.tmp 3) (w.heap.size + 1) 0 XB _ rfl (by kernel_rfl) (by kernel_rfl) (by kernel_rfl) (by kernel_rfl) (HTU.out.non ((Chg.refl Non U).alloc _)).right Tryz.underlying25 rfl (by rw [HSB.out]; exact info_rec) ?_
          simp only [Act.put, List.setIfInBounds_toArray, List.set_cons_zero, List.set_cons_succ]
          refine g_one 3 (by kernel_rfl) ?_
          refine g_step (some 8) (.pointer (some ⟨U.heap.size + 1, 0, none⟩)) ((U.alloc (.cells recZ 25)).alloc (.cells recZ 25)) rfl (by kernel_rfl) (by kernel_rfl) (by rw [← hsz2]; kernel_rfl) ?_
          simp only [Act.put, List.setIfInBounds_toArray, List.set_cons_zero, List.set_cons_succ]
          refine g_one 4 (by kernel_rfl) ?_
          refine g_store 25 (.tmp 7) (.tmp 53) U.heap.size XA rfl (by kernel_rfl) (by kernel_rfl) (by kernel_rfl) (by kernel_rfl) (by kernel_rfl) 25 ⟨recZ, (heap_alloc2_old _ _ _), by rw [HSA.out]; exact recZ_size⟩ (by rw [HSA.out]; exact info_rec) HOA.out ?_
          intro W1 hg1 hb1
          have hgs : Chg Non U W1 := (((Chg.refl Non U).alloc _).alloc _).then_new hg1 (fun x e => by omega)
          refine g_one 5 (by kernel_rfl) ?_
          refine g_store 25 (.tmp 8) (.tmp 54) (U.heap.size + 1) XB rfl (by kernel_rfl) (by kernel_rfl) (by kernel_rfl) (by kernel_rfl) (by kernel_rfl) 25 ⟨recZ, (hg1.block (U.heap.size + 1) (by simp <;> omega) (by omega)).trans (heap_alloc2_new _ _ _), by rw [HSB.out]; exact recZ_size⟩ (by rw [HSB.out]; exact info_rec) HOB.out ?_
          intro W2 hg2 hb2
          have hT2 : Two U.heap.size (U.heap.size + 1) XA XB W2 := ⟨(hg2.block U.heap.size (Array.getElem?_eq_some_iff.1 hb1).1 (by omega)).trans hb1, hb2⟩
          refine wpAny_done (by kernel_rfl) ?_ _
          exact ⟨rfl, (U.heap.size, (U.heap.size + 1)), by kernel_rfl, hT2, hUs.then_non (hgs.then_new hg2 (fun x e => by omega)), (by show u6.heap.size ≤ U.heap.size; omega), (by show u6.heap.size ≤ (U.heap.size + 1); omega), (by show U.heap.size ≠ (U.heap.size + 1); omega)⟩
        · refine g_step (some 8) (.pointer (some ⟨U.heap.size + 1, 0, none⟩)) ((U.alloc (.cells recZ 25)).alloc (.cells recZ 25)) rfl (by kernel_rfl) (by kernel_rfl) (by rw [← hsz2]; kernel_rfl) ?_
          simp only [Act.put, List.setIfInBounds_toArray, List.set_cons_zero, List.set_cons_succ]
          refine g_two 1 4 (by kernel_rfl) ?_ ?_
          · refine g_load (some 54) 25 (.tmp 3) (w.heap.size + 1) 0 XB _ rfl (by kernel_rfl) (by kernel_rfl) (by kernel_rfl) (by kernel_rfl) (HTU.out.non (((Chg.refl Non U).alloc _).alloc _)).right Tryz.underlying25 rfl (by rw [HSB.out]; exact info_rec) ?_
            simp only [Act.put, List.setIfInBounds_toArray, List.set_cons_zero, List.set_cons_succ]
            refine g_one 4 (by kernel_rfl) ?_
            refine g_store 25 (.tmp 7) (.tmp 53) U.heap.size XA rfl (by kernel_rfl) (by kernel_rfl) (by kernel_rfl) (by kernel_rfl) (by kernel_rfl) 25 ⟨recZ, (heap_alloc2_old _ _ _), by rw [HSA.out]; exact recZ_size⟩ (by rw [HSA.out]; exact info_rec) HOA.out ?_
            intro W1 hg1 hb1
            have hgs : Chg Non U W1 := (((Chg.refl Non U).alloc _).alloc _).then_new hg1 (fun x e => by omega)
            refine g_one 5 (by kernel_rfl) ?_
            refine g_store 25 (.tmp 8) (.tmp 54) (U.heap.size + 1) XB rfl (by kernel_rfl) (by kernel_rfl) (by kernel_rfl) (by kernel_rfl) (by kernel_rfl) 25 ⟨recZ, (hg1.block (U.heap.size + 1) (by simp <;> omega) (by omega)).trans (heap_alloc2_new _ _ _), by rw [HSB.out]; exact recZ_size⟩ (by rw [HSB.out]; exact info_rec) HOB.out ?_
            intro W2 hg2 hb2
            have hT2 : Two U.heap.size (U.heap.size + 1) XA XB W2 := ⟨(hg2.block U.heap.size (Array.getElem?_eq_some_iff.1 hb1).1 (by omega)).trans hb1, hb2⟩
            refine wpAny_done (by kernel_rfl) ?_ _
            exact ⟨rfl, (U.heap.size, (U.heap.size + 1)), by kernel_rfl, hT2, hUs.then_non (hgs.then_new hg2 (fun x e => by omega)), (by show u6.heap.size ≤ U.heap.size; omega), (by show u6.heap.size ≤ (U.heap.size + 1); omega), (by show U.heap.size ≠ (U.heap.size + 1); omega)⟩
          · refine g_store 25 (.tmp 7) (.tmp 53) U.heap.size XA rfl (by kernel_rfl) (by kernel_rfl) (by kernel_rfl) (by kernel_rfl) (by kernel_rfl) 25 ⟨recZ, (heap_alloc2_old _ _ _), by rw [HSA.out]; exact recZ_size⟩ (by rw [HSA.out]; exact info_rec) HOA.out ?_
            intro W1 hg1 hb1
            have hgs : Chg Non U W1 := (((Chg.refl Non U).alloc _).alloc _).then_new hg1 (fun x e => by omega)
            refine g_one 1 (by kernel_rfl) ?_
            refine g_load (some 54) 25 (.tmp 3) (w.heap.size + 1) 0 XB _ rfl (by kernel_rfl) (by kernel_rfl) (by kernel_rfl) (by kernel_rfl) (HTU.out.non hgs).right Tryz.underlying25 rfl (by rw [HSB.out]; exact info_rec) ?_
            simp only [Act.put, List.setIfInBounds_toArray, List.set_cons_zero, List.set_cons_succ]
            refine g_one 5 (by kernel_rfl) ?_
            refine g_store 25 (.tmp 8) (.tmp 54) (U.heap.size + 1) XB rfl (by kernel_rfl) (by kernel_rfl) (by kernel_rfl) (by kernel_rfl) (by kernel_rfl) 25 ⟨recZ, (hg1.block (U.heap.size + 1) (by simp <;> omega) (by omega)).trans (heap_alloc2_new _ _ _), by rw [HSB.out]; exact recZ_size⟩ (by rw [HSB.out]; exact info_rec) HOB.out ?_
            intro W2 hg2 hb2
            have hT2 : Two U.heap.size (U.heap.size + 1) XA XB W2 := ⟨(hg2.block U.heap.size (Array.getElem?_eq_some_iff.1 hb1).1 (by omega)).trans hb1, hb2⟩
            refine wpAny_done (by kernel_rfl) ?_ _
            exact ⟨rfl, (U.heap.size, (U.heap.size + 1)), by kernel_rfl, hT2, hUs.then_non (hgs.then_new hg2 (fun x e => by omega)), (by show u6.heap.size ≤ U.heap.size; omega), (by show u6.heap.size ≤ (U.heap.size + 1); omega), (by show U.heap.size ≠ (U.heap.size + 1); omega)⟩
      · refine g_load (some 54) 25 (.tmp 3) (w.heap.size + 1) 0 XB _ rfl (by kernel_rfl) (by kernel_rfl) (by kernel_rfl) (by kernel_rfl) (HTU.out.non ((Chg.refl Non U).alloc _)).right Tryz.underlying25 rfl (by rw [HSB.out]; exact info_rec) ?_
        simp only [Act.put, List.setIfInBounds_toArray, List.set_cons_zero, List.set_cons_succ]
        refine g_two 0 3 (by kernel_rfl) ?_ ?_
        · refine g_load (some 53) 25 (.tmp 2) w.heap.size 0 XA _ rfl (by kernel_rfl) (by kernel_rfl) (by kernel_rfl) (by kernel_rfl) (HTU.out.non ((Chg.refl Non U).alloc _)).left Tryz.underlying25 rfl (by rw [HSA.out]; exact info_rec) ?_
          simp only [Act.put, List.setIfInBounds_toArray, List.set_cons_zero, List.set_cons_succ]
          refine g_one 3 (by kernel_rfl) ?_
          refine g_step (some 8) (.pointer (some ⟨U.heap.size + 1, 0, none⟩)) ((U.alloc (.cells recZ 25)).alloc (.cells recZ 25)) rfl (by kernel_rfl) (by kernel_rfl) (by rw [← hsz2]; kernel_rfl) ?_
          simp only [Act.put, List.setIfInBounds_toArray, List.set_cons_zero, List.set_cons_succ]
          refine g_one 4 (by kernel_rfl) ?_
          refine g_store 25 (.tmp 7) (.tmp 53) U.heap.size XA rfl (by kernel_rfl) (by kernel_rfl) (by kernel_rfl) (by kernel_rfl) (by kernel_rfl) 25 ⟨recZ, (heap_alloc2_old _ _ _), by rw [HSA.out]; exact recZ_size⟩ (by rw [HSA.out]; exact info_rec) HOA.out ?_
          intro W1 hg1 hb1
          have hgs : Chg Non U W1 := (((Chg.refl Non U).alloc _).alloc _).then_new hg1 (fun x e => by omega)
          refine g_one 5 (by kernel_rfl) ?_
          refine g_store 25 (.tmp 8) (.tmp 54) (U.heap.size + 1) XB rfl (by kernel_rfl) (by kernel_rfl) (by kernel_rfl) (by kernel_rfl) (by kernel_rfl) 25 ⟨recZ, (hg1.block (U.heap.size + 1) (by simp <;> omega) (by omega)).trans (heap_alloc2_new _ _ _), by rw [HSB.out]; exact recZ_size⟩ (by rw [HSB.out]; exact info_rec) HOB.out ?_
          intro W2 hg2 hb2
          have hT2 : Two U.heap.size (U.heap.size + 1) XA XB W2 := ⟨(hg2.block U.heap.size (Array.getElem?_eq_some_iff.1 hb1).1 (by omega)).trans hb1, hb2⟩
          refine wpAny_done (by kernel_rfl) ?_ _
          exact ⟨rfl, (U.heap.size, (U.heap.size + 1)), by kernel_rfl, hT2, hUs.then_non (hgs.then_new hg2 (fun x e => by omega)), (by show u6.heap.size ≤ U.heap.size; omega), (by show u6.heap.size ≤ (U.heap.size + 1); omega), (by show U.heap.size ≠ (U.heap.size + 1); omega)⟩
        · refine g_step (some 8) (.pointer (some ⟨U.heap.size + 1, 0, none⟩)) ((U.alloc (.cells recZ 25)).alloc (.cells recZ 25)) rfl (by kernel_rfl) (by kernel_rfl) (by rw [← hsz2]; kernel_rfl) ?_
          simp only [Act.put, List.setIfInBounds_toArray, List.set_cons_zero, List.set_cons_succ]
          refine g_one 0 (by kernel_rfl) ?_
          refine g_load (some 53) 25 (.tmp 2) w.heap.size 0 XA _ rfl (by kernel_rfl) (by kernel_rfl) (by kernel_rfl) (by kernel_rfl) (HTU.out.non (((Chg.refl Non U).alloc _).alloc _)).left Tryz.underlying25 rfl (by rw [HSA.out]; exact info_rec) ?_
          simp only [Act.put, List.setIfInBounds_toArray, List.set_cons_zero, List.set_cons_succ]
          refine g_one 4 (by kernel_rfl) ?_
          refine g_store 25 (.tmp 7) (.tmp 53) U.heap.size XA rfl (by kernel_rfl) (by kernel_rfl) (by kernel_rfl) (by kernel_rfl) (by kernel_rfl) 25 ⟨recZ, (heap_alloc2_old _ _ _), by rw [HSA.out]; exact recZ_size⟩ (by rw [HSA.out]; exact info_rec) HOA.out ?_
          intro W1 hg1 hb1
          have hgs : Chg Non U W1 := (((Chg.refl Non U).alloc _).alloc _).then_new hg1 (fun x e => by omega)
          refine g_one 5 (by kernel_rfl) ?_
          refine g_store 25 (.tmp 8) (.tmp 54) (U.heap.size + 1) XB rfl (by kernel_rfl) (by kernel_rfl) (by kernel_rfl) (by kernel_rfl) (by kernel_rfl) 25 ⟨recZ, (hg1.block (U.heap.size + 1) (by simp <;> omega) (by omega)).trans (heap_alloc2_new _ _ _), by rw [HSB.out]; exact recZ_size⟩ (by rw [HSB.out]; exact info_rec) HOB.out ?_
          intro W2 hg2 hb2
          have hT2 : Two U.heap.size (U.heap.size + 1) XA XB W2 := ⟨(hg2.block U.heap.size (Array.getElem?_eq_some_iff.1 hb1).1 (by omega)).trans hb1, hb2⟩
          refine wpAny_done (by kernel_rfl) ?_ _
          exact ⟨rfl, (U.heap.size, (U.heap.size + 1)), by kernel_rfl, hT2, hUs.then_non (hgs.then_new hg2 (fun x e => by omega)), (by show u6.heap.size ≤ U.heap.size; omega), (by show u6.heap.size ≤ (U.heap.size + 1); omega), (by show U.heap.size ≠ (U.heap.size + 1); omega)⟩
      · refine g_step (some 8) (.pointer (some ⟨U.heap.size + 1, 0, none⟩)) ((U.alloc (.cells recZ 25)).alloc (.cells recZ 25)) rfl (by kernel_rfl) (by kernel_rfl) (by rw [← hsz2]; kernel_rfl) ?_
        simp only [Act.put, List.setIfInBounds_toArray, List.set_cons_zero, List.set_cons_succ]
        refine g_two 0 1 (by kernel_rfl) ?_ ?_
        · refine g_load (some 53) 25 (.tmp 2) w.heap.size 0 XA _ rfl (by kernel_rfl) (by kernel_rfl) (by kernel_rfl) (by kernel_rfl) (HTU.out.non (((Chg.refl Non U).alloc _).alloc _)).left Tryz.underlying25 rfl (by rw [HSA.out]; exact info_rec) ?_
          simp only [Act.put, List.setIfInBounds_toArray, List.set_cons_zero, List.set_cons_succ]
          refine g_two 1 4 (by kernel_rfl) ?_ ?_
          · refine g_load (some 54) 25 (.tmp 3) (w.heap.size + 1) 0 XB _ rfl (by kernel_rfl) (by kernel_rfl) (by kernel_rfl) (by kernel_rfl) (HTU.out.non (((Chg.refl Non U).alloc _).alloc _)).right Tryz.underlying25 rfl (by rw [HSB.out]; exact info_rec) ?_
            simp only [Act.put, List.setIfInBounds_toArray, List.set_cons_zero, List.set_cons_succ]
            refine g_one 4 (by kernel_rfl) ?_
            refine g_store 25 (.tmp 7) (.tmp 53) U.heap.size XA rfl (by kernel_rfl) (by kernel_rfl) (by kernel_rfl) (by kernel_rfl) (by kernel_rfl) 25 ⟨recZ, (heap_alloc2_old _ _ _), by rw [HSA.out]; exact recZ_size⟩ (by rw [HSA.out]; exact info_rec) HOA.out ?_
            intro W1 hg1 hb1
            have hgs : Chg Non U W1 := (((Chg.refl Non U).alloc _).alloc _).then_new hg1 (fun x e => by omega)
            refine g_one 5 (by kernel_rfl) ?_
            refine g_store 25 (.tmp 8) (.tmp 54) (U.heap.size + 1) XB rfl (by kernel_rfl) (by kernel_rfl) (by kernel_rfl) (by kernel_rfl) (by kernel_rfl) 25 ⟨recZ, (hg1.block (U.heap.size + 1) (by simp <;> omega) (by omega)).trans (heap_alloc2_new _ _ _), by rw [HSB.out]; exact recZ_size⟩ (by rw [HSB.out]; exact info_rec) HOB.out ?_
            intro W2 hg2 hb2
            have hT2 : Two U.heap.size (U.heap.size + 1) XA XB W2 := ⟨(hg2.block U.heap.size (Array.getElem?_eq_some_iff.1 hb1).1 (by omega)).trans hb1, hb2⟩
            refine wpAny_done (by kernel_rfl) ?_ _
            exact ⟨rfl, (U.heap.size, (U.heap.size + 1)), by kernel_rfl, hT2, hUs.then_non (hgs.then_new hg2 (fun x e => by omega)), (by show u6.heap.size ≤ U.heap.size; omega), (by show u6.heap.size ≤ (U.heap.size + 1); omega), (by show U.heap.size ≠ (U.heap.size + 1); omega)⟩
          · refine g_store 25 (.tmp 7) (.tmp 53) U.heap.size XA rfl (by kernel_rfl) (by kernel_rfl) (by kernel_rfl) (by kernel_rfl) (by kernel_rfl) 25 ⟨recZ, (heap_alloc2_old _ _ _), by rw [HSA.out]; exact recZ_size⟩ (by rw [HSA.out]; exact info_rec) HOA.out ?_
            intro W1 hg1 hb1
            have hgs : Chg Non U W1 := (((Chg.refl Non U).alloc _).alloc _).then_new hg1 (fun x e => by omega)
            refine g_one 1 (by kernel_rfl) ?_
            refine g_load (some 54) 25 (.tmp 3) (w.heap.size + 1) 0 XB _ rfl (by kernel_rfl) (by kernel_rfl) (by kernel_rfl) (by kernel_rfl) (HTU.out.non hgs).right Tryz.underlying25 rfl (by rw [HSB.out]; exact info_rec) ?_
            simp only [Act.put, List.setIfInBounds_toArray, List.set_cons_zero, List.set_cons_succ]
            refine g_one 5 (by kernel_rfl) ?_
            refine g_store 25 (.tmp 8) (.tmp 54) (U.heap.size + 1) XB rfl (by kernel_rfl) (by kernel_rfl) (by kernel_rfl) (by kernel_rfl) (by kernel_rfl) 25 ⟨recZ, (hg1.block (U.heap.size + 1) (by simp <;> omega) (by omega)).trans (heap_alloc2_new _ _ _), by rw [HSB.out]; exact recZ_size⟩ (by rw [HSB.out]; exact info_rec) HOB.out ?_
            intro W2 hg2 hb2
            have hT2 : Two U.heap.size (U.heap.size + 1) XA XB W2 := ⟨(hg2.block U.heap.size (Array.getElem?_eq_some_iff.1 hb1).1 (by omega)).trans hb1, hb2⟩
            refine wpAny_done (by kernel_rfl) ?_ _
            exact ⟨rfl, (U.heap.size, (U.heap.size + 1)), by kernel_rfl, hT2, hUs.then_non (hgs.then_new hg2 (fun x e => by omega)), (by show u6.heap.size ≤ U.heap.size; omega), (by show u6.heap.size ≤ (U.heap.size + 1); omega), (by show U.heap.size ≠ (U.heap.size + 1); omega)⟩
        · refine g_load (some 54) 25 (.tmp 3) (w.heap.size + 1) 0 XB _ rfl (by kernel_rfl) (by kernel_rfl) (by kernel_rfl) (by kernel_rfl) (HTU.out.non (((Chg.refl Non U).alloc _).alloc _)).right Tryz.underlying25 rfl (by rw [HSB.out]; exact info_rec) ?_
          simp only [Act.put, List.setIfInBounds_toArray, List.set_cons_zero, List.set_cons_succ]
          refine g_one 0 (by kernel_rfl) ?_
          refine g_load (some 53) 25 (.tmp 2) w.heap.size 0 XA _ rfl (by kernel_rfl) (by kernel_rfl) (by kernel_rfl) (by kernel_rfl) (HTU.out.non (((Chg.refl Non U).alloc _).alloc _)).left Tryz.underlying25 rfl (by rw [HSA.out]; exact info_rec) ?_
          simp only [Act.put, List.setIfInBounds_toArray, List.set_cons_zero, List.set_cons_succ]
          refine g_one 4 (by kernel_rfl) ?_
          refine g_store 25 (.tmp 7) (.tmp 53) U.heap.size XA rfl (by kernel_rfl) (by kernel_rfl) (by kernel_rfl) (by kernel_rfl) (by kernel_rfl) 25 ⟨recZ, (heap_alloc2_old _ _ _), by rw [HSA.out]; exact recZ_size⟩ (by rw [HSA.out]; exact info_rec) HOA.out ?_
          intro W1 hg1 hb1
          have hgs : Chg Non U W1 := (((Chg.refl Non U).alloc _).alloc _).then_new hg1 (fun x e => by omega)
          refine g_one 5 (by kernel_rfl) ?_
          refine g_store 25 (.tmp 8) (.tmp 54) (U.heap.size + 1) XB rfl (by kernel_rfl) (by kernel_rfl) (by kernel_rfl) (by kernel_rfl) (by kernel_rfl) 25 ⟨recZ, (hg1.block (U.heap.size + 1) (by simp <;> omega) (by omega)).trans (heap_alloc2_new _ _ _), by rw [HSB.out]; exact recZ_size⟩ (by rw [HSB.out]; exact info_rec) HOB.out ?_
          intro W2 hg2 hb2
          have hT2 : Two U.heap.size (U.heap.size + 1) XA XB W2 := ⟨(hg2.block U.heap.size (Array.getElem?_eq_some_iff.1 hb1).1 (by omega)).trans hb1, hb2⟩
          refine wpAny_done (by kernel_rfl) ?_ _
          exact ⟨rfl, (U.heap.size, (U.heap.size + 1)), by kernel_rfl, hT2, hUs.then_non (hgs.then_new hg2 (fun x e => by omega)), (by show u6.heap.size ≤ U.heap.size; omega), (by show u6.heap.size ≤ (U.heap.size + 1); omega), (by show U.heap.size ≠ (U.heap.size + 1); omega)⟩
    · refine g_step (some 8) (.pointer (some ⟨U.heap.size, 0, none⟩)) (U.alloc (.cells recZ 25)) rfl (by kernel_rfl) (by kernel_rfl) (by kernel_rfl) ?_
      simp only [Act.put, List.setIfInBounds_toArray, List.set_cons_zero, List.set_cons_succ]
      refine g_three 0 1 2 (by kernel_rfl) ?_ ?_ ?_
      · refine g_load (some 53) 25 (.tmp 2) w.heap.size 0 XA _ rfl (by kernel_rfl) (by kernel_rfl) (by kernel_rfl) (by kernel_rfl) (HTU.out.non ((Chg.refl Non U).alloc _)).left Tryz.underlying25 rfl (by rw [HSA.out]; exact info_rec) ?_
        simp only [Act.put, List.setIfInBounds_toArray, List.set_cons_zero, List.set_cons_succ]
        refine g_two 1 2 (by kernel_rfl) ?_ ?_
        · refine g_load (some 54) 25 (.tmp 3) (w.heap.size + 1) 0 XB _ rfl (by kernel_rfl) (by kernel_rfl) (by kernel_rfl) (by kernel_rfl) (HTU.out.non ((Chg.refl Non U).alloc _)).right Tryz.underlying25 rfl (by rw [HSB.out]; exact info_rec) ?_
          simp only [Act.put, List.setIfInBounds_toArray, List.set_cons_zero, List.set_cons_succ]
          refine g_one 2 (by kernel_rfl) ?_
          refine g_step (some 7) (.pointer (some ⟨U.heap.size + 1, 0, none⟩)) ((U.alloc (.cells recZ 25)).alloc (.cells recZ 25)) rfl (by kernel_rfl) (by kernel_rfl) (by rw [← hsz2]; kernel_rfl) ?_
          simp only [Act.put, List.setIfInBounds_toArray, List.set_cons_zero, List.set_cons_succ]
          refine g_one 4 (by kernel_rfl) ?_
          refine g_store 25 (.tmp 7) (.tmp 53) (U.heap.size + 1) XA rfl (by kernel_rfl) (by kernel_rfl) (by kernel_rfl) (by kernel_rfl) (by kernel_rfl) 25 ⟨recZ, (heap_alloc2_new _ _ _), by rw [HSA.out]; exact recZ_size⟩ (by rw [HSA.out]; exact info_rec) HOA.out ?_
          intro W1 hg1 hb1
          have hgs : Chg Non U W1 := (((Chg.refl Non U).alloc _).alloc _).then_new hg1 (fun x e => by omega)
          refine g_one 5 (by kernel_rfl) ?_
          refine g_store 25 (.tmp 8) (.tmp 54) U.heap.size XB rfl (by kernel_rfl) (by kernel_rfl) (by kernel_rfl) (by kernel_rfl) (by kernel_rfl) 25 ⟨recZ, (hg1.block U.heap.size (by simp <;> omega) (by omega)).trans (heap_alloc2_old _ _ _), by rw [HSB.out]; exact recZ_size⟩ (by rw [HSB.out]; exact info_rec) HOB.out ?_
          intro W2 hg2 hb2
          have hT2 : Two (U.heap.size + 1) U.heap.size XA XB W2 := ⟨(hg2.block (U.heap.size + 1) (Array.getElem?_eq_some_iff.1 hb1).1 (by omega)).trans hb1, hb2⟩
          refine wpAny_done (by kernel_rfl) ?_ _
          exact ⟨rfl, ((U.heap.size + 1), U.heap.size), by kernel_rfl, hT2, hUs.then_non (hgs.then_new hg2 (fun x e => by omega)), (by show u6.heap.size ≤ (U.heap.size + 1); omega), (by show u6.heap.size ≤ U.heap.size; omega), (by show (U.heap.size + 1) ≠ U.heap.size; omega)⟩
        · refine g_step (some 7) (.pointer (some ⟨U.heap.size + 1, 0, none⟩)) ((U.alloc (.cells recZ 25)).alloc (.cells recZ 25)) rfl (by kernel_rfl) (by kernel_rfl) (by rw [← hsz2]; kernel_rfl) ?_
          simp only [Act.put, List.setIfInBounds_toArray, List.set_cons_zero, List.set_cons_succ]
          refine g_two 1 4 (by kernel_rfl) ?_ ?_
          · refine g_load (some 54) 25 (.tmp 3) (w.heap.size + 1) 0 XB _ rfl (by kernel_rfl) (by kernel_rfl) (by kernel_rfl) (by kernel_rfl) (HTU.out.non (((Chg.refl Non U).alloc _).alloc _)).right Tryz.underlying25 rfl (by rw [HSB.out]; exact info_rec) ?_
            simp only [Act.put, List.setIfInBounds_toArray, List.set_cons_zero, List.set_cons_succ]
            refine g_one 4 (by kernel_rfl) ?_
            refine g_store 25 (.tmp 7) (.tmp 53) (U.heap.size + 1) XA rfl (by kernel_rfl) (by kernel_rfl) (by kernel_rfl) (by kernel_rfl) (by kernel_rfl) 25 ⟨recZ, (heap_alloc2_new _ _ _), by rw [HSA.out]; exact recZ_size⟩ (by rw [HSA.out]; exact info_rec) HOA.out ?_
            intro W1 hg1 hb1
            have hgs : Chg Non U W1 := (((Chg.refl Non U).alloc _).alloc _).then_new hg1 (fun x e => by omega)
            refine g_one 5 (by kernel_rfl) ?_
            refine g_store 25 (.tmp 8) (.tmp 54) U.heap.size XB rfl (by kernel_rfl) (by kernel_rfl) (by kernel_rfl) (by kernel_rfl) (by kernel_rfl) 25 ⟨recZ, (hg1.block U.heap.size (by simp <;> omega) (by omega)).trans (heap_alloc2_old _ _ _), by rw [HSB.out]; exact recZ_size⟩ (by rw [HSB.out]; exact info_rec) HOB.out ?_
            intro W2 hg2 hb2
            have hT2 : Two (U.heap.size + 1) U.heap.size XA XB W2 := ⟨(hg2.block (U.heap.size + 1) (Array.getElem?_eq_some_iff.1 hb1).1 (by omega)).trans hb1, hb2⟩
            refine wpAny_done (by kernel_rfl) ?_ _
            exact ⟨rfl, ((U.heap.size + 1), U.heap.size), by kernel_rfl, hT2, hUs.then_non (hgs.then_new hg2 (fun x e => by omega)), (by show u6.heap.size ≤ (U.heap.size + 1); omega), (by show u6.heap.size ≤ U.heap.size; omega), (by show (U.heap.size + 1) ≠ U.heap.size; omega)⟩
          · refine g_store 25 (.tmp 7) (.tmp 53) (U.heap.size + 1) XA rfl (by kernel_rfl) (by kernel_rfl) (by kernel_rfl) (by kernel_rfl) (by kernel_rfl) 25 ⟨recZ, (heap_alloc2_new _ _ _), by rw [HSA.out]; exact recZ_size⟩ (by rw [HSA.out]; exact info_rec) HOA.out ?_
            intro W1 hg1 hb1
            have hgs : Chg Non U W1 := (((Chg.refl Non U).alloc _).alloc _).then_new hg1 (fun x e => by omega)
            refine g_one 1 (by kernel_rfl) ?_
            refine g_load (some 54) 25 (.tmp 3) (w.heap.size + 1) 0 XB _ rfl (by kernel_rfl) (by kernel_rfl) (by kernel_rfl) (by kernel_rfl) (HTU.out.non hgs).right Tryz.underlying25 rfl (by rw [HSB.out]; exact info_rec) ?_
            simp only [Act.put, List.setIfInBounds_toArray, List.set_cons_zero, List.set_cons_succ]
            refine g_one 5 (by kernel_rfl) ?_
            refine g_store 25 (.tmp 8) (.tmp 54) U.heap.size XB rfl (by kernel_rfl) (by kernel_rfl) (by kernel_rfl) (by kernel_rfl) (by kernel_rfl) 25 ⟨recZ, (hg1.block U.heap.size (by simp <;> omega) (by omega)).trans (heap_alloc2_old _ _ _), by rw [HSB.out]; exact recZ_size⟩ (by rw [HSB.out]; exact info_rec) HOB.out ?_
            intro W2 hg2 hb2
            have hT2 : Two (U.heap.size + 1) U.heap.size XA XB W2 := ⟨(hg2.block (U.heap.size + 1) (Array.getElem?_eq_some_iff.1 hb1).1 (by omega)).trans hb1, hb2⟩
            refine wpAny_done (by kernel_rfl) ?_ _
            exact ⟨rfl, ((U.heap.size + 1), U.heap.size), by kernel_rfl, hT2, hUs.then_non (hgs.then_new hg2 (fun x e => by omega)), (by show u6.heap.size ≤ (U.heap.size + 1); omega), (by show u6.heap.size ≤ U.heap.size; omega), (by show (U.heap.size + 1) ≠ U.heap.size; omega)⟩
      · refine g_load (some 54) 25 (.tmp 3) (w.heap.size + 1) 0 XB _ rfl (by kernel_rfl) (by kernel_rfl) (by kernel_rfl) (by kernel_rfl) (HTU.out.non ((Chg.refl Non U).alloc _)).right Tryz.underlying25 rfl (by rw [HSB.out]; exact info_rec) ?_
        simp only [Act.put, List.setIfInBounds_toArray, List.set_cons_zero, List.set_cons_succ]
        refine g_two 0 2 (by kernel_rfl) ?_ ?_
        · refine g_load (some 53) 25 (.tmp 2) w.heap.size 0 XA _ rfl (by kernel_rfl) (by kernel_rfl) (by kernel_rfl) (by kernel_rfl) (HTU.out.non ((Chg.refl Non U).alloc _)).left Tryz.underlying25 rfl (by rw [HSA.out]; exact info_rec) ?_
          simp only [Act.put, List.setIfInBounds_toArray, List.set_cons_zero, List.set_cons_succ]
          refine g_one 2 (by kernel_rfl) ?_
          refine g_step (some 7) (.pointer (some ⟨U.heap.size + 1, 0, none⟩)) ((U.alloc (.cells recZ 25)).alloc (.cells recZ 25)) rfl (by kernel_rfl) (by kernel_rfl) (by rw [← hsz2]; kernel_rfl) ?_
          simp only [Act.put, List.setIfInBounds_toArray, List.set_cons_zero, List.set_cons_succ]
          refine g_one 4 (by kernel_rfl) ?_
          refine g_store 25 (.tmp 7) (.tmp 53) (U.heap.size + 1) XA rfl (by kernel_rfl) (by kernel_rfl) (by kernel_rfl) (by kernel_rfl) (by kernel_rfl) 25 ⟨recZ, (heap_alloc2_new _ _ _), by rw [HSA.out]; exact recZ_size⟩ (by rw [HSA.out]; exact info_rec) HOA.out ?_
          intro W1 hg1 hb1
          have hgs : Chg Non U W1 := (((Chg.refl Non U).alloc _).alloc _).then_new hg1 (fun x e => by omega)
          refine g_one 5 (by kernel_rfl) ?_
          refine g_store 25 (.tmp 8) (.tmp 54) U.heap.size XB rfl (by kernel_rfl) (by kernel_rfl) (by kernel_rfl) (by kernel_rfl) (by kernel_rfl) 25 ⟨recZ, (hg1.block U.heap.size (by simp <;> omega) (by omega)).trans (heap_alloc2_old _ _ _), by rw [HSB.out]; exact recZ_size⟩ (by rw [HSB.out]; exact info_rec) HOB.out ?_
          intro W2 hg2 hb2
          have hT2 : Two (U.heap.size + 1) U.heap.size XA XB W2 := ⟨(hg2.block (U.heap.size + 1) (Array.getElem?_eq_some_iff.1 hb1).1 (by omega)).trans hb1, hb2⟩
          refine wpAny_done (by kernel_rfl) ?_ _
          exact ⟨rfl, ((U.heap.size + 1), U.heap.size), by kernel_rfl, hT2, hUs.then_non (hgs.then_new hg2 (fun x e => by omega)), (by show u6.heap.size ≤ (U.heap.size + 1); omega), (by show u6.heap.size ≤ U.heap.size; omega), (by show (U.heap.size + 1) ≠ U.heap.size; omega)⟩
        · refine g_step (some 7) (.pointer (some ⟨U.heap.size + 1, 0, none⟩)) ((U.alloc (.cells recZ 25)).alloc (.cells recZ 25)) rfl (by kernel_rfl) (by kernel_rfl) (by rw [← hsz2]; kernel_rfl) ?_
          simp only [Act.put, List.setIfInBounds_toArray, List.set_cons_zero, List.set_cons_succ]
          refine g_one 0 (by kernel_rfl) ?_
          refine g_load (some 53) 25 (.tmp 2) w.heap.size 0 XA _ rfl (by kernel_rfl) (by kernel_rfl) (by kernel_rfl) (by kernel_rfl) (HTU.out.non (((Chg.refl Non U).alloc _).alloc _)).left Tryz.underlying25 rfl (by rw [HSA.out]; exact info_rec) ?_
          simp only [Act.put, List.setIfInBounds_toArray, List.set_cons_zero, List.set_cons_succ]
          refine g_one 4 (by kernel_rfl) ?_
          refine g_store 25 (.tmp 7) (.tmp 53) (U.heap.size + 1) XA rfl (by kernel_rfl) (by kernel_rfl) (by kernel_rfl) (by kernel_rfl) (by kernel_rfl) 25 ⟨recZ, (heap_alloc2_new _ _ _), by rw [HSA.out]; exact recZ_size⟩ (by rw [HSA.out]; exact info_rec) HOA.out ?_
          intro W1 hg1 hb1
          have hgs : Chg Non U W1 := (((Chg.refl Non U).alloc _).alloc _).then_new hg1 (fun x e => by omega)
          refine g_one 5 (by kernel_rfl) ?_
          refine g_store 25 (.tmp 8) (.tmp 54) U.heap.size XB rfl (by kernel_rfl) (by kernel_rfl) (by kernel_rfl) (by kernel_rfl) (by kernel_rfl) 25 ⟨recZ, (hg1.block U.heap.size (by simp <;> omega) (by omega)).trans (heap_alloc2_old _ _ _), by rw [HSB.out]; exact recZ_size⟩ (by rw [HSB.out]; exact info_rec) HOB.out ?_
          intro W2 hg2 hb2
          have hT2 : Two (U.heap.size + 1) U.heap.size XA XB W2 := ⟨(hg2.block (U.heap.size + 1) (Array.getElem?_eq_some_iff.1 hb1).1 (by omega)).trans hb1, hb2⟩
          refine wpAny_done (by kernel_rfl) ?_ _
          exact ⟨rfl, ((U.heap.size + 1), U.heap.size), by kernel_rfl, hT2, hUs.then_non (hgs.then_new hg2 (fun x e => by omega)), (by show u6.heap.size ≤ (U.heap.size + 1); omega), (by show u6.heap.size ≤ U.heap.size; omega), (by show (U.heap.size + 1) ≠ U.heap.size; omega)⟩
      · refine g_step (some 7) (.pointer (some ⟨U.heap.size + 1, 0, none⟩)) ((U.alloc (.cells recZ 25)).alloc (.cells recZ 25)) rfl (by kernel_rfl) (by kernel_rfl) (by rw [← hsz2]; kernel_rfl) ?_
        simp only [Act.put, List.setIfInBounds_toArray, List.set_cons_zero, List.set_cons_succ]
        refine g_two 0 1 (by kernel_rfl) ?_ ?_
        · refine g_load (some 53) 25 (.tmp 2) w.heap.size 0 XA _ rfl (by kernel_rfl) (by kernel_rfl) (by kernel_rfl) (by kernel_rfl) (HTU.out.non (((Chg.refl Non U).alloc _).alloc _)).left Tryz.underlying25 rfl (by rw [HSA.out]; exact info_rec) ?_
          simp only [Act.put, List.setIfInBounds_toArray, List.set_cons_zero, List.set_cons_succ]
          refine g_two 1 4 (by kernel_rfl) ?_ ?_
          · refine g_load (some 54) 25 (.tmp 3) (w.heap.size + 1) 0 XB _ rfl (by kernel_rfl) (by kernel_rfl) (by kernel_rfl) (by kernel_rfl) (HTU.out.non (((Chg.refl Non U).alloc _).alloc _)).right Tryz.underlying25 rfl (by rw [HSB.out]; exact info_rec) ?_
            simp only [Act.put, List.setIfInBounds_toArray, List.set_cons_zero, List.set_cons_succ]
            refine g_one 4 (by kernel_rfl) ?_
            refine g_store 25 (.tmp 7) (.tmp 53) (U.heap.size + 1) XA rfl (by kernel_rfl) (by kernel_rfl) (by kernel_rfl) (by kernel_rfl) (by kernel_rfl) 25 ⟨recZ, (heap_alloc2_new _ _ _), by rw [HSA.out]; exact recZ_size⟩ (by rw [HSA.out]; exact info_rec) HOA.out ?_
            intro W1 hg1 hb1
            have hgs : Chg Non U W1 := (((Chg.refl Non U).alloc _).alloc _).then_new hg1 (fun x e => by omega)
            refine g_one 5 (by kernel_rfl) ?_
            refine g_store 25 (.tmp 8) (.tmp 54) U.heap.size XB rfl (by kernel_rfl) (by kernel_rfl) (by kernel_rfl) (by kernel_rfl) (by kernel_rfl) 25 ⟨recZ, (hg1.block U.heap.size (by simp <;> omega) (by omega)).trans (heap_alloc2_old _ _ _), by rw [HSB.out]; exact recZ_size⟩ (by rw [HSB.out]; exact info_rec) HOB.out ?_
            intro W2 hg2 hb2
            have hT2 : Two (U.heap.size + 1) U.heap.size XA XB W2 := ⟨(hg2.block (U.heap.size + 1) (Array.getElem?_eq_some_iff.1 hb1).1 (by omega)).trans hb1, hb2⟩
            refine wpAny_done (by kernel_rfl) ?_ _
            exact ⟨rfl, ((U.heap.size + 1), U.heap.size), by kernel_rfl, hT2, hUs.then_non (hgs.then_new hg2 (fun x e => by omega)), (by show u6.heap.size ≤ (U.heap.size + 1); omega), (by show u6.heap.size ≤ U.heap.size; omega), (by show (U.heap.size + 1) ≠ U.heap.size; omega)⟩
          · refine g_store 25 (.tmp 7) (.tmp 53) (U.heap.size + 1) XA rfl (by kernel_rfl) (by kernel_rfl) (by kernel_rfl) (by kernel_rfl) (by kernel_rfl) 25 ⟨recZ, (heap_alloc2_new _ _ _), by rw [HSA.out]; exact recZ_size⟩ (by rw [HSA.out]; exact info_rec) HOA.out ?_
            intro W1 hg1 hb1
            have hgs : Chg Non U W1 := (((Chg.refl Non U).alloc _).alloc _).then_new hg1 (fun x e => by omega)
            refine g_one 1 (by kernel_rfl) ?_
            refine g_load (some 54) 25 (.tmp 3) (w.heap.size + 1) 0 XB _ rfl (by kernel_rfl) (by kernel_rfl) (by kernel_rfl) (by kernel_rfl) (HTU.out.non hgs).right Tryz.underlying25 rfl (by rw [HSB.out]; exact info_rec) ?_
            simp only [Act.put, List.setIfInBounds_toArray, List.set_cons_zero, List.set_cons_succ]
            refine g_one 5 (by kernel_rfl) ?_
            refine g_store 25 (.tmp 8) (.tmp 54) U.heap.size XB rfl (by kernel_rfl) (by kernel_rfl) (by kernel_rfl) (by kernel_rfl) (by kernel_rfl) 25 ⟨recZ, (hg1.block U.heap.size (by simp <;> omega) (by omega)).trans (heap_alloc2_old _ _ _), by rw [HSB.out]; exact recZ_size⟩ (by rw [HSB.out]; exact info_rec) HOB.out ?_
            intro W2 hg2 hb2
            have hT2 : Two (U.heap.size + 1) U.heap.size XA XB W2 := ⟨(hg2.block (U.heap.size + 1) (Array.getElem?_eq_some_iff.1 hb1).1 (by omega)).trans hb1, hb2⟩
            refine wpAny_done (by kernel_rfl) ?_ _
            exact ⟨rfl, ((U.heap.size + 1), U.heap.size), by kernel_rfl, hT2, hUs.then_non (hgs.then_new hg2 (fun x e => by omega)), (by show u6.heap.size ≤ (U.heap.size + 1); omega), (by show u6.heap.size ≤ U.heap.size; omega), (by show (U.heap.size + 1) ≠ U.heap.size; omega)⟩
        · refine g_load (some 54) 25 (.tmp 3) (w.heap.size + 1) 0 XB _ rfl (by kernel_rfl) (by kernel_rfl) (by kernel_rfl) (by kernel_rfl) (HTU.out.non (((Chg.refl Non U).alloc _).alloc _)).right Tryz.underlying25 rfl (by rw [HSB.out]; exact info_rec) ?_
          simp only [Act.put, List.setIfInBounds_toArray, List.set_cons_zero, List.set_cons_succ]
          refine g_one 0 (by kernel_rfl) ?_
          refine g_load (some 53) 25 (.tmp 2) w.heap.size 0 XA _ rfl (by kernel_rfl) (by kernel_rfl) (by kernel_rfl) (by kernel_rfl) (HTU.out.non (((Chg.refl Non U).alloc _).alloc _)).left Tryz.underlying25 rfl (by rw [HSA.out]; exact info_rec) ?_
          simp only [Act.put, List.setIfInBounds_toArray, List.set_cons_zero, List.set_cons_succ]
          refine g_one 4 (by kernel_rfl) ?_
          refine g_store 25 (.tmp 7) (.tmp 53) (U.heap.size + 1) XA rfl (by kernel_rfl) (by kernel_rfl) (by kernel_rfl) (by kernel_rfl) (by kernel_rfl) 25 ⟨recZ, (heap_alloc2_new _ _ _), by rw [HSA.out]; exact recZ_size⟩ (by rw [HSA.out]; exact info_rec) HOA.out ?_
          intro W1 hg1 hb1
          have hgs : Chg Non U W1 := (((Chg.refl Non U).alloc _).alloc _).then_new hg1 (fun x e => by omega)
          refine g_one 5 (by kernel_rfl) ?_
          refine g_store 25 (.tmp 8) (.tmp 54) U.heap.size XB rfl (by kernel_rfl) (by kernel_rfl) (by kernel_rfl) (by kernel_rfl) (by kernel_rfl) 25 ⟨recZ, (hg1.block U.heap.size (by simp <;> omega) (by omega)).trans (heap_alloc2_old _ _ _), by rw [HSB.out]; exact recZ_size⟩ (by rw [HSB.out]; exact info_rec) HOB.out ?_
          intro W2 hg2 hb2
          have hT2 : Two (U.heap.size + 1) U.heap.size XA XB W2 := ⟨(hg2.block (U.heap.size + 1) (Array.getElem?_eq_some_iff.1 hb1).1 (by omega)).trans hb1, hb2⟩
          refine wpAny_done (by kernel_rfl) ?_ _
          exact ⟨rfl, ((U.heap.size + 1), U.heap.size), by kernel_rfl, hT2, hUs.then_non (hgs.then_new hg2 (fun x e => by omega)), (by show u6.heap.size ≤ (U.heap.size + 1); omega), (by show u6.heap.size ≤ U.heap.size; omega), (by show (U.heap.size + 1) ≠ U.heap.size; omega)⟩
  rintro ⟨p, q⟩ v ⟨hT, hgv, h1, h2, hpq⟩
  simp only at hT h1 h2 hpq
  simp only [Act.put, List.setIfInBounds_toArray, List.set_cons_zero, List.set_cons_succ]
  have HTP := Lib.hid hT
  have HTV := Lib.hid (HT6.out.non hgv)
  have KC := Lib.hid (KC.out.non hgv)
  have ka := (show v.cell? ⟨w.heap.size, 0, none⟩ = some (.int .i64 sa) by rw [cell_of_row _ _ _ _ _ _ HTV.out.1]; exact HCA.out)
  have kb := (show v.cell? ⟨w.heap.size + 1, 0, none⟩ = some (.int .i64 sb) by rw [cell_of_row _ _ _ _ _ _ HTV.out.2]; exact HCB.out)
  have hszv : u6.heap.size ≤ v.heap.size := hgv.size
  have hpv : p < v.heap.size := (Array.getElem?_eq_some_iff.1 hT.1).1
  have hqv : q < v.heap.size := (Array.getElem?_eq_some_iff.1 hT.2).1
  clear hT hgv
  by_cases hgt : sa < sb
  · skip
    by_cases hn : sb - sa = 1
    · skip
      have HKG : Hid (∀ (w0 W : World) (pd ps pm : Nat), KeptC w0 W pd ps pm 2 st0 st1 → Calls Tryz.prog 9 #[.pointer (some ⟨pd, 0, none⟩)] W fun e w' => e = .returned (.tuple #[.agg XB, .agg XA, .int .i64 0]) ∧ KeptC w0 w' pd ps pm 2 st0 st1 ∧ Chg Non W w') := Lib.hid (by
        intro w0 W pd ps pm h
        have := keptC_get h
        rw [HTell.out, HA.out, HB.out, if_pos (by omega), if_pos hn] at this
        simp only [HXB.out, HXA.out] at this
        exact this)
      have hd : decide (sb > sa) = true := by simp; omega
      have hd2 : decide (sa < sb) = true := by simp; omega
      have hw1 : IntKind.i64.wrap (sb - sa) = sb - sa := Go.IntWalk.i64_in _ (by omega)
      have hw2 : wrap64 (sb - sa) = sb - sa := by unfold wrap64; omega
      have hnb : (sb - sa != 1) = false := by rw [bne_eq_false_iff_eq]; exact hn
      clear hn hgt
      go_wp2_with fail
      clear ka kb
      apply wp_cutA (R := fun v' => Two p q XB XA v' ∧ Chg (fun x => x = p ∨ x = q) v v')
      · refine wp_region_any (by kernel_rfl) ?_
        change wpAny _ _ _ _ _ _ _ (World.drew v)
        have HTV : Hid (Two w.heap.size (w.heap.size + 1) XA XB v.drew) := Lib.hid HTV.out
        have HTP : Hid (Two p q XA XB v.drew) := Lib.hid HTP.out
        have HGV : Hid (Chg (fun x => x = p ∨ x = q) v v.drew) := Lib.hid (Chg.refl _ _).drew
        refine g_two 0 1 (by kernel_rfl) ?_ ?_
        · refine g_load (some 60) 25 (.tmp 3) (w.heap.size + 1) 0 XB _ rfl (by kernel_rfl) (by kernel_rfl) (by kernel_rfl) (by kernel_rfl) HTV.out.right Tryz.underlying25 rfl (by rw [HSB.out]; exact info_rec) ?_
          simp only [Act.put, List.setIfInBounds_toArray, List.set_cons_zero, List.set_cons_succ]
          refine g_two 1 2 (by kernel_rfl) ?_ ?_
          · refine g_load (some 61) 25 (.tmp 2) w.heap.size 0 XA _ rfl (by kernel_rfl) (by kernel_rfl) (by kernel_rfl) (by kernel_rfl) HTV.out.left Tryz.underlying25 rfl (by rw [HSA.out]; exact info_rec) ?_
            simp only [Act.put, List.setIfInBounds_toArray, List.set_cons_zero, List.set_cons_succ]
            refine g_one 2 (by kernel_rfl) ?_
            refine g_store 25 (.tmp 7) (.tmp 60) p XB rfl (by kernel_rfl) (by kernel_rfl) (by kernel_rfl) (by kernel_rfl) (by kernel_rfl) 25 ⟨XA, HTP.out.1, by rw [HSA.out, HSB.out]⟩ (by rw [HSB.out]; exact info_rec) HOB.out ?_
            intro W1 hg1 hb1
            have hTV1 := HTV.out.keep hg1 (by omega) (by omega)
            have hT1 := HTP.out.put1 hpq hg1 hb1
            refine g_one 3 (by kernel_rfl) ?_
            refine g_store 25 (.tmp 8) (.tmp 61) q XA rfl (by kernel_rfl) (by kernel_rfl) (by kernel_rfl) (by kernel_rfl) (by kernel_rfl) 25 ⟨XB, hT1.2, by rw [HSA.out, HSB.out]⟩ (by rw [HSA.out]; exact info_rec) HOA.out ?_
            intro W2 hg2 hb2
            have hT2 := hT1.put2 hpq hg2 hb2
            refine wpAny_done (by kernel_rfl) ?_ _
            exact ⟨rfl, rfl, hT2, (HGV.out.trans hg1 (fun _ h => h) (fun x _ e => .inl e)).trans hg2 (fun _ h => h) (fun x _ e => .inr e)⟩
          · refine g_store 25 (.tmp 7) (.tmp 60) p XB rfl (by kernel_rfl) (by kernel_rfl) (by kernel_rfl) (by kernel_rfl) (by kernel_rfl) 25 ⟨XA, HTP.out.1, by rw [HSA.out, HSB.out]⟩ (by rw [HSB.out]; exact info_rec) HOB.out ?_
            intro W1 hg1 hb1
            have hTV1 := HTV.out.keep hg1 (by omega) (by omega)
            have hT1 := HTP.out.put1 hpq hg1 hb1
            refine g_one 1 (by kernel_rfl) ?_
            refine g_load (some 61) 25 (.tmp 2) w.heap.size 0 XA _ rfl (by kernel_rfl) (by kernel_rfl) (by kernel_rfl) (by kernel_rfl) hTV1.left Tryz.underlying25 rfl (by rw [HSA.out]; exact info_rec) ?_
            simp only [Act.put, List.setIfInBounds_toArray, List.set_cons_zero, List.set_cons_succ]
            refine g_one 3 (by kernel_rfl) ?_
            refine g_store 25 (.tmp 8) (.tmp 61) q XA rfl (by kernel_rfl) (by kernel_rfl) (by kernel_rfl) (by kernel_rfl) (by kernel_rfl) 25 ⟨XB, hT1.2, by rw [HSA.out, HSB.out]⟩ (by rw [HSA.out]; exact info_rec) HOA.out ?_
            intro W2 hg2 hb2
            have hT2 := hT1.put2 hpq hg2 hb2
            refine wpAny_done (by kernel_rfl) ?_ _
            exact ⟨rfl, rfl, hT2, (HGV.out.trans hg1 (fun _ h => h) (fun x _ e => .inl e)).trans hg2 (fun _ h => h) (fun x _ e => .inr e)⟩
        · refine g_load (some 61) 25 (.tmp 2) w.heap.size 0 XA _ rfl (by kernel_rfl) (by kernel_rfl) (by kernel_rfl) (by kernel_rfl) HTV.out.left Tryz.underlying25 rfl (by rw [HSA.out]; exact info_rec) ?_
          simp only [Act.put, List.setIfInBounds_toArray, List.set_cons_zero, List.set_cons_succ]
          refine g_one 0 (by kernel_rfl) ?_
          refine g_load (some 60) 25 (.tmp 3) (w.heap.size + 1) 0 XB _ rfl (by kernel_rfl) (by kernel_rfl) (by kernel_rfl) (by kernel_rfl) HTV.out.right Tryz.underlying25 rfl (by rw [HSB.out]; exact info_rec) ?_
          simp only [Act.put, List.setIfInBounds_toArray, List.set_cons_zero, List.set_cons_succ]
          refine g_one 2 (by kernel_rfl) ?_
          refine g_store 25 (.tmp 7) (.tmp 60) p XB rfl (by kernel_rfl) (by kernel_rfl) (by kernel_rfl) (by kernel_rfl) (by kernel_rfl) 25 ⟨XA, HTP.out.1, by rw [HSA.out, HSB.out]⟩ (by rw [HSB.out]; exact info_rec) HOB.out ?_
          intro W1 hg1 hb1
          have hTV1 := HTV.out.keep hg1 (by omega) (by omega)
          have hT1 := HTP.out.put1 hpq hg1 hb1
          refine g_one 3 (by kernel_rfl) ?_
          refine g_store 25 (.tmp 8) (.tmp 61) q XA rfl (by kernel_rfl) (by kernel_rfl) (by kernel_rfl) (by kernel_rfl) (by kernel_rfl) 25 ⟨XB, hT1.2, by rw [HSA.out, HSB.out]⟩ (by rw [HSA.out]; exact info_rec) HOA.out ?_
          intro W2 hg2 hb2
          have hT2 := hT1.put2 hpq hg2 hb2
          refine wpAny_done (by kernel_rfl) ?_ _
          exact ⟨rfl, rfl, hT2, (HGV.out.trans hg1 (fun _ h => h) (fun x _ e => .inl e)).trans hg2 (fun _ h => h) (fun x _ e => .inr e)⟩
      rintro v' ⟨hT, hgv⟩
      have HTP := Lib.hid hT
      have KC := Lib.hid (KC.out.newKeep hgv (fun x e => by rcases e with rfl | rfl <;> omega))
      have hszv' : v.heap.size ≤ v'.heap.size := hgv.size
      clear hT hgv
      go_wp2_with (first
        | (go_at_call 9
           refine (HKG.out _ _ _ _ _ KC.out).mono ?_
           rintro e u7 ⟨rfl, k, hg⟩
           have KC := Lib.hid k
           have HTP := Lib.hid (HTP.out.non hg)
           have hz7 := hg.size
           clear k hg)
        | (refine sel none (.store 25 (.tmp 9) (.tmp 65)) ?_
           refine wpList_store_rowA rfl 25 (.tmp 9) (.tmp 65) rfl u7.heap.size XB rfl rfl 25 _ (heap_alloc2_old _ _ _) (by rw [HSB.out]; exact info_rec) (by rw [HSB.out]; rfl) HOB.out ?_
           intro v8 hg1 hb1
           have HT8 : Hid (Two u7.heap.size (u7.heap.size + 1) XB recZ v8) := Lib.hid ⟨hb1, (hg1.block (u7.heap.size + 1) (by simp) (by omega)).trans (heap_alloc2_new _ _ _)⟩
           have HG8 := Lib.hid ((((Chg.refl Non u7).alloc _).alloc _).then_new hg1 (fun x e => by omega))
           clear hg1 hb1)
        | (refine sel none (.store 25 (.tmp 10) (.tmp 66)) ?_
           refine wpList_store_rowA rfl 25 (.tmp 10) (.tmp 66) rfl (u7.heap.size + 1) XA rfl rfl 25 _ HT8.out.2 (by rw [HSA.out]; exact info_rec) (by rw [HSA.out, recZ_size]) HOA.out ?_
           intro v9 hg2 hb2
           have HT9 := Lib.hid (HT8.out.put2 (by omega) hg2 hb2)
           have HG9 := Lib.hid (HG8.out.then_new hg2 (fun x e => by omega))
           have HTP := Lib.hid (HTP.out.non HG9.out)
           have KC := Lib.hid (KC.out.non HG9.out)
           have hz9 := HG9.out.size
           have kp : v9.cell? ⟨p, 0, none⟩ = some (.int .i64 sb) := by rw [cell_of_row _ _ _ _ _ _ HTP.out.1]; exact HCB.out
           have kq : v9.cell? ⟨q, 0, none⟩ = some (.int .i64 sa) := by rw [cell_of_row _ _ _ _ _ _ HTP.out.2]; exact HCA.out
           clear hg2 hb2)
        | (refine sel (some 78) (.load 25 (.tmp 9)) ?_
           refine wpList_loadW (some 78) 25 (.tmp 9) u7.heap.size 0 XB _ rfl rfl (by kernel_rfl) (by kernel_rfl) HT9.out.left Tryz.underlying25 rfl (by rw [HSB.out]; exact info_rec) ?_)
        | (refine sel (some 79) (.load 25 (.tmp 7)) ?_
           refine wpList_loadW (some 79) 25 (.tmp 7) p 0 XB _ rfl rfl (by kernel_rfl) (by kernel_rfl) HTP.out.left Tryz.underlying25 rfl (by rw [HSB.out]; exact info_rec) ?_)
        | (refine sel (some 83) (.load 25 (.tmp 10)) ?_
           refine wpList_loadW (some 83) 25 (.tmp 10) (u7.heap.size + 1) 0 XA _ rfl rfl (by kernel_rfl) (by kernel_rfl) HT9.out.right Tryz.underlying25 rfl (by rw [HSA.out]; exact info_rec) ?_)
        | (refine sel (some 84) (.load 25 (.tmp 8)) ?_
           refine wpList_loadW (some 84) 25 (.tmp 8) q 0 XA _ rfl rfl (by kernel_rfl) (by kernel_rfl) HTP.out.right Tryz.underlying25 rfl (by rw [HSA.out]; exact info_rec) ?_))
      go_ret
      exact ⟨rfl, HG3.out.then_non KC.out.chg⟩

    · skip
      have HKG : Hid (∀ (w0 W : World) (pd ps pm : Nat), KeptC w0 W pd ps pm 2 st0 st1 → Calls Tryz.prog 9 #[.pointer (some ⟨pd, 0, none⟩)] W fun e w' => e = .returned (.tuple #[.agg XB, .agg recZ, .int .i64 0]) ∧ KeptC w0 w' pd ps pm 2 st0 st1 ∧ Chg Non W w') := Lib.hid (by
        intro w0 W pd ps pm h
        have := keptC_get h
        rw [HTell.out, HA.out, HB.out, if_pos (by omega), if_neg hn] at this
        simp only [HXB.out, HZZ.out] at this
        exact this)
      have hd : decide (sb > sa) = true := by simp; omega
      have hd2 : decide (sa < sb) = true := by simp; omega
      have hw1 : IntKind.i64.wrap (sb - sa) = sb - sa := Go.IntWalk.i64_in _ (by omega)
      have hw2 : wrap64 (sb - sa) = sb - sa := by unfold wrap64; omega
      have hnb : (sb - sa != 1) = true := by rw [bne_iff_ne]; exact hn
      clear hn hgt
      go_wp2_with fail
      clear ka kb
      apply wp_cutA (R := fun v' => Two p q XB XA v' ∧ Chg (fun x => x = p ∨ x = q) v v')
      · refine wp_region_any (by kernel_rfl) ?_
        change wpAny _ _ _ _ _ _ _ (World.drew v)
        have HTV : Hid (Two w.heap.size (w.heap.size + 1) XA XB v.drew) := Lib.hid HTV.out
        have HTP : Hid (Two p q XA XB v.drew) := Lib.hid HTP.out
        have HGV : Hid (Chg (fun x => x = p ∨ x = q) v v.drew) := Lib.hid (Chg.refl _ _).drew
        refine g_two 0 1 (by kernel_rfl) ?_ ?_
        · refine g_load (some 60) 25 (.tmp 3) (w.heap.size + 1) 0 XB _ rfl (by kernel_rfl) (by kernel_rfl) (by kernel_rfl) (by kernel_rfl) HTV.out.right Tryz.underlying25 rfl (by rw [HSB.out]; exact info_rec) ?_
          simp only [Act.put, List.setIfInBounds_toArray, List.set_cons_zero, List.set_cons_succ]
          refine g_two 1 2 (by kernel_rfl) ?_ ?_
          · refine g_load (some 61) 25 (.tmp 2) w.heap.size 0 XA _ rfl (by kernel_rfl) (by kernel_rfl) (by kernel_rfl) (by kernel_rfl) HTV.out.left Tryz.underlying25 rfl (by rw [HSA.out]; exact info_rec) ?_
            simp only [Act.put, List.setIfInBounds_toArray, List.set_cons_zero, List.set_cons_succ]
            refine g_one 2 (by kernel_rfl) ?_
            refine g_store 25 (.tmp 7) (.tmp 60) p XB rfl (by kernel_rfl) (by kernel_rfl) (by kernel_rfl) (by kernel_rfl) (by kernel_rfl) 25 ⟨XA, HTP.out.1, by rw [HSA.out, HSB.out]⟩ (by rw [HSB.out]; exact info_rec) HOB.out ?_
            intro W1 hg1 hb1
            have hTV1 := HTV.out.keep hg1 (by omega) (by omega)
            have hT1 := HTP.out.put1 hpq hg1 hb1
            refine g_one 3 (by kernel_rfl) ?_
            refine g_store 25 (.tmp 8) (.tmp 61) q XA rfl (by kernel_rfl) (by kernel_rfl) (by kernel_rfl) (by kernel_rfl) (by kernel_rfl) 25 ⟨XB, hT1.2, by rw [HSA.out, HSB.out]⟩ (by rw [HSA.out]; exact info_rec) HOA.out ?_
            intro W2 hg2 hb2
            have hT2 := hT1.put2 hpq hg2 hb2
            refine wpAny_done (by kernel_rfl) ?_ _
            exact ⟨rfl, rfl, hT2, (HGV.out.trans hg1 (fun _ h => h) (fun x _ e => .inl e)).trans hg2 (fun _ h => h) (fun x _ e => .inr e)⟩
          · refine g_store 25 (.tmp 7) (.tmp 60) p XB rfl (by kernel_rfl) (by kernel_rfl) (by kernel_rfl) (by kernel_rfl) (by kernel_rfl) 25 ⟨XA, HTP.out.1, by rw [HSA.out, HSB.out]⟩ (by rw [HSB.out]; exact info_rec) HOB.out ?_
            intro W1 hg1 hb1
            have hTV1 := HTV.out.keep hg1 (by omega) (by omega)
            have hT1 := HTP.out.put1 hpq hg1 hb1
            refine g_one 1 (by kernel_rfl) ?_
            refine g_load (some 61) 25 (.tmp 2) w.heap.size 0 XA _ rfl (by kernel_rfl) (by kernel_rfl) (by kernel_rfl) (by kernel_rfl) hTV1.left Tryz.underlying25 rfl (by rw [HSA.out]; exact info_rec) ?_
            simp only [Act.put, List.setIfInBounds_toArray, List.set_cons_zero, List.set_cons_succ]
            refine g_one 3 (by kernel_rfl) ?_
            refine g_store 25 (.tmp 8) (.tmp 61) q XA rfl (by kernel_rfl) (by kernel_rfl) (by kernel_rfl) (by kernel_rfl) (by kernel_rfl) 25 ⟨XB, hT1.2, by rw [HSA.out, HSB.out]⟩ (by rw [HSA.out]; exact info_rec) HOA.out ?_
            intro W2 hg2 hb2
            have hT2 := hT1.put2 hpq hg2 hb2
            refine wpAny_done (by kernel_rfl) ?_ _
            exact ⟨rfl, rfl, hT2, (HGV.out.trans hg1 (fun _ h => h) (fun x _ e => .inl e)).trans hg2 (fun _ h => h) (fun x _ e => .inr e)⟩
        · refine g_load (some 61) 25 (.tmp 2) w.heap.size 0 XA _ rfl (by kernel_rfl) (by kernel_rfl) (by kernel_rfl) (by kernel_rfl) HTV.out.left Tryz.underlying25 rfl (by rw [HSA.out]; exact info_rec) ?_
          simp only [Act.put, List.setIfInBounds_toArray, List.set_cons_zero, List.set_cons_succ]
          refine g_one 0 (by kernel_rfl) ?_
          refine g_load (some 60) 25 (.tmp 3) (w.heap.size + 1) 0 XB _ rfl (by kernel_rfl) (by kernel_rfl) (by kernel_rfl) (by kernel_rfl) HTV.out.right Tryz.underlying25 rfl (by rw [HSB.out]; exact info_rec) ?_
          simp only [Act.put, List.setIfInBounds_toArray, List.set_cons_zero, List.set_cons_succ]
          refine g_one 2 (by kernel_rfl) ?_
          refine g_store 25 (.tmp 7) (.tmp 60) p XB rfl (by kernel_rfl) (by kernel_rfl) (by kernel_rfl) (by kernel_rfl) (by kernel_rfl) 25 ⟨XA, HTP.out.1, by rw [HSA.out, HSB.out]⟩ (by rw [HSB.out]; exact info_rec) HOB.out ?_
          intro W1 hg1 hb1
          have hTV1 := HTV.out.keep hg1 (by omega) (by omega)
          have hT1 := HTP.out.put1 hpq hg1 hb1
          refine g_one 3 (by kernel_rfl) ?_
          refine g_store 25 (.tmp 8) (.tmp 61) q XA rfl (by kernel_rfl) (by kernel_rfl) (by kernel_rfl) (by kernel_rfl) (by kernel_rfl) 25 ⟨XB, hT1.2, by rw [HSA.out, HSB.out]⟩ (by rw [HSA.out]; exact info_rec) HOA.out ?_
          intro W2 hg2 hb2
          have hT2 := hT1.put2 hpq hg2 hb2
          refine wpAny_done (by kernel_rfl) ?_ _
          exact ⟨rfl, rfl, hT2, (HGV.out.trans hg1 (fun _ h => h) (fun x _ e => .inl e)).trans hg2 (fun _ h => h) (fun x _ e => .inr e)⟩
      rintro v' ⟨hT, hgv⟩
      have HTP := Lib.hid hT
      have KC := Lib.hid (KC.out.newKeep hgv (fun x e => by rcases e with rfl | rfl <;> omega))
      have hszv' : v.heap.size ≤ v'.heap.size := hgv.size
      clear hT hgv
      go_wp2_with (first
        | (go_at_call 9
           refine (HKG.out _ _ _ _ _ KC.out).mono ?_
           rintro e u7 ⟨rfl, k, hg⟩
           have KC := Lib.hid k
           have HTP := Lib.hid (HTP.out.non hg)
           have hz7 := hg.size
           clear k hg)
        | (refine sel none (.store 25 (.tmp 9) (.tmp 65)) ?_
           refine wpList_store_rowA rfl 25 (.tmp 9) (.tmp 65) rfl u7.heap.size XB rfl rfl 25 _ (heap_alloc2_old _ _ _) (by rw [HSB.out]; exact info_rec) (by rw [HSB.out]; rfl) HOB.out ?_
           intro v8 hg1 hb1
           have HT8 : Hid (Two u7.heap.size (u7.heap.size + 1) XB recZ v8) := Lib.hid ⟨hb1, (hg1.block (u7.heap.size + 1) (by simp) (by omega)).trans (heap_alloc2_new _ _ _)⟩
           have HG8 := Lib.hid ((((Chg.refl Non u7).alloc _).alloc _).then_new hg1 (fun x e => by omega))
           clear hg1 hb1)
        | (refine sel none (.store 25 (.tmp 10) (.tmp 66)) ?_
           refine wpList_store_rowA rfl 25 (.tmp 10) (.tmp 66) rfl (u7.heap.size + 1) recZ rfl rfl 25 _ HT8.out.2 (by rw [recZ_size]; exact info_rec) (by rw [recZ_size]) recZ_one ?_
           intro v9 hg2 hb2
           have HT9 := Lib.hid (HT8.out.put2 (by omega) hg2 hb2)
           have HG9 := Lib.hid (HG8.out.then_new hg2 (fun x e => by omega))
           have HTP := Lib.hid (HTP.out.non HG9.out)
           have KC := Lib.hid (KC.out.non HG9.out)
           have hz9 := HG9.out.size
           have kp : v9.cell? ⟨p, 0, none⟩ = some (.int .i64 sb) := by rw [cell_of_row _ _ _ _ _ _ HTP.out.1]; exact HCB.out
           have kq : v9.cell? ⟨q, 0, none⟩ = some (.int .i64 sa) := by rw [cell_of_row _ _ _ _ _ _ HTP.out.2]; exact HCA.out
           clear hg2 hb2)
        | (refine sel (some 74) (.build 25 #[]) ?_
           refine wpList_pureW (some 74) (.agg recZ) rfl (by kernel_rfl) (by kernel_rfl) ?_)
        | (refine sel none (.store 25 (.tmp 8) (.tmp 74)) ?_
           refine wpList_store_rowA rfl 25 (.tmp 8) (.tmp 74) rfl q recZ rfl rfl 25 _ HTP.out.2 (by rw [recZ_size]; exact info_rec) (by rw [HSA.out, recZ_size]) recZ_one ?_
           intro v10 hg3 hb3
           have HTP := Lib.hid (HTP.out.put2 hpq hg3 hb3)
           have HT9 := Lib.hid (HT9.out.keep hg3 (by omega) (by omega))
           have KC := Lib.hid (KC.out.newKeep hg3 (fun x e => by omega))
           clear hg3 hb3 kp kq)
        | (refine sel (some 78) (.load 25 (.tmp 9)) ?_
           refine wpList_loadW (some 78) 25 (.tmp 9) u7.heap.size 0 XB _ rfl rfl (by kernel_rfl) (by kernel_rfl) HT9.out.left Tryz.underlying25 rfl (by rw [HSB.out]; exact info_rec) ?_)
        | (refine sel (some 79) (.load 25 (.tmp 7)) ?_
           refine wpList_loadW (some 79) 25 (.tmp 7) p 0 XB _ rfl rfl (by kernel_rfl) (by kernel_rfl) HTP.out.left Tryz.underlying25 rfl (by rw [HSB.out]; exact info_rec) ?_)
        | (refine sel (some 83) (.load 25 (.tmp 10)) ?_
           refine wpList_loadW (some 83) 25 (.tmp 10) (u7.heap.size + 1) 0 recZ _ rfl rfl (by kernel_rfl) (by kernel_rfl) HT9.out.right Tryz.underlying25 rfl (by rw [recZ_size]; exact info_rec) ?_)
        | (refine sel (some 84) (.load 25 (.tmp 8)) ?_
           refine wpList_loadW (some 84) 25 (.tmp 8) q 0 recZ _ rfl rfl (by kernel_rfl) (by kernel_rfl) HTP.out.right Tryz.underlying25 rfl (by rw [recZ_size]; exact info_rec) ?_))
      go_ret
      exact ⟨rfl, HG3.out.then_non KC.out.chg⟩

  · have hlt : sb < sa := by omega
    clear hgt
    have hgt := hlt
    clear hlt
    by_cases hn : sa - sb = 1
    · skip
      have HKG : Hid (∀ (w0 W : World) (pd ps pm : Nat), KeptC w0 W pd ps pm 2 st0 st1 → Calls Tryz.prog 9 #[.pointer (some ⟨pd, 0, none⟩)] W fun e w' => e = .returned (.tuple #[.agg XA, .agg XB, .int .i64 0]) ∧ KeptC w0 w' pd ps pm 2 st0 st1 ∧ Chg Non W w') := Lib.hid (by
        intro w0 W pd ps pm h
        have := keptC_get h
        rw [HTell.out, HA.out, HB.out, if_neg (by omega), if_pos hn] at this
        simp only [HXA.out, HXB.out] at this
        exact this)
      have hd : decide (sb > sa) = false := by simp; omega
      have hd2 : decide (sa < sb) = false := by simp; omega
      have hw1 : IntKind.i64.wrap (sa - sb) = sa - sb := Go.IntWalk.i64_in _ (by omega)
      have hw2 : wrap64 (sa - sb) = sa - sb := by unfold wrap64; omega
      have hnb : (sa - sb != 1) = false := by rw [bne_eq_false_iff_eq]; exact hn
      clear hn hgt
      go_wp2_with (first
        | (go_at_call 9
           refine (HKG.out _ _ _ _ _ KC.out).mono ?_
           rintro e u7 ⟨rfl, k, hg⟩
           have KC := Lib.hid k
           have HTP := Lib.hid (HTP.out.non hg)
           have hz7 := hg.size
           clear k hg)
        | (refine sel none (.store 25 (.tmp 9) (.tmp 65)) ?_
           refine wpList_store_rowA rfl 25 (.tmp 9) (.tmp 65) rfl u7.heap.size XA rfl rfl 25 _ (heap_alloc2_old _ _ _) (by rw [HSA.out]; exact info_rec) (by rw [HSA.out]; rfl) HOA.out ?_
           intro v8 hg1 hb1
           have HT8 : Hid (Two u7.heap.size (u7.heap.size + 1) XA recZ v8) := Lib.hid ⟨hb1, (hg1.block (u7.heap.size + 1) (by simp) (by omega)).trans (heap_alloc2_new _ _ _)⟩
           have HG8 := Lib.hid ((((Chg.refl Non u7).alloc _).alloc _).then_new hg1 (fun x e => by omega))
           clear hg1 hb1)
        | (refine sel none (.store 25 (.tmp 10) (.tmp 66)) ?_
           refine wpList_store_rowA rfl 25 (.tmp 10) (.tmp 66) rfl (u7.heap.size + 1) XB rfl rfl 25 _ HT8.out.2 (by rw [HSB.out]; exact info_rec) (by rw [HSB.out, recZ_size]) HOB.out ?_
           intro v9 hg2 hb2
           have HT9 := Lib.hid (HT8.out.put2 (by omega) hg2 hb2)
           have HG9 := Lib.hid (HG8.out.then_new hg2 (fun x e => by omega))
           have HTP := Lib.hid (HTP.out.non HG9.out)
           have KC := Lib.hid (KC.out.non HG9.out)
           have hz9 := HG9.out.size
           have kp : v9.cell? ⟨p, 0, none⟩ = some (.int .i64 sa) := by rw [cell_of_row _ _ _ _ _ _ HTP.out.1]; exact HCA.out
           have kq : v9.cell? ⟨q, 0, none⟩ = some (.int .i64 sb) := by rw [cell_of_row _ _ _ _ _ _ HTP.out.2]; exact HCB.out
           clear hg2 hb2)
        | (refine sel (some 78) (.load 25 (.tmp 9)) ?_
           refine wpList_loadW (some 78) 25 (.tmp 9) u7.heap.size 0 XA _ rfl rfl (by kernel_rfl) (by kernel_rfl) HT9.out.left Tryz.underlying25 rfl (by rw [HSA.out]; exact info_rec) ?_)
        | (refine sel (some 79) (.load 25 (.tmp 7)) ?_
           refine wpList_loadW (some 79) 25 (.tmp 7) p 0 XA _ rfl rfl (by kernel_rfl) (by kernel_rfl) HTP.out.left Tryz.underlying25 rfl (by rw [HSA.out]; exact info_rec) ?_)
        | (refine sel (some 83) (.load 25 (.tmp 10)) ?_
           refine wpList_loadW (some 83) 25 (.tmp 10) (u7.heap.size + 1) 0 XB _ rfl rfl (by kernel_rfl) (by kernel_rfl) HT9.out.right Tryz.underlying25 rfl (by rw [HSB.out]; exact info_rec) ?_)
        | (refine sel (some 84) (.load 25 (.tmp 8)) ?_
           refine wpList_loadW (some 84) 25 (.tmp 8) q 0 XB _ rfl rfl (by kernel_rfl) (by kernel_rfl) HTP.out.right Tryz.underlying25 rfl (by rw [HSB.out]; exact info_rec) ?_))
      go_ret
      exact ⟨rfl, HG3.out.then_non KC.out.chg⟩

    · skip
      have HKG : Hid (∀ (w0 W : World) (pd ps pm : Nat), KeptC w0 W pd ps pm 2 st0 st1 → Calls Tryz.prog 9 #[.pointer (some ⟨pd, 0, none⟩)] W fun e w' => e = .returned (.tuple #[.agg XA, .agg recZ, .int .i64 0]) ∧ KeptC w0 w' pd ps pm 2 st0 st1 ∧ Chg Non W w') := Lib.hid (by
        intro w0 W pd ps pm h
        have := keptC_get h
        rw [HTell.out, HA.out, HB.out, if_neg (by omega), if_neg hn] at this
        simp only [HXA.out, HZZ.out] at this
        exact this)
      have hd : decide (sb > sa) = false := by simp; omega
      have hd2 : decide (sa < sb) = false := by simp; omega
      have hw1 : IntKind.i64.wrap (sa - sb) = sa - sb := Go.IntWalk.i64_in _ (by omega)
      have hw2 : wrap64 (sa - sb) = sa - sb := by unfold wrap64; omega
      have hnb : (sa - sb != 1) = true := by rw [bne_iff_ne]; exact hn
      clear hn hgt
      go_wp2_with (first
        | (go_at_call 9
           refine (HKG.out _ _ _ _ _ KC.out).mono ?_
           rintro e u7 ⟨rfl, k, hg⟩
           have KC := Lib.hid k
           have HTP := Lib.hid (HTP.out.non hg)
           have hz7 := hg.size
           clear k hg)
        | (refine sel none (.store 25 (.tmp 9) (.tmp 65)) ?_
           refine wpList_store_rowA rfl 25 (.tmp 9) (.tmp 65) rfl u7.heap.size XA rfl rfl 25 _ (heap_alloc2_old _ _ _) (by rw [HSA.out]; exact info_rec) (by rw [HSA.out]; rfl) HOA.out ?_
           intro v8 hg1 hb1
           have HT8 : Hid (Two u7.heap.size (u7.heap.size + 1) XA recZ v8) := Lib.hid ⟨hb1, (hg1.block (u7.heap.size + 1) (by simp) (by omega)).trans (heap_alloc2_new _ _ _)⟩
           have HG8 := Lib.hid ((((Chg.refl Non u7).alloc _).alloc _).then_new hg1 (fun x e => by omega))
           clear hg1 hb1)
        | (refine sel none (.store 25 (.tmp 10) (.tmp 66)) ?_
           refine wpList_store_rowA rfl 25 (.tmp 10) (.tmp 66) rfl (u7.heap.size + 1) recZ rfl rfl 25 _ HT8.out.2 (by rw [recZ_size]; exact info_rec) (by rw [recZ_size]) recZ_one ?_
           intro v9 hg2 hb2
           have HT9 := Lib.hid (HT8.out.put2 (by omega) hg2 hb2)
           have HG9 := Lib.hid (HG8.out.then_new hg2 (fun x e => by omega))
           have HTP := Lib.hid (HTP.out.non HG9.out)
           have KC := Lib.hid (KC.out.non HG9.out)
           have hz9 := HG9.out.size
           have kp : v9.cell? ⟨p, 0, none⟩ = some (.int .i64 sa) := by rw [cell_of_row _ _ _ _ _ _ HTP.out.1]; exact HCA.out
           have kq : v9.cell? ⟨q, 0, none⟩ = some (.int .i64 sb) := by rw [cell_of_row _ _ _ _ _ _ HTP.out.2]; exact HCB.out
           clear hg2 hb2)
        | (refine sel (some 74) (.build 25 #[]) ?_
           refine wpList_pureW (some 74) (.agg recZ) rfl (by kernel_rfl) (by kernel_rfl) ?_)
        | (refine sel none (.store 25 (.tmp 8) (.tmp 74)) ?_
           refine wpList_store_rowA rfl 25 (.tmp 8) (.tmp 74) rfl q recZ rfl rfl 25 _ HTP.out.2 (by rw [recZ_size]; exact info_rec) (by rw [HSB.out, recZ_size]) recZ_one ?_
           intro v10 hg3 hb3
           have HTP := Lib.hid (HTP.out.put2 hpq hg3 hb3)
           have HT9 := Lib.hid (HT9.out.keep hg3 (by omega) (by omega))
           have KC := Lib.hid (KC.out.newKeep hg3 (fun x e => by omega))
           clear hg3 hb3 kp kq)
        | (refine sel (some 78) (.load 25 (.tmp 9)) ?_
           refine wpList_loadW (some 78) 25 (.tmp 9) u7.heap.size 0 XA _ rfl rfl (by kernel_rfl) (by kernel_rfl) HT9.out.left Tryz.underlying25 rfl (by rw [HSA.out]; exact info_rec) ?_)
        | (refine sel (some 79) (.load 25 (.tmp 7)) ?_
           refine wpList_loadW (some 79) 25 (.tmp 7) p 0 XA _ rfl rfl (by kernel_rfl) (by kernel_rfl) HTP.out.left Tryz.underlying25 rfl (by rw [HSA.out]; exact info_rec) ?_)
        | (refine sel (some 83) (.load 25 (.tmp 10)) ?_
           refine wpList_loadW (some 83) 25 (.tmp 10) (u7.heap.size + 1) 0 recZ _ rfl rfl (by kernel_rfl) (by kernel_rfl) HT9.out.right Tryz.underlying25 rfl (by rw [recZ_size]; exact info_rec) ?_)
        | (refine sel (some 84) (.load 25 (.tmp 8)) ?_
           refine wpList_loadW (some 84) 25 (.tmp 8) q 0 recZ _ rfl rfl (by kernel_rfl) (by kernel_rfl) HTP.out.right Tryz.underlying25 rfl (by rw [recZ_size]; exact info_rec) ?_))
      go_ret
      exact ⟨rfl, HG3.out.then_non KC.out.chg⟩


theorem gap_main (a b : Rec) (ha : a.Bd) (hb : b.Bd) (hma : a.may = true) (hmb : b.may = true) (w : World) :
    Calls Tryz.prog 5 #[.agg (recA a), .agg (recA b)] w fun e w' => e = .returned (.bool true) ∧ Chg Non w w' := by
  by_cases hp : a.seqn % 2 = b.seqn % 2
  · exact gap_same a b ha hb hma hmb hp w
  by_cases h0 : a.seqn % 2 = 0
  · have h1 : b.seqn % 2 ≠ 0 := by omega
    refine gap_core a b ha hb hma hmb a Rec.zero a b hp ?_ ?_ (gap_tell a b hma hmb h0 h1) w
    · intro w0 W pd ps pm h
      have := keptC_put h a hma ha.1 ha.2.1.2
      rw [if_pos h0, if_pos h0] at this
      exact this
    · intro w0 W pd ps pm h
      have := keptC_put h b hmb hb.1 hb.2.1.2
      rw [if_neg h1, if_neg h1] at this
      exact this
  · have h1 : b.seqn % 2 = 0 := by omega
    refine gap_core a b ha hb hma hmb Rec.zero a b a hp ?_ ?_ ?_ w
    · intro w0 W pd ps pm h
      have := keptC_put h a hma ha.1 ha.2.1.2
      rw [if_neg h0, if_neg h0] at this
      exact this
    · intro w0 W pd ps pm h
      have := keptC_put h b hmb hb.1 hb.2.1.2
      rw [if_pos h1, if_pos h1] at this
      exact this
    · rw [gap_tell b a hmb hma h1 h0]
      by_cases hlt : a.seqn < b.seqn
      · rw [if_neg (by omega), if_pos hlt]
      · have : b.seqn < a.seqn := by omega
        rw [if_pos this, if_neg hlt]

set_option maxRecDepth 100000 in
set_option maxHeartbeats 4000000 in
theorem gap_no1 (a b : Rec) (ha : a.hash.length = 32) (hb : b.hash.length = 32) (hma : a.may = false) (w : World) :
    Calls Tryz.prog 5 #[.agg (recA a), .agg (recA b)] w fun e w' => e = .returned (.bool true) ∧ Chg Non w w' := by
  have HSA := Lib.hid (recA_size a ha)
  have HSB := Lib.hid (recA_size b hb)
  have hMA := May_any a
  rw [hma] at hMA
  have HMA := Lib.hid hMA
  clear hMA hma
  obtain ⟨XA, hXA⟩ : ∃ X, recA a = X := ⟨_, rfl⟩
  obtain ⟨XB, hXB⟩ : ∃ X, recA b = X := ⟨_, rfl⟩
  rw [hXA] at HSA HMA ⊢
  rw [hXB] at HSB ⊢
  have HAw := Lib.hid cawake_ok
  have hT0 : Two w.heap.size (w.heap.size + 1) XA XB ((w.alloc (.cells XA 25)).alloc (.cells XB 25)) := ⟨heap_alloc2_old _ _ _, heap_alloc2_new _ _ _⟩
  have HT0 := Lib.hid hT0
  clear hT0 hXA hXB ha hb
  go_enter Tryz.func5, Tryz.ntmps5
  go_wp2_with fail
  refine (HAw.out _).mono ?_
  rintro e u ⟨rfl, hg⟩
  have HTU := Lib.hid (HT0.out.non hg)
  have HGU := Lib.hid ((((Chg.refl Non w).alloc _).alloc _).then_non hg)
  clear hg
  go_wp2_with (first
    | (refine sel (some 14) (.load 25 (.tmp 2)) ?_
       refine wpList_loadW (some 14) 25 (.tmp 2) w.heap.size 0 XA _ rfl rfl (by kernel_rfl) (by kernel_rfl) HTU.out.left Tryz.underlying25 rfl (by rw [HSA.out]; exact info_rec) ?_)
    | (go_at_call 13
       refine (HMA.out _).mono ?_
       rintro e u2 ⟨rfl, hg⟩
       have HG2 := Lib.hid (HGU.out.then_non hg)
       have HT2 := Lib.hid (HTU.out.non hg)
       clear hg
       clear HMA))
  go_ret
  exact ⟨rfl, HG2.out⟩

set_option maxRecDepth 100000 in
set_option maxHeartbeats 4000000 in
theorem gap_no2 (a b : Rec) (ha : a.hash.length = 32) (hb : b.hash.length = 32) (hma : a.may = true) (hmb : b.may = false) (w : World) :
    Calls Tryz.prog 5 #[.agg (recA a), .agg (recA b)] w fun e w' => e = .returned (.bool true) ∧ Chg Non w w' := by
  have HSA := Lib.hid (recA_size a ha)
  have HSB := Lib.hid (recA_size b hb)
  have hMA := May_any a
  rw [hma] at hMA
  have HMA := Lib.hid hMA
  have hMB := May_any b
  rw [hmb] at hMB
  have HMB := Lib.hid hMB
  clear hMB hmb
  clear hMA hma
  obtain ⟨XA, hXA⟩ : ∃ X, recA a = X := ⟨_, rfl⟩
  obtain ⟨XB, hXB⟩ : ∃ X, recA b = X := ⟨_, rfl⟩
  rw [hXA] at HSA HMA ⊢
  rw [hXB] at HSB HMB ⊢
  have HAw := Lib.hid cawake_ok
  have hT0 : Two w.heap.size (w.heap.size + 1) XA XB ((w.alloc (.cells XA 25)).alloc (.cells XB 25)) := ⟨heap_alloc2_old _ _ _, heap_alloc2_new _ _ _⟩
  have HT0 := Lib.hid hT0
  clear hT0 hXA hXB ha hb
  go_enter Tryz.func5, Tryz.ntmps5
  go_wp2_with fail
  refine (HAw.out _).mono ?_
  rintro e u ⟨rfl, hg⟩
  have HTU := Lib.hid (HT0.out.non hg)
  have HGU := Lib.hid ((((Chg.refl Non w).alloc _).alloc _).then_non hg)
  clear hg
  go_wp2_with (first
    | (refine sel (some 14) (.load 25 (.tmp 2)) ?_
       refine wpList_loadW (some 14) 25 (.tmp 2) w.heap.size 0 XA _ rfl rfl (by kernel_rfl) (by kernel_rfl) HTU.out.left Tryz.underlying25 rfl (by rw [HSA.out]; exact info_rec) ?_)
    | (go_at_call 13
       refine (HMA.out _).mono ?_
       rintro e u2 ⟨rfl, hg⟩
       have HG2 := Lib.hid (HGU.out.then_non hg)
       have HT2 := Lib.hid (HTU.out.non hg)
       clear hg
       clear HMA)
    | (refine sel (some 18) (.load 25 (.tmp 3)) ?_
       refine wpList_loadW (some 18) 25 (.tmp 3) (w.heap.size + 1) 0 XB _ rfl rfl (by kernel_rfl) (by kernel_rfl) HT2.out.right Tryz.underlying25 rfl (by rw [HSB.out]; exact info_rec) ?_)
    | (go_at_call 13
       refine (HMB.out _).mono ?_
       rintro e u3 ⟨rfl, hg⟩
       have HG3 := Lib.hid (HG2.out.then_non hg)
       clear hg
       clear HMB))
  go_ret
  exact ⟨rfl, HG3.out⟩

theorem commitGap_walk (a b : Rec) (ha : a.Bd) (hb : b.Bd) (w : World) :
    Calls Tryz.prog 5 #[.agg (recA a), .agg (recA b)] w fun e w' => e = .returned (.bool true) ∧ Chg Non w w' := by
  cases hma : a.may with
  | false => exact gap_no1 a b ha.1 hb.1 hma w
  | true =>
    cases hmb : b.may with
    | false => exact gap_no2 a b ha.1 hb.1 hma hmb w
    | true => exact gap_main a b ha hb hma hmb w
end Go.Proofs.YthhbdejagglgbaaGreat
