/- KernelTime, part 12 of 28: contracts of the functions that it reaches, and the laws that they need, merged and shortened (from my texts XSMay, XEqf, XSIs). -/
import Derived.Test.YtmnaleaghfbclaaGreatDoorMgKernelTimeA
import Derived.Test.YtmnaleaghfbclaaGreatDoorMgKernelTimeB
import Derived.Test.YtmnaleaghfbclaaGreatDoorMgKernelTimeJ
import Derived.Test.YtmnaleaghfbclaaGreatDoorMgKernelTimeK
namespace Go.Proofs.YtmnaleaghfbclaaGreatDoor
set_option linter.unusedVariables false
set_option linter.unusedSimpArgs false
set_option maxHeartbeats 8000000
section
open Go.RowKit
def stepMay {α : Type} (ok : α → Bool) (id : α → Int) (l : List α) (k : Nat) : Bool :=
 match l[k]? with
 | none => true
 | some a => ok a && (match k with
   | 0 => true
   | j + 1 => match l[j]? with
     | none => true
     | some b => decide (id b < id a))
def mayL {α : Type} (ok : α → Bool) (id : α → Int) (l : List α) : Bool := (List.range l.length).all (stepMay ok id l)
section
variable {α : Type} {ok : α → Bool} {id : α → Int} {l : List α}
theorem mayL_no {k : Nat} {a : α} (ha : l[k]? = some a) (h : stepMay ok id l k = false) : mayL ok id l = false := by
 rw [mayL, List.all_eq_false]
 exact ⟨k, List.mem_range.2 (List.getElem?_eq_some_iff.1 ha).1, by rw [h]; simp⟩
theorem mayL_yes (h : ∀ j, j < l.length → stepMay ok id l j = true) : mayL ok id l = true := by
 rw [mayL, List.all_eq_true]
 exact fun j hj => h j (List.mem_range.1 hj)
theorem stepMay_bad {k : Nat} {a : α} (ha : l[k]? = some a) (h : ok a = false) : mayL ok id l = false := mayL_no ha (by simp [stepMay, ha, h])
theorem stepMay_prev {k : Nat} {a b : α} (ha : l[k + 1]? = some a) (hb : l[k]? = some b) (h : ¬ id b < id a) : mayL ok id l = false := mayL_no ha (by simp [stepMay, ha, hb]; intro _; omega)
theorem stepMay_zero {a : α} (ha : l[0]? = some a) (h : ok a = true) : stepMay ok id l 0 = true := by simp [stepMay, ha, h]
theorem stepMay_succ {k : Nat} {a b : α} (ha : l[k + 1]? = some a) (h : ok a = true) (hb : l[k]? = some b) (hi : id b < id a) : stepMay ok id l (k + 1) = true := by simp [stepMay, ha, hb, h, hi]
end
def mayS (s : Sta) : Bool := decide (0 ≤ s.frames) && decide (s.frames ≤ 1099511627776) && decide (s.parts.length ≤ 6) && decide (s.queues.length ≤ 8) && mayL partOk Pt.id s.parts && mayL mayQ (fun q : Qu => q.ch.id) s.queues
set_option maxRecDepth 100000 in
theorem smay_ok (I : Nat → Prop) (s : Sta) (vb vd : Value) (w : World) (h : StaV I w s vb vd) :
  Calls Tryz.prog 78 #[.agg #[.int .i64 s.frames, vb, vd]] w fun e w' => e = .returned (.bool (mayS s)) ∧ Chg Non w w' := by
 obtain ⟨⟨A, c, rfl, hc, hcm, hrp⟩, ⟨A2, c2, rfl, hc2, hcm2, hrq⟩⟩ := h
 unfold maxLen at hcm hcm2
 obtain ⟨boxS, hbox⟩ : ∃ o, Obj.cells #[.int .i64 s.frames, .slice A s.parts.length c, .slice A2 s.queues.length c2] 30 = o := ⟨_, rfl⟩
 have HBX : Hid ((w.alloc boxS).heap[w.heap.size]? = some (.cells #[.int .i64 s.frames, .slice A s.parts.length c, .slice A2 s.queues.length c2] 30 (0, 0))) := Lib.hid (by rw [← hbox]; exact blk_new _ _)
 have HRP := Lib.hid (hrp.non ((Chg.refl Non w).alloc boxS) (fun a vs h => ptV_non _ _ _ _ ((Chg.refl Non w).alloc boxS) h))
 have HRQ := Lib.hid (hrq.non ((Chg.refl Non w).alloc boxS) (fun a vs h => quV_non _ _ _ _ ((Chg.refl Non w).alloc boxS) h))
 have HE : Hid (mayS s = (decide (0 ≤ s.frames) && decide (s.frames ≤ 1099511627776) && decide (s.parts.length ≤ 6) && decide (s.queues.length ≤ 8) && mayL partOk Pt.id s.parts && mayL mayQ (fun q : Qu => q.ch.id) s.queues)) := Lib.hid rfl
 have b0 := blk_cell HBX.out 0 (v := .int .i64 s.frames) rfl
 have b1 := blk_cell HBX.out 1 (v := .slice A s.parts.length c) rfl
 have b2 := blk_cell HBX.out 2 (v := .slice A2 s.queues.length c2) rfl
 clear hrp hrq
 by_cases h0 : s.frames < 0
 ·have d0 : decide (s.frames < 0) = true := by simpa using h0
  have HE2 : Hid (mayS s = false) := Lib.hid (by rw [HE.out, decide_eq_false (p := 0 ≤ s.frames) (by omega)]; rfl)
  clear HE
  go_enter Tryz.func78, Tryz.ntmps78
  go_wp2_with fail
  go_ret
  exact ⟨ret_b HE2.out.symm, (Chg.refl Non w).alloc _⟩
 have d0 : decide (s.frames < 0) = false := by simpa using h0
 by_cases h1 : 1099511627776 < s.frames
 ·have d1 : decide (1099511627776 < s.frames) = true := by simpa using h1
  have HE2 : Hid (mayS s = false) := Lib.hid (by rw [HE.out, decide_eq_false (p := s.frames ≤ 1099511627776) (by omega)]; simp)
  clear HE
  go_enter Tryz.func78, Tryz.ntmps78
  go_wp2_with fail
  go_ret
  exact ⟨ret_b HE2.out.symm, (Chg.refl Non w).alloc _⟩
 have d1 : decide (1099511627776 < s.frames) = false := by simpa using h1
 by_cases h2 : 6 < s.parts.length
 ·have d2 : decide (6 < (s.parts.length : Int)) = true := by rw [decide_eq_true_eq]; omega
  have HE2 : Hid (mayS s = false) := Lib.hid (by rw [HE.out, decide_eq_false (p := s.parts.length ≤ 6) (by omega)]; simp)
  clear HE
  go_enter Tryz.func78, Tryz.ntmps78
  go_wp2_with fail
  go_ret
  exact ⟨ret_b HE2.out.symm, (Chg.refl Non w).alloc _⟩
 have d2 : decide (6 < (s.parts.length : Int)) = false := by rw [decide_eq_false_iff_not]; omega
 by_cases h3 : 8 < s.queues.length
 ·have d3 : decide (8 < (s.queues.length : Int)) = true := by rw [decide_eq_true_eq]; omega
  have HE2 : Hid (mayS s = false) := Lib.hid (by rw [HE.out, decide_eq_false (p := s.queues.length ≤ 8) (by omega)]; simp)
  clear HE
  go_enter Tryz.func78, Tryz.ntmps78
  go_wp2_with fail
  go_ret
  exact ⟨ret_b HE2.out.symm, (Chg.refl Non w).alloc _⟩
 have d3 : decide (8 < (s.queues.length : Int)) = false := by rw [decide_eq_false_iff_not]; omega
 have HEf : Hid (mayL partOk Pt.id s.parts = false → mayS s = false) := Lib.hid (fun h => by rw [HE.out, h]; simp)
 go_enter Tryz.func78, Tryz.ntmps78
 go_wp2_with fail
 go_loopw [30] (fun iv wr => ∃ k : Nat, k ≤ s.parts.length ∧ iv = .int .i64 k ∧ Hid (∀ j, j < k → stepMay partOk Pt.id s.parts j = true) ∧ Hid (Chg Non (w.alloc boxS) wr)) (fun iv _ => s.parts.length - (intOf iv).toNat)
 case atStart => exact ⟨0, Nat.zero_le _, rfl, Lib.hid (fun j h => by omega), Lib.hid (by rw [← hbox]; exact Chg.refl _ _)⟩
 case round =>
  obtain ⟨k, hk, rfl, HN, HG⟩ := hrel
  have hbx0 := blk_keep HBX.out HG.out (fun e => e)
  have hlw : w.heap.size < wr.heap.size := blk_lt hbx0
  by_cases hlt : k < s.parts.length
  ·obtain ⟨a, ha⟩ : ∃ a, s.parts[k]? = some a := ⟨_, List.getElem?_eq_getElem hlt⟩
   have hltd : decide ((k : Int) < (s.parts.length : Int)) = true := by simpa using hlt
   obtain ⟨b, o, vs, rfl, _, hvl, hrg, hR⟩ := (HRP.out.non HG.out (fun a vs h => ptV_non _ _ _ _ HG.out h)) k a ha
   have hbl := rng_lt hrg (by omega)
   obtain ⟨mv, rfl, hmv, hbd, hml⟩ := hR
   have HA := Lib.hid ha
   have HL := Lib.hid hbd.r8
   have ho1 : mv.oneCell' = true := by obtain ⟨A, c, e, _⟩ := hmv; rw [e]; rfl
   have HM : Hid (∀ W : World, Calls Tryz.prog 124 #[.agg (partC a mv)] W fun e w' => e = .returned (.bool (partOk a)) ∧ Chg Non W w') := Lib.hid (fun W => by
     obtain ⟨A, c, rfl, _⟩ := hmv
     exact spart_ok a A c W hbd.r8)
   obtain ⟨x, hx⟩ : ∃ x, a.id = x := ⟨_, rfl⟩
   obtain ⟨m, hm⟩ : ∃ m, partOk a = m := ⟨_, rfl⟩
   rw [hm] at HM
   have HMX := Lib.hid (And.intro hm hx)
   have HRG := Lib.hid hrg
   clear hm hrg hmv hml hbd ha
   go_wp2_with (first
     | (refine sel (some 34) (.load 69 _) ?_; refine wpList_load_mid rfl 69 (.tmp 33) rfl b (o + k * 14) rfl (partL a mv) _ HRG.out Tryz.underlying69 rfl (by rw [hvl]; exact info_part) ?_)
     | (refine sel none (.store 69 (.tmp 4) (.tmp 34)) ?_
        refine wpList_store_rowA rfl 69 (.tmp 4) (.tmp 34) rfl wr.heap.size (partC a mv) rfl rfl 69 zeroPart (blk_new _ _) (by rw [partC_size HL.out]; exact info_part) (by rw [partC_size HL.out]; rfl) (partC_one _ _ ho1) ?_
        intro W1 hgW hbW))
   obtain ⟨v, hv⟩ : ∃ v, v = W1.drew := ⟨_, rfl⟩
   have hv0 : v.heap[wr.heap.size]? = some (.cells (partC a mv) 69 (0, 0)) := by rw [hv]; exact hbW
   have hgv0 : Chg Non wr W1 := ((Chg.refl Non wr).alloc _).then_new hgW (fun x e => by omega)
   have hgv : Chg Non wr v := by rw [hv]; exact hgv0.drew
   have hpx : v.cell? ⟨wr.heap.size, 0, none⟩ = some (.int .i64 x) := by
    have := HMX.out.2
    subst this
    exact blk_cell hv0 0 rfl
   have hbx : v.cell? ⟨w.heap.size, 1, none⟩ = some (.slice (some ⟨b, o, none⟩) s.parts.length c) := blk_cell (blk_keep hbx0 hgv (fun e => e)) 1 rfl
   have HGV := Lib.hid hgv
   have HG0 := Lib.hid HG.out
   cases m with
   | false =>
    refine wp_region_held_drew (S := Chg Non W1.drew) (by kernel_rfl) (Chg.refl _ _) (fun hHeld => ?_)
    clear hHeld
    rw [← hv]
    clear hv
    refine h_load 0 (some 35) 69 (.tmp 4) wr.heap.size 0 (partC a mv) _ rfl (by kernel_rfl) (by kernel_rfl) (by kernel_rfl) (by kernel_rfl) (by kernel_rfl) (fun _ _ _ h => h) (by kernel_rfl) (by kernel_rfl) (fun W hW => range_keepS (blk_range hv0) hW (fun e => e)) Tryz.underlying69 rfl (by rw [partC_size HL.out]; exact info_part) (Chg.refl Non _) ?_
    simp only [Act.put, sA, sB, sC]
    refine h_one 1 (by kernel_rfl) rfl (by kernel_rfl) ?_
    intro K hK
    go_simp
    refine (HM.out _).mono ?_
    rintro e u1 ⟨rfl, hg⟩
    have HC1 := Lib.hid (Chg.then_non (Chg.refl Non _) hg)
    clear hg
    refine hK.out _ _ HC1.out (fun _ => ?_)
    clear hK K
    try simp only [Act.put, sA, sB, sC]
    refine hp 2 37 (.bool true) rfl HC1.out ?_
    refine hp 3 38 (.bool true) rfl HC1.out ?_
    refine hs 4 39 rfl HC1.out ?_
    refine hs 5 40 rfl HC1.out ?_
    refine hs 6 41 rfl HC1.out ?_
    refine hs 7 42 rfl HC1.out ?_
    refine hs 8 43 rfl HC1.out ?_
    refine hs 9 44 rfl HC1.out ?_
    refine hs 10 45 rfl HC1.out ?_
    refine hs 11 46 rfl HC1.out ?_
    refine hs 12 47 rfl HC1.out ?_
    refine hs 13 48 rfl HC1.out ?_
    refine hs 14 49 rfl HC1.out ?_
    refine hs 15 50 rfl HC1.out ?_
    refine hs 16 51 rfl HC1.out ?_
    refine hs 17 52 rfl HC1.out ?_
    refine hp 18 53 (.bool true) rfl HC1.out ?_
    refine wpAnyH_done (by kernel_rfl) ?_ _
    have HGn : Hid (Chg Non (w.alloc boxS) _) := Lib.hid ((HG0.out.then_non HGV.out).then_non HC1.out)
    have HE2 : Hid (mayS s = false) := Lib.hid (HEf.out (stepMay_bad (ok := partOk) (id := Pt.id) HA.out HMX.out.1))
    clear HEf
    go_wp2_with fail
    go_ret
    exact ⟨ret_b HE2.out.symm, ((Chg.refl Non w).alloc _).then_non HGn.out⟩
   | true =>
    cases k with
    | zero =>
     refine wp_region_held_drew (S := Chg Non W1.drew) (by kernel_rfl) (Chg.refl _ _) (fun hHeld => ?_)
     clear hHeld
     rw [← hv]
     clear hv
     refine h_load 0 (some 35) 69 (.tmp 4) wr.heap.size 0 (partC a mv) _ rfl (by kernel_rfl) (by kernel_rfl) (by kernel_rfl) (by kernel_rfl) (by kernel_rfl) (fun _ _ _ h => h) (by kernel_rfl) (by kernel_rfl) (fun W hW => range_keepS (blk_range hv0) hW (fun e => e)) Tryz.underlying69 rfl (by rw [partC_size HL.out]; exact info_part) (Chg.refl Non _) ?_
     simp only [Act.put, sA, sB, sC]
     refine h_one 1 (by kernel_rfl) rfl (by kernel_rfl) ?_
     intro K hK
     go_simp
     refine (HM.out _).mono ?_
     rintro e u1 ⟨rfl, hg⟩
     have HC1 := Lib.hid (Chg.then_non (Chg.refl Non _) hg)
     clear hg
     refine hK.out _ _ HC1.out (fun _ => ?_)
     clear hK K
     try simp only [Act.put, sA, sB, sC]
     refine hp 2 37 (.bool false) rfl HC1.out ?_
     refine hp 3 38 (.bool false) rfl HC1.out ?_
     refine hp 4 39 (.int .i64 0) rfl HC1.out ?_
     refine hp 5 40 (.bool false) rfl HC1.out ?_ (he := (fun W hW => by go_simp; try omega))
     refine hp 6 41 (.bool false) rfl HC1.out ?_
     refine hs 7 42 rfl HC1.out ?_
     refine hs 8 43 rfl HC1.out ?_
     refine hs 9 44 rfl HC1.out ?_
     refine hs 10 45 rfl HC1.out ?_
     refine hs 11 46 rfl HC1.out ?_
     refine hs 12 47 rfl HC1.out ?_
     refine hs 13 48 rfl HC1.out ?_
     refine hs 14 49 rfl HC1.out ?_
     refine hs 15 50 rfl HC1.out ?_
     refine hs 16 51 rfl HC1.out ?_
     refine hp 17 52 (.bool false) rfl HC1.out ?_
     refine hp 18 53 (.bool false) rfl HC1.out ?_
     refine wpAnyH_done (by kernel_rfl) ?_ _
     have HGn : Hid (Chg Non (w.alloc boxS) _) := Lib.hid ((HG0.out.then_non HGV.out).then_non HC1.out)
     have hst := Lib.hid (stepMay_zero (ok := partOk) (id := Pt.id) HA.out HMX.out.1)
     have HN2 : Hid (∀ j, j < 0 + 1 → stepMay partOk Pt.id s.parts j = true) := Lib.hid (fun j hj => by
       by_cases e : j = 0
       · subst e; exact hst.out
       · exact HN.out j (by omega))
     clear hst
     go_wp2_with fail
     exact ⟨⟨0 + 1, by omega, by simp, HN2, HGn⟩, by simp [intOf]; omega⟩
    | succ k =>
     obtain ⟨a', ha'⟩ : ∃ a, s.parts[k]? = some a := ⟨_, List.getElem?_eq_getElem (by omega)⟩
     obtain ⟨y, hy⟩ : ∃ y, a'.id = y := ⟨_, rfl⟩
     have hpy : v.cell? ⟨b, o + k * 14, none⟩ = some (.int .i64 y) := by
      obtain ⟨b', o', vs', e, _, _, hrg', mv', rfl, _⟩ := (HRP.out.non HG.out (fun a vs h => ptV_non _ _ _ _ HG.out h)) k a' ha'
      injection e with e
      injection e with e1 e2 _
      subst e1 e2 hy
      exact hgv.cell_some (hrg' 0 _ rfl) (fun e => e)
     have HAY := Lib.hid (And.intro ha' hy)
     have hk0 : (0 : Int) ≤ (k : Int) := by omega
     have hkl : (k : Int) < (s.parts.length : Int) := by omega
     clear ha' hy
     refine wp_region_held_drew (S := Chg Non W1.drew) (by kernel_rfl) (Chg.refl _ _) (fun hHeld => ?_)
     clear hHeld
     rw [← hv]
     clear hv
     refine h_load 0 (some 35) 69 (.tmp 4) wr.heap.size 0 (partC a mv) _ rfl (by kernel_rfl) (by kernel_rfl) (by kernel_rfl) (by kernel_rfl) (by kernel_rfl) (fun _ _ _ h => h) (by kernel_rfl) (by kernel_rfl) (fun W hW => range_keepS (blk_range hv0) hW (fun e => e)) Tryz.underlying69 rfl (by rw [partC_size HL.out]; exact info_part) (Chg.refl Non _) ?_
     simp only [Act.put, sA, sB, sC]
     refine h_one 1 (by kernel_rfl) rfl (by kernel_rfl) ?_
     intro K hK
     go_simp
     refine (HM.out _).mono ?_
     rintro e u1 ⟨rfl, hg⟩
     have HC1 := Lib.hid (Chg.then_non (Chg.refl Non _) hg)
     clear hg
     refine hK.out _ _ HC1.out (fun _ => ?_)
     clear hK K
     try simp only [Act.put, sA, sB, sC]
     refine hp 2 37 (.bool false) rfl HC1.out ?_
     refine hp 3 38 (.bool false) rfl HC1.out ?_
     refine hp 4 39 (.int .i64 ((k : Int) + 1)) rfl HC1.out ?_
     refine hp 5 40 (.bool true) rfl HC1.out ?_ (he := (fun W hW => by go_simp; try omega))
     refine hp 6 41 (.bool true) rfl HC1.out ?_
     refine hp 7 42 (.pointer (some ⟨w.heap.size, 1, none⟩)) rfl HC1.out ?_
     refine hp 8 43 (.slice (some ⟨b, o, none⟩) s.parts.length c) rfl HC1.out ?_ (he := (fun W hW => by have hc := hW.cell_some hbx (fun e => e); go_simp))
     refine hp 9 44 (.int .i64 ((k : Int) + 1)) rfl HC1.out ?_
     refine hp 10 45 (.int .i64 (k : Int)) rfl HC1.out ?_ (he := (fun W hW => by go_simp; exact Go.IntWalk.i64_in _ (by omega)))
     refine hp 11 46 (.pointer (some ⟨b, o + k * 14, none⟩)) rfl HC1.out ?_
     refine hp 12 47 (.pointer (some ⟨b, o + k * 14, none⟩)) rfl HC1.out ?_
     refine hp 13 48 (.int .i64 y) rfl HC1.out ?_ (he := (fun W hW => by have hc := hW.cell_some hpy (fun e => e); go_simp))
     refine hp 14 49 (.pointer (some ⟨wr.heap.size, 0, none⟩)) rfl HC1.out ?_
     refine hp 15 50 (.int .i64 x) rfl HC1.out ?_ (he := (fun W hW => by have hc := hW.cell_some hpx (fun e => e); go_simp))
     refine hp 16 51 (.bool (decide (y ≥ x))) rfl HC1.out ?_
     refine hp 17 52 (.bool (decide (y ≥ x))) rfl HC1.out ?_
     refine hp 18 53 (.bool (decide (y ≥ x))) rfl HC1.out ?_
     refine wpAnyH_done (by kernel_rfl) ?_ _
     have HGn : Hid (Chg Non (w.alloc boxS) _) := Lib.hid ((HG0.out.then_non HGV.out).then_non HC1.out)
     by_cases hxy : y ≥ x
     ·have hxd : decide (x ≤ y) = true := by simpa using hxy
      have HE2 : Hid (mayS s = false) := Lib.hid (HEf.out (stepMay_prev (ok := partOk) (id := Pt.id) HA.out HAY.out.1 (by rw [HMX.out.2, HAY.out.2]; omega)))
      clear HEf
      go_wp2_with fail
      go_ret
      exact ⟨ret_b HE2.out.symm, ((Chg.refl Non w).alloc _).then_non HGn.out⟩
     ·have hxd : decide (x ≤ y) = false := by simpa using hxy
      have hst := Lib.hid (stepMay_succ (ok := partOk) (id := Pt.id) HA.out HMX.out.1 HAY.out.1 (by rw [HMX.out.2, HAY.out.2]; omega))
      have HN2 : Hid (∀ j, j < (k + 1) + 1 → stepMay partOk Pt.id s.parts j = true) := Lib.hid (fun j hj => by
        by_cases e : j = (k + 1)
        · subst e; exact hst.out
        · exact HN.out j (by omega))
      clear hst
      go_wp2_with fail
      exact ⟨⟨(k + 1) + 1, by omega, by simp, HN2, HGn⟩, by simp [intOf]; omega⟩
  ·obtain rfl : k = s.parts.length := by omega
   have hltd : decide ((s.parts.length : Int) < (s.parts.length : Int)) = false := by simp
   have HEP := Lib.hid (mayL_yes HN.out)
   have HEf : Hid (mayL mayQ (fun q : Qu => q.ch.id) s.queues = false → mayS s = false) := Lib.hid (fun h => by rw [HE.out, h]; simp)
   have b2 := blk_cell hbx0 2 (v := .slice A2 s.queues.length c2) rfl
   clear hbx0
   go_wp2_with fail
   go_loopw [58] (fun iv wr => ∃ k : Nat, k ≤ s.queues.length ∧ iv = .int .i64 k ∧ Hid (∀ j, j < k → stepMay mayQ (fun q : Qu => q.ch.id) s.queues j = true) ∧ Hid (Chg Non (w.alloc boxS) wr)) (fun iv _ => s.queues.length - (intOf iv).toNat)
   case atStart => exact ⟨0, Nat.zero_le _, rfl, Lib.hid (fun j h => by omega), HG⟩
   case round =>
    clear HN HG hlw
    obtain ⟨k, hk, rfl, HN, HG⟩ := hrel
    have hbx0 := blk_keep HBX.out HG.out (fun e => e)
    have hlw : w.heap.size < wr.heap.size := blk_lt hbx0
    by_cases hlt : k < s.queues.length
    ·obtain ⟨a, ha⟩ : ∃ a, s.queues[k]? = some a := ⟨_, List.getElem?_eq_getElem hlt⟩
     have hltd : decide ((k : Int) < (s.queues.length : Int)) = true := by simpa using hlt
     obtain ⟨b, o, vs, rfl, _, hvl, hrg, hR⟩ := (HRQ.out.non HG.out (fun a vs h => quV_non _ _ _ _ HG.out h)) k a ha
     have hbl := rng_lt hrg (by omega)
     obtain ⟨mv, rfl, hmv, hbd, hml⟩ := hR
     have HA := Lib.hid ha
     have HM := Lib.hid (fun W (hg : Chg Non wr W) => mayQueue_ok I a mv W (hmv.non hg (fun a vs h => msgV_non _ _ _ _ hg h)))
     have ho1 : mv.oneCell' = true := by obtain ⟨A, c, e, _⟩ := hmv; rw [e]; rfl
     obtain ⟨x, hx⟩ : ∃ x, a.ch.id = x := ⟨_, rfl⟩
     obtain ⟨m, hm⟩ : ∃ m, mayQ a = m := ⟨_, rfl⟩
     rw [hm] at HM
     have HMX := Lib.hid (And.intro hm hx)
     have HRG := Lib.hid hrg
     clear hm hrg hmv hml hbd ha
     go_wp2_with (first
       | (refine sel (some 62) (.load 95 _) ?_; refine wpList_load_mid rfl 95 (.tmp 61) rfl b (o + k * 6) rfl (a.L mv) _ HRG.out Tryz.underlying95 rfl (by kernel_rfl) ?_)
       | (refine sel none (.store 95 (.tmp 6) (.tmp 62)) ?_
          refine wpList_store_rowA rfl 95 (.tmp 6) (.tmp 62) rfl wr.heap.size (a.L mv).toArray rfl rfl 95 #[.int .i64 0, .int .i64 0, .int .i64 0, .int .i64 0, .int .i64 0, .slice none 0 0] (blk_new _ _) (by kernel_rfl) rfl (by simp [Qu.L, Value.oneCell']; exact ho1) ?_
          intro W1 hgW hbW))
     obtain ⟨v, hv⟩ : ∃ v, v = W1.drew := ⟨_, rfl⟩
     have hv0 : v.heap[wr.heap.size]? = some (.cells (a.L mv).toArray 95 (0, 0)) := by rw [hv]; exact hbW
     have hgv0 : Chg Non wr W1 := ((Chg.refl Non wr).alloc _).then_new hgW (fun x e => by omega)
     have hgv : Chg Non wr v := by rw [hv]; exact hgv0.drew
     have hpx : v.cell? ⟨wr.heap.size, 0, none⟩ = some (.int .i64 x) := by
      have := HMX.out.2
      subst this
      exact blk_cell hv0 0 rfl
     have hbx : v.cell? ⟨w.heap.size, 2, none⟩ = some (.slice (some ⟨b, o, none⟩) s.queues.length c2) := blk_cell (blk_keep hbx0 hgv (fun e => e)) 2 rfl
     have HGV := Lib.hid hgv
     have HG0 := Lib.hid HG.out
     cases m with
     | false =>
      refine wp_region_held_drew (S := Chg Non W1.drew) (by kernel_rfl) (Chg.refl _ _) (fun hHeld => ?_)
      clear hHeld
      rw [← hv]
      clear hv
      refine h_load 0 (some 63) 95 (.tmp 6) wr.heap.size 0 (a.L mv).toArray _ rfl (by kernel_rfl) (by kernel_rfl) (by kernel_rfl) (by kernel_rfl) (by kernel_rfl) (fun _ _ _ h => h) (by kernel_rfl) (by kernel_rfl) (fun W hW => range_keepS (blk_range hv0) hW (fun e => e)) Tryz.underlying95 rfl (by kernel_rfl) (Chg.refl Non _) ?_
      simp only [Act.put, sA, sB, sC]
      refine h_one 1 (by kernel_rfl) rfl (by kernel_rfl) ?_
      intro K hK
      go_simp
      refine (HM.out _ HGV.out).mono ?_
      rintro e u1 ⟨rfl, hg⟩
      have HC1 := Lib.hid (Chg.then_non (Chg.refl Non _) hg)
      clear hg
      refine hK.out _ _ HC1.out (fun _ => ?_)
      clear hK K
      try simp only [Act.put, sA, sB, sC]
      refine hp 2 65 (.bool true) rfl HC1.out ?_
      refine hp 3 66 (.bool true) rfl HC1.out ?_
      refine hs 4 67 rfl HC1.out ?_
      refine hs 5 68 rfl HC1.out ?_
      refine hs 6 69 rfl HC1.out ?_
      refine hs 7 70 rfl HC1.out ?_
      refine hs 8 71 rfl HC1.out ?_
      refine hs 9 72 rfl HC1.out ?_
      refine hs 10 73 rfl HC1.out ?_
      refine hs 11 74 rfl HC1.out ?_
      refine hs 12 75 rfl HC1.out ?_
      refine hs 13 76 rfl HC1.out ?_
      refine hs 14 77 rfl HC1.out ?_
      refine hs 15 78 rfl HC1.out ?_
      refine hs 16 79 rfl HC1.out ?_
      refine hs 17 80 rfl HC1.out ?_
      refine hs 18 81 rfl HC1.out ?_
      refine hs 19 82 rfl HC1.out ?_
      refine hp 20 83 (.bool true) rfl HC1.out ?_
      refine wpAnyH_done (by kernel_rfl) ?_ _
      have HGn : Hid (Chg Non (w.alloc boxS) _) := Lib.hid ((HG0.out.then_non HGV.out).then_non HC1.out)
      have HE2 : Hid (mayS s = false) := Lib.hid (HEf.out (stepMay_bad (ok := mayQ) (id := (fun q : Qu => q.ch.id)) HA.out HMX.out.1))
      clear HEf
      go_wp2_with fail
      go_ret
      exact ⟨ret_b HE2.out.symm, ((Chg.refl Non w).alloc _).then_non HGn.out⟩
     | true =>
      cases k with
      | zero =>
       refine wp_region_held_drew (S := Chg Non W1.drew) (by kernel_rfl) (Chg.refl _ _) (fun hHeld => ?_)
       clear hHeld
       rw [← hv]
       clear hv
       refine h_load 0 (some 63) 95 (.tmp 6) wr.heap.size 0 (a.L mv).toArray _ rfl (by kernel_rfl) (by kernel_rfl) (by kernel_rfl) (by kernel_rfl) (by kernel_rfl) (fun _ _ _ h => h) (by kernel_rfl) (by kernel_rfl) (fun W hW => range_keepS (blk_range hv0) hW (fun e => e)) Tryz.underlying95 rfl (by kernel_rfl) (Chg.refl Non _) ?_
       simp only [Act.put, sA, sB, sC]
       refine h_one 1 (by kernel_rfl) rfl (by kernel_rfl) ?_
       intro K hK
       go_simp
       refine (HM.out _ HGV.out).mono ?_
       rintro e u1 ⟨rfl, hg⟩
       have HC1 := Lib.hid (Chg.then_non (Chg.refl Non _) hg)
       clear hg
       refine hK.out _ _ HC1.out (fun _ => ?_)
       clear hK K
       try simp only [Act.put, sA, sB, sC]
       refine hp 2 65 (.bool false) rfl HC1.out ?_
       refine hp 3 66 (.bool false) rfl HC1.out ?_
       refine hp 4 67 (.int .i64 0) rfl HC1.out ?_
       refine hp 5 68 (.bool false) rfl HC1.out ?_ (he := (fun W hW => by go_simp; try omega))
       refine hp 6 69 (.bool false) rfl HC1.out ?_
       refine hs 7 70 rfl HC1.out ?_
       refine hs 8 71 rfl HC1.out ?_
       refine hs 9 72 rfl HC1.out ?_
       refine hs 10 73 rfl HC1.out ?_
       refine hs 11 74 rfl HC1.out ?_
       refine hs 12 75 rfl HC1.out ?_
       refine hs 13 76 rfl HC1.out ?_
       refine hs 14 77 rfl HC1.out ?_
       refine hs 15 78 rfl HC1.out ?_
       refine hs 16 79 rfl HC1.out ?_
       refine hs 17 80 rfl HC1.out ?_
       refine hs 18 81 rfl HC1.out ?_
       refine hp 19 82 (.bool false) rfl HC1.out ?_
       refine hp 20 83 (.bool false) rfl HC1.out ?_
       refine wpAnyH_done (by kernel_rfl) ?_ _
       have HGn : Hid (Chg Non (w.alloc boxS) _) := Lib.hid ((HG0.out.then_non HGV.out).then_non HC1.out)
       have hst := Lib.hid (stepMay_zero (ok := mayQ) (id := (fun q : Qu => q.ch.id)) HA.out HMX.out.1)
       have HN2 : Hid (∀ j, j < 0 + 1 → stepMay mayQ (fun q : Qu => q.ch.id) s.queues j = true) := Lib.hid (fun j hj => by
         by_cases e : j = 0
         · subst e; exact hst.out
         · exact HN.out j (by omega))
       clear hst
       go_wp2_with fail
       exact ⟨⟨0 + 1, by omega, by simp, HN2, HGn⟩, by simp [intOf]; omega⟩
      | succ k =>
       obtain ⟨a', ha'⟩ : ∃ a, s.queues[k]? = some a := ⟨_, List.getElem?_eq_getElem (by omega)⟩
       obtain ⟨y, hy⟩ : ∃ y, a'.ch.id = y := ⟨_, rfl⟩
       have hpy : v.cell? ⟨b, o + k * 6, none⟩ = some (.int .i64 y) := by
        obtain ⟨b', o', vs', e, _, _, hrg', mv', rfl, _⟩ := (HRQ.out.non HG.out (fun a vs h => quV_non _ _ _ _ HG.out h)) k a' ha'
        injection e with e
        injection e with e1 e2 _
        subst e1 e2 hy
        exact hgv.cell_some (hrg' 0 _ rfl) (fun e => e)
       have HAY := Lib.hid (And.intro ha' hy)
       have hk0 : (0 : Int) ≤ (k : Int) := by omega
       have hkl : (k : Int) < (s.queues.length : Int) := by omega
       clear ha' hy
       refine wp_region_held_drew (S := Chg Non W1.drew) (by kernel_rfl) (Chg.refl _ _) (fun hHeld => ?_)
       clear hHeld
       rw [← hv]
       clear hv
       refine h_load 0 (some 63) 95 (.tmp 6) wr.heap.size 0 (a.L mv).toArray _ rfl (by kernel_rfl) (by kernel_rfl) (by kernel_rfl) (by kernel_rfl) (by kernel_rfl) (fun _ _ _ h => h) (by kernel_rfl) (by kernel_rfl) (fun W hW => range_keepS (blk_range hv0) hW (fun e => e)) Tryz.underlying95 rfl (by kernel_rfl) (Chg.refl Non _) ?_
       simp only [Act.put, sA, sB, sC]
       refine h_one 1 (by kernel_rfl) rfl (by kernel_rfl) ?_
       intro K hK
       go_simp
       refine (HM.out _ HGV.out).mono ?_
       rintro e u1 ⟨rfl, hg⟩
       have HC1 := Lib.hid (Chg.then_non (Chg.refl Non _) hg)
       clear hg
       refine hK.out _ _ HC1.out (fun _ => ?_)
       clear hK K
       try simp only [Act.put, sA, sB, sC]
       refine hp 2 65 (.bool false) rfl HC1.out ?_
       refine hp 3 66 (.bool false) rfl HC1.out ?_
       refine hp 4 67 (.int .i64 ((k : Int) + 1)) rfl HC1.out ?_
       refine hp 5 68 (.bool true) rfl HC1.out ?_ (he := (fun W hW => by go_simp; try omega))
       refine hp 6 69 (.bool true) rfl HC1.out ?_
       refine hp 7 70 (.pointer (some ⟨w.heap.size, 2, none⟩)) rfl HC1.out ?_
       refine hp 8 71 (.slice (some ⟨b, o, none⟩) s.queues.length c2) rfl HC1.out ?_ (he := (fun W hW => by have hc := hW.cell_some hbx (fun e => e); go_simp))
       refine hp 9 72 (.int .i64 ((k : Int) + 1)) rfl HC1.out ?_
       refine hp 10 73 (.int .i64 (k : Int)) rfl HC1.out ?_ (he := (fun W hW => by go_simp; exact Go.IntWalk.i64_in _ (by omega)))
       refine hp 11 74 (.pointer (some ⟨b, o + k * 6, none⟩)) rfl HC1.out ?_
       refine hp 12 75 (.pointer (some ⟨b, o + k * 6, none⟩)) rfl HC1.out ?_
       refine hp 13 76 (.pointer (some ⟨b, o + k * 6, none⟩)) rfl HC1.out ?_
       refine hp 14 77 (.int .i64 y) rfl HC1.out ?_ (he := (fun W hW => by have hc := hW.cell_some hpy (fun e => e); go_simp))
       refine hp 15 78 (.pointer (some ⟨wr.heap.size, 0, none⟩)) rfl HC1.out ?_
       refine hp 16 79 (.pointer (some ⟨wr.heap.size, 0, none⟩)) rfl HC1.out ?_
       refine hp 17 80 (.int .i64 x) rfl HC1.out ?_ (he := (fun W hW => by have hc := hW.cell_some hpx (fun e => e); go_simp))
       refine hp 18 81 (.bool (decide (y ≥ x))) rfl HC1.out ?_
       refine hp 19 82 (.bool (decide (y ≥ x))) rfl HC1.out ?_
       refine hp 20 83 (.bool (decide (y ≥ x))) rfl HC1.out ?_
       refine wpAnyH_done (by kernel_rfl) ?_ _
       have HGn : Hid (Chg Non (w.alloc boxS) _) := Lib.hid ((HG0.out.then_non HGV.out).then_non HC1.out)
       by_cases hxy : y ≥ x
       ·have hxd : decide (x ≤ y) = true := by simpa using hxy
        have HE2 : Hid (mayS s = false) := Lib.hid (HEf.out (stepMay_prev (ok := mayQ) (id := (fun q : Qu => q.ch.id)) HA.out HAY.out.1 (by rw [HMX.out.2, HAY.out.2]; omega)))
        clear HEf
        go_wp2_with fail
        go_ret
        exact ⟨ret_b HE2.out.symm, ((Chg.refl Non w).alloc _).then_non HGn.out⟩
       ·have hxd : decide (x ≤ y) = false := by simpa using hxy
        have hst := Lib.hid (stepMay_succ (ok := mayQ) (id := (fun q : Qu => q.ch.id)) HA.out HMX.out.1 HAY.out.1 (by rw [HMX.out.2, HAY.out.2]; omega))
        have HN2 : Hid (∀ j, j < (k + 1) + 1 → stepMay mayQ (fun q : Qu => q.ch.id) s.queues j = true) := Lib.hid (fun j hj => by
          by_cases e : j = (k + 1)
          · subst e; exact hst.out
          · exact HN.out j (by omega))
        clear hst
        go_wp2_with fail
        exact ⟨⟨(k + 1) + 1, by omega, by simp, HN2, HGn⟩, by simp [intOf]; omega⟩
    ·obtain rfl : k = s.queues.length := by omega
     have hltd : decide ((s.queues.length : Int) < (s.queues.length : Int)) = false := by simp
     have HEQ := Lib.hid (mayL_yes HN.out)
     have HE2 : Hid (mayS s = true) := Lib.hid (by
       rw [HE.out, HEP.out, HEQ.out]
       simp
       omega)
     have HG0 := Lib.hid HG.out
     go_wp2_with fail
     go_ret
     exact ⟨ret_b HE2.out.symm, ((Chg.refl Non w).alloc _).then_non HG0.out⟩
end
section
open Go.RowKit
def eqAll {α β : Type} (p : α → β → Bool) (l : List α) (m : List β) : Bool :=
 decide (l.length = m.length) && (List.range l.length).all fun i => match l[i]?, m[i]? with | some a, some b => p a b | _, _ => true
section
variable {α β : Type} {p : α → β → Bool} {l : List α} {m : List β}
theorem eqAll_ne (h : ¬ l.length = m.length) : eqAll p l m = false := by simp [eqAll, h]
theorem eqAll_no {k : Nat} {a : α} {b : β} (ha : l[k]? = some a) (hb : m[k]? = some b) (h : p a b = false) : eqAll p l m = false := by
 have : (List.range l.length).all (fun i => match l[i]?, m[i]? with | some a, some b => p a b | _, _ => true) = false := by
  rw [List.all_eq_false]
  exact ⟨k, List.mem_range.2 (List.getElem?_eq_some_iff.1 ha).1, by simp only [ha, hb, h]; simp⟩
 rw [eqAll, this, Bool.and_false]
theorem eqAll_yes (hl : l.length = m.length) (h : ∀ (i : Nat) (a : α) (b : β), i < l.length → l[i]? = some a → m[i]? = some b → p a b = true) : eqAll p l m = true := by
 rw [eqAll, decide_eq_true hl, Bool.true_and, List.all_eq_true]
 intro i hi
 have h1 := List.mem_range.1 hi
 have h2 : i < m.length := by omega
 simp only [List.getElem?_eq_getElem h1, List.getElem?_eq_getElem h2]
 exact h i _ _ h1 (List.getElem?_eq_getElem h1) (List.getElem?_eq_getElem h2)
theorem eqAll_iff : eqAll p l m = true ↔ l.length = m.length ∧ ∀ (i : Nat) (a : α) (b : β), l[i]? = some a → m[i]? = some b → p a b = true := by
 constructor
 ·intro h
  have hl : l.length = m.length := by
   cases hd : decide (l.length = m.length) with
   | true => exact of_decide_eq_true hd
   | false => rw [eqAll_ne (of_decide_eq_false hd)] at h; cases h
  refine ⟨hl, fun i a b ha hb => ?_⟩
  cases hp : p a b with
  | true => rfl
  | false => rw [eqAll_no ha hb hp] at h; cases h
 ·rintro ⟨h1, h2⟩
  exact eqAll_yes h1 (fun i a b _ => h2 i a b)
end
theorem sz_of {vs : List Value} {o : Array Value} {n : Nat} (h : vs.length = n) (ho : o.size = n) : o.size = vs.toArray.size := by simp [h, ho]
def Asks2 {α β : Type} (R1 : World → α → List Value → Prop) (R2 : World → β → List Value → Prop) (V1 V2 : List Value → Value) (l : List α) (m : List β) (p : α → β → Bool) (w : World) (K : Nat) : Prop :=
 ∀ W a b vs us, Chg Non w W → a ∈ l → b ∈ m → R1 W a vs → R2 W b us → Calls Tryz.prog K #[V1 vs, V2 us] W fun e W' => e = .returned (.bool (p a b)) ∧ Chg Non W W'
theorem all_one {vs : List Value} (h : ∀ u ∈ vs, u.oneCell' = true) : vs.toArray.all (·.oneCell') = true := by
 rw [List.all_toArray, List.all_eq_true]
 exact h
set_option maxRecDepth 100000 in
theorem eqParts {α β : Type} (R1 : World → α → List Value → Prop) (R2 : World → β → List Value → Prop) (I J : Nat → Prop) (hm1 : ∀ W W' a vs, Chg Non W W' → R1 W a vs → R1 W' a vs) (hm2 : ∀ W W' a vs, Chg Non W W' → R2 W a vs → R2 W' a vs)
  (ho1 : ∀ W a vs, R1 W a vs → ∀ u ∈ vs, u.oneCell' = true) (ho2 : ∀ W a vs, R2 W a vs → ∀ u ∈ vs, u.oneCell' = true) (p : α → β → Bool) (A A2 : Option Addr) (l : List α) (m : List β) (c c2 : Nat) (w : World)
  (hr1 : RdL R1 I 14 w A l) (hr2 : RdL R2 J 5 w A2 m) (hf : Asks2 R1 R2 aggV aggV l m p w 75) (hc : l.length ≤ c) (hcm : c ≤ maxLen) (hc2 : m.length ≤ c2) (hcm2 : c2 ≤ maxLen) :
  Calls Tryz.prog 74 #[.slice A l.length c, .slice A2 m.length c2, .func (.func 75) #[] #[]] w fun e w' => e = .returned (.bool (eqAll p l m)) ∧ Chg Non w w' := by
 unfold maxLen at hcm hcm2
 have HR1 := Lib.hid hr1
 have HR2 := Lib.hid hr2
 have HF := Lib.hid hf
 clear hr1 hr2 hf
 by_cases hlen : l.length = m.length
 case neg =>
  have hnd : decide ((l.length : Int) = (m.length : Int)) = false := by rw [decide_eq_false_iff_not]; omega
  go_enter Tryz.func74, Tryz.ntmps74
  go_wp2_with fail
  go_ret
  exact ⟨ret_b (eqAll_ne hlen).symm, Chg.refl _ _⟩
 obtain ⟨n, hn⟩ : ∃ n, m.length = n := ⟨_, rfl⟩
 have HN0 := Lib.hid hn
 rw [hn] at hlen hc2
 rw [hn]
 have hln : l.length = n := hlen
 rw [hln] at hc ⊢
 have HL0 := Lib.hid hln
 clear hlen hn hln
 go_enter Tryz.func74, Tryz.ntmps74
 go_wp2_with fail
 go_loopw [17] (fun iv wr => ∃ k : Nat, k ≤ n ∧ iv = .int .i64 k ∧ Hid (∀ (i : Nat) (a : α) (b : β), i < k → l[i]? = some a → m[i]? = some b → p a b = true) ∧ Hid (Chg Non w wr)) (fun iv _ => n - (intOf iv).toNat)
 case atStart => exact ⟨0, Nat.zero_le _, rfl, Lib.hid (fun i a b h => by omega), Lib.hid (Chg.refl _ _)⟩
 case round =>
  obtain ⟨k, hk, rfl, HN, HG⟩ := hrel
  by_cases hlt : k < n
  ·obtain ⟨a, ha⟩ : ∃ a, l[k]? = some a := ⟨_, List.getElem?_eq_getElem (by rw [HL0.out]; exact hlt)⟩
   obtain ⟨a2, ha2⟩ : ∃ a, m[k]? = some a := ⟨_, List.getElem?_eq_getElem (by rw [HN0.out]; exact hlt)⟩
   obtain ⟨b, o, vs, rfl, _, hlen, hcell0, hR⟩ := HR1.out k a ha
   obtain ⟨b2, o2, vs2, rfl, _, hlen2, hcell2, hR2⟩ := HR2.out k a2 ha2
   have HC := Lib.hid (range_keepS hcell0 HG.out (fun e => e))
   have HC2 := Lib.hid (range_keepS hcell2 HG.out (fun e => e))
   have HK := Lib.hid (fun W (hg : Chg Non wr W) => HF.out W a a2 vs vs2 (HG.out.then_non hg) (List.mem_of_getElem? ha) (List.mem_of_getElem? ha2) (hm1 _ _ _ _ (HG.out.then_non hg) hR) (hm2 _ _ _ _ (HG.out.then_non hg) hR2))
   have HO1 := Lib.hid (all_one (ho1 _ _ _ hR))
   have HO2 := Lib.hid (all_one (ho2 _ _ _ hR2))
   have hltd : decide ((k : Int) < (n : Int)) = true := by simpa using hlt
   have HA := Lib.hid (And.intro ha ha2)
   have HL := Lib.hid (And.intro hlen hlen2)
   clear ha ha2 hR hR2 hcell0 hcell2 hlen hlen2
   go_wp2_with (first
     | (refine sel (some 21) (.load 69 (.tmp 20)) ?_; refine wpList_load_mid rfl 69 (.tmp 20) rfl b (o + k * 14) rfl vs _ HC.out Tryz.underlying69 rfl (by rw [HL.out.1]; kernel_rfl) ?_)
     | (refine sel none (.store 69 (.tmp 8) (.tmp 21)) ?_
        refine wpList_store_rowA rfl 69 (.tmp 8) (.tmp 21) rfl wr.heap.size vs.toArray rfl rfl 69 _ (blk_new _ _) (by rw [List.size_toArray, HL.out.1]; kernel_rfl) (sz_of HL.out.1 rfl) HO1.out ?_
        intro W1 hgW1 hbW1
        have HC3 := Lib.hid (range_keepS (range_keepS HC2.out ((Chg.refl Non wr).alloc _) (fun e => e)) hgW1 (fun e => by have := rng_lt HC2.out (by rw [HL.out.2]; omega); omega)))
     | (refine sel (some 25) (.load 83 (.tmp 24)) ?_; refine wpList_load_mid rfl 83 (.tmp 24) rfl b2 (o2 + k * 5) rfl vs2 _ HC3.out Tryz.underlying83 rfl (by rw [HL.out.2]; kernel_rfl) ?_)
     | (refine sel none (.store 83 (.tmp 9) (.tmp 25)) ?_
        refine wpList_store_rowA rfl 83 (.tmp 9) (.tmp 25) rfl W1.heap.size vs2.toArray rfl rfl 83 _ (blk_new _ _) (by rw [List.size_toArray, HL.out.2]; kernel_rfl) (sz_of HL.out.2 rfl) HO2.out ?_
        intro W2 hgW2 hbW2
        have HB1 := Lib.hid (blk_keep (blk_keep hbW1 ((Chg.refl Non _).alloc _) (fun e => e)) hgW2 (fun e => by have := blk_lt hbW1; omega)))
     | (refine sel (some 27) (.load 69 (.tmp 8)) ?_; refine wpList_load_row rfl 69 (.tmp 8) rfl wr.heap.size rfl 69 vs.toArray (0, 0) _ HB1.out Tryz.underlying69 rfl (by rw [List.size_toArray, HL.out.1]; kernel_rfl) ?_)
     | (refine sel (some 28) (.load 83 (.tmp 9)) ?_; refine wpList_load_row rfl 83 (.tmp 9) rfl W1.heap.size rfl 83 vs2.toArray (0, 0) _ hbW2 Tryz.underlying83 rfl (by rw [List.size_toArray, HL.out.2]; kernel_rfl) ?_))
   have hgw2 : Chg Non wr W2 := ((((Chg.refl Non wr).alloc _).then_new hgW1 (fun x e => by omega)).alloc _).then_new hgW2 (fun x e => by have := blk_lt hbW1; omega)
   refine (HK.out W2 hgw2).mono ?_
   rintro e u ⟨rfl, hg⟩
   have HG2 := Lib.hid ((HG.out.then_non hgw2).then_non hg)
   clear hg
   cases hp : p a a2 with
   | false =>
    have HE := Lib.hid (eqAll_no HA.out.1 HA.out.2 hp)
    clear hp
    go_wp2_with fail
    go_ret
    exact ⟨ret_b HE.out.symm, HG2.out⟩
   | true =>
    have HN2 : Hid (∀ (i : Nat) (a : α) (b : β), i < k + 1 → l[i]? = some a → m[i]? = some b → p a b = true) := Lib.hid (fun i x y hi hx hy => by
      by_cases e : i = k
      · subst e
        rw [HA.out.1] at hx
        rw [HA.out.2] at hy
        injection hx with hx
        injection hy with hy
        subst hx hy
        exact hp
      · exact HN.out i x y (by omega) hx hy)
    clear hp
    go_wp2_with fail
    exact ⟨⟨k + 1, by omega, by simp, HN2, HG2⟩, by simp [intOf]; omega⟩
  ·obtain rfl : k = n := by omega
   have hltd : decide ((k : Int) < (k : Int)) = false := by simp
   have HE := Lib.hid (eqAll_yes (by rw [HL0.out, HN0.out]) (fun i a b hi => HN.out i a b (by rw [← HL0.out]; exact hi)))
   go_wp2_with fail
   go_ret
   exact ⟨ret_b HE.out.symm, HG.out⟩
set_option maxRecDepth 100000 in
theorem eqQueues {α β : Type} (R1 : World → α → List Value → Prop) (R2 : World → β → List Value → Prop) (I J : Nat → Prop) (hm1 : ∀ W W' a vs, Chg Non W W' → R1 W a vs → R1 W' a vs) (hm2 : ∀ W W' a vs, Chg Non W W' → R2 W a vs → R2 W' a vs)
  (ho1 : ∀ W a vs, R1 W a vs → ∀ u ∈ vs, u.oneCell' = true) (ho2 : ∀ W a vs, R2 W a vs → ∀ u ∈ vs, u.oneCell' = true) (p : α → β → Bool) (A A2 : Option Addr) (l : List α) (m : List β) (c c2 : Nat) (w : World)
  (hr1 : RdL R1 I 6 w A l) (hr2 : RdL R2 J 5 w A2 m) (hf : Asks2 R1 R2 aggV aggV l m p w 77) (hc : l.length ≤ c) (hcm : c ≤ maxLen) (hc2 : m.length ≤ c2) (hcm2 : c2 ≤ maxLen) :
  Calls Tryz.prog 76 #[.slice A l.length c, .slice A2 m.length c2, .func (.func 77) #[] #[]] w fun e w' => e = .returned (.bool (eqAll p l m)) ∧ Chg Non w w' := by
 unfold maxLen at hcm hcm2
 have HR1 := Lib.hid hr1
 have HR2 := Lib.hid hr2
 have HF := Lib.hid hf
 clear hr1 hr2 hf
 by_cases hlen : l.length = m.length
 case neg =>
  have hnd : decide ((l.length : Int) = (m.length : Int)) = false := by rw [decide_eq_false_iff_not]; omega
  go_enter Tryz.func76, Tryz.ntmps76
  go_wp2_with fail
  go_ret
  exact ⟨ret_b (eqAll_ne hlen).symm, Chg.refl _ _⟩
 obtain ⟨n, hn⟩ : ∃ n, m.length = n := ⟨_, rfl⟩
 have HN0 := Lib.hid hn
 rw [hn] at hlen hc2
 rw [hn]
 have hln : l.length = n := hlen
 rw [hln] at hc ⊢
 have HL0 := Lib.hid hln
 clear hlen hn hln
 go_enter Tryz.func76, Tryz.ntmps76
 go_wp2_with fail
 go_loopw [17] (fun iv wr => ∃ k : Nat, k ≤ n ∧ iv = .int .i64 k ∧ Hid (∀ (i : Nat) (a : α) (b : β), i < k → l[i]? = some a → m[i]? = some b → p a b = true) ∧ Hid (Chg Non w wr)) (fun iv _ => n - (intOf iv).toNat)
 case atStart => exact ⟨0, Nat.zero_le _, rfl, Lib.hid (fun i a b h => by omega), Lib.hid (Chg.refl _ _)⟩
 case round =>
  obtain ⟨k, hk, rfl, HN, HG⟩ := hrel
  by_cases hlt : k < n
  ·obtain ⟨a, ha⟩ : ∃ a, l[k]? = some a := ⟨_, List.getElem?_eq_getElem (by rw [HL0.out]; exact hlt)⟩
   obtain ⟨a2, ha2⟩ : ∃ a, m[k]? = some a := ⟨_, List.getElem?_eq_getElem (by rw [HN0.out]; exact hlt)⟩
   obtain ⟨b, o, vs, rfl, _, hlen, hcell0, hR⟩ := HR1.out k a ha
   obtain ⟨b2, o2, vs2, rfl, _, hlen2, hcell2, hR2⟩ := HR2.out k a2 ha2
   have HC := Lib.hid (range_keepS hcell0 HG.out (fun e => e))
   have HC2 := Lib.hid (range_keepS hcell2 HG.out (fun e => e))
   have HK := Lib.hid (fun W (hg : Chg Non wr W) => HF.out W a a2 vs vs2 (HG.out.then_non hg) (List.mem_of_getElem? ha) (List.mem_of_getElem? ha2) (hm1 _ _ _ _ (HG.out.then_non hg) hR) (hm2 _ _ _ _ (HG.out.then_non hg) hR2))
   have HO1 := Lib.hid (all_one (ho1 _ _ _ hR))
   have HO2 := Lib.hid (all_one (ho2 _ _ _ hR2))
   have hltd : decide ((k : Int) < (n : Int)) = true := by simpa using hlt
   have HA := Lib.hid (And.intro ha ha2)
   have HL := Lib.hid (And.intro hlen hlen2)
   clear ha ha2 hR hR2 hcell0 hcell2 hlen hlen2
   go_wp2_with (first
     | (refine sel (some 21) (.load 95 (.tmp 20)) ?_; refine wpList_load_mid rfl 95 (.tmp 20) rfl b (o + k * 6) rfl vs _ HC.out Tryz.underlying95 rfl (by rw [HL.out.1]; kernel_rfl) ?_)
     | (refine sel none (.store 95 (.tmp 8) (.tmp 21)) ?_
        refine wpList_store_rowA rfl 95 (.tmp 8) (.tmp 21) rfl wr.heap.size vs.toArray rfl rfl 95 _ (blk_new _ _) (by rw [List.size_toArray, HL.out.1]; kernel_rfl) (sz_of HL.out.1 rfl) HO1.out ?_
        intro W1 hgW1 hbW1
        have HC3 := Lib.hid (range_keepS (range_keepS HC2.out ((Chg.refl Non wr).alloc _) (fun e => e)) hgW1 (fun e => by have := rng_lt HC2.out (by rw [HL.out.2]; omega); omega)))
     | (refine sel (some 25) (.load 93 (.tmp 24)) ?_; refine wpList_load_mid rfl 93 (.tmp 24) rfl b2 (o2 + k * 5) rfl vs2 _ HC3.out Tryz.underlying93 rfl (by rw [HL.out.2]; kernel_rfl) ?_)
     | (refine sel none (.store 93 (.tmp 9) (.tmp 25)) ?_
        refine wpList_store_rowA rfl 93 (.tmp 9) (.tmp 25) rfl W1.heap.size vs2.toArray rfl rfl 93 _ (blk_new _ _) (by rw [List.size_toArray, HL.out.2]; kernel_rfl) (sz_of HL.out.2 rfl) HO2.out ?_
        intro W2 hgW2 hbW2
        have HB1 := Lib.hid (blk_keep (blk_keep hbW1 ((Chg.refl Non _).alloc _) (fun e => e)) hgW2 (fun e => by have := blk_lt hbW1; omega)))
     | (refine sel (some 27) (.load 95 (.tmp 8)) ?_; refine wpList_load_row rfl 95 (.tmp 8) rfl wr.heap.size rfl 95 vs.toArray (0, 0) _ HB1.out Tryz.underlying95 rfl (by rw [List.size_toArray, HL.out.1]; kernel_rfl) ?_)
     | (refine sel (some 28) (.load 93 (.tmp 9)) ?_; refine wpList_load_row rfl 93 (.tmp 9) rfl W1.heap.size rfl 93 vs2.toArray (0, 0) _ hbW2 Tryz.underlying93 rfl (by rw [List.size_toArray, HL.out.2]; kernel_rfl) ?_))
   have hgw2 : Chg Non wr W2 := ((((Chg.refl Non wr).alloc _).then_new hgW1 (fun x e => by omega)).alloc _).then_new hgW2 (fun x e => by have := blk_lt hbW1; omega)
   refine (HK.out W2 hgw2).mono ?_
   rintro e u ⟨rfl, hg⟩
   have HG2 := Lib.hid ((HG.out.then_non hgw2).then_non hg)
   clear hg
   cases hp : p a a2 with
   | false =>
    have HE := Lib.hid (eqAll_no HA.out.1 HA.out.2 hp)
    clear hp
    go_wp2_with fail
    go_ret
    exact ⟨ret_b HE.out.symm, HG2.out⟩
   | true =>
    have HN2 : Hid (∀ (i : Nat) (a : α) (b : β), i < k + 1 → l[i]? = some a → m[i]? = some b → p a b = true) := Lib.hid (fun i x y hi hx hy => by
      by_cases e : i = k
      · subst e
        rw [HA.out.1] at hx
        rw [HA.out.2] at hy
        injection hx with hx
        injection hy with hy
        subst hx hy
        exact hp
      · exact HN.out i x y (by omega) hx hy)
    clear hp
    go_wp2_with fail
    exact ⟨⟨k + 1, by omega, by simp, HN2, HG2⟩, by simp [intOf]; omega⟩
  ·obtain rfl : k = n := by omega
   have hltd : decide ((k : Int) < (k : Int)) = false := by simp
   have HE := Lib.hid (eqAll_yes (by rw [HL0.out, HN0.out]) (fun i a b hi => HN.out i a b (by rw [← HL0.out]; exact hi)))
   go_wp2_with fail
   go_ret
   exact ⟨ret_b HE.out.symm, HG.out⟩
end
section
open Go.RowKit
def sameP (p : Pt) (q : Pn) : Bool := decide (p.id = q.id) && decide (p.size = q.size) && (p.keep == q.keep)
deriving instance DecidableEq for Ch
def sameQ (q : Qu) (x : Ch) : Bool := decide (q.ch = x)
def Ch.C (x : Ch) : Array Value := #[.int .i64 x.id, .int .i64 x.src, .int .i64 x.dst, .int .i64 x.cap, .int .i64 x.size]
def chLits (x : Ch) : List Lit := [.int .i64 x.id, .int .i64 x.src, .int .i64 x.dst, .int .i64 x.cap, .int .i64 x.size]
theorem chLits_inj {p q : Ch} : chLits p = chLits q ↔ p = q := by
 obtain ⟨a, b, c, d, e⟩ := p
 obtain ⟨a', b', c', d', e'⟩ := q
 simp [chLits]
set_option maxRecDepth 100000 in
theorem keyLits_ch (x : Ch) (h : x.Bd) : Tryz.prog.keyLits 3 93 x.C.toList = some (chLits x) := by
 obtain ⟨a, b, c, d, e⟩ := x
 obtain ⟨h1, h2, h3, h4, h5⟩ := h
 simp only at h1 h2 h3 h4 h5
 unfold Program.keyLits
 rw [Tryz.underlying93]
 have c1 : Tryz.prog.cellsOf 3 = 1 := by kernel_rfl
 have c5 : Tryz.prog.cellsOf 93 = 5 := by kernel_rfl
 have k1 := keyLits_i64 (D := 1) Tryz.underlying3 a h1
 have k2 := keyLits_i64 (D := 1) Tryz.underlying3 b h2
 have k3 := keyLits_i64 (D := 1) Tryz.underlying3 c h3
 have k4 := keyLits_i64 (D := 1) Tryz.underlying3 d h4
 have k5 := keyLits_i64 (D := 1) Tryz.underlying3 e h5
 simp [Ch.C, c1, c5, k1, k2, k3, k4, k5, chLits]
theorem ch_formed (x : Ch) : (Value.agg x.C).formed Tryz.prog 93 = true := by
 have c4 : Tryz.prog.cellsOf 93 = 5 := by kernel_rfl
 unfold Value.formed
 rw [Tryz.underlying93]
 simp [c4, Ch.C]
theorem eq_ch (p q : Ch) (hp : p.Bd) (hq : q.Bd) (w : World) : (binOp .eql 93 (.agg p.C) (.agg q.C)).run Tryz.prog w = .ok (.bool (decide (p = q))) w :=
 (eq_agg chLits_inj 3 (by omega) (by kernel_rfl) (ch_formed p) (ch_formed q) (keyLits_ch p hp) (keyLits_ch q hq) w).1
set_option maxRecDepth 100000 in
theorem is1_ok (p : Pt) (mp : Value) (q : Pn) (mq : Value) (w : World) (h8 : p.r.length = 8) :
  Calls Tryz.prog 75 #[.agg (partC p mp), .agg (q.L mq).toArray] w fun e w' => e = .returned (.bool (sameP p q)) ∧ Chg Non w w' := by
 obtain ⟨C, hC⟩ : ∃ C, partC p mp = C := ⟨_, rfl⟩
 have hb : PartB (w.alloc (.cells C 69)) w.heap.size p mp := ⟨by unfold PartAt; rw [hC]; exact blk_new _ _, h8⟩
 have hb2 := hb.non ((Chg.refl Non _).alloc (.cells (q.L mq).toArray 83))
 obtain ⟨k0, k1, k2, _, _, _⟩ := hb2.cells
 have j0 := blk_cell (blk_new (w.alloc (.cells C 69)) (.cells (q.L mq).toArray 83)) 0 (v := .int .i64 q.id) rfl
 have j2 := blk_cell (blk_new (w.alloc (.cells C 69)) (.cells (q.L mq).toArray 83)) 2 (v := .int .i64 q.size) rfl
 have j3 := blk_cell (blk_new (w.alloc (.cells C 69)) (.cells (q.L mq).toArray 83)) 3 (v := .bool q.keep) rfl
 have hz : (w.alloc (.cells C 69)).heap.size = w.heap.size + 1 := by simp
 rw [hz] at j0 j2 j3
 rw [hC]
 clear hb hb2 hC hz
 obtain ⟨i, s, kp, r, pc, st, mem⟩ := p
 obtain ⟨i2, x2, s2, kp2, im2⟩ := q
 have HE : Hid (sameP ⟨i, s, kp, r, pc, st, mem⟩ ⟨i2, x2, s2, kp2, im2⟩ = (decide (i = i2) && decide (s = s2) && (kp == kp2))) := Lib.hid rfl
 simp only [Pn.L] at *
 go_enter Tryz.func75, Tryz.ntmps75
 go_wp2_with fail
 all_goals go_ret
 all_goals refine ⟨ret_b ?_, ((Chg.refl Non w).alloc _).alloc _⟩
 all_goals rw [HE.out, Bool.eq_iff_iff]
 all_goals simp_all
set_option maxRecDepth 100000 in
theorem is2_ok (q : Qu) (m : Value) (x : Ch) (w : World) (hq : q.ch.Bd) (hx : x.Bd) :
  Calls Tryz.prog 77 #[.agg (q.L m).toArray, .agg x.L.toArray] w fun e w' => e = .returned (.bool (sameQ q x)) ∧ Chg Non w w' := by
 have he := eq_ch q.ch x hq hx
 have HE : Hid (sameQ q x = decide (q.ch = x)) := Lib.hid rfl
 obtain ⟨⟨a1, a2, a3, a4, a5⟩, ms⟩ := q
 obtain ⟨b1, b2, b3, b4, b5⟩ := x
 simp only [Ch.C, Ch.L, Qu.L] at *
 go_enter Tryz.func77, Tryz.ntmps77
 go_wp2_with fail
 go_ret
 exact ⟨ret_b (by rw [HE.out, Bool.eq_iff_iff]; simp), ((Chg.refl Non w).alloc _).alloc _⟩
def isB (s : Sta) (c : Cfg) : Prop := eqAll sameP s.parts c.ps = true ∧ eqAll sameQ s.queues c.cs = true ∧ mayS s = true ∧ fitsB c = true
theorem ptV_one {I : Nat → Prop} : ∀ W a vs, ptV I W a vs → ∀ u ∈ vs, u.oneCell' = true := by
 rintro W a vs ⟨m, rfl, ⟨A, c, rfl, _⟩, _⟩ u hu
 have := partC_one a (.slice A a.mem.length c) rfl
 rw [partC, List.all_toArray, List.all_eq_true] at this
 exact this u hu
theorem pnV_one {I : Nat → Prop} : ∀ W a vs, pnV I W a vs → ∀ u ∈ vs, u.oneCell' = true := by
 rintro W a vs ⟨m, rfl, ⟨A, c, rfl, _⟩, _⟩ u hu
 simp only [Pn.L, List.mem_cons, List.not_mem_nil, or_false] at hu
 rcases hu with rfl | rfl | rfl | rfl | rfl <;> rfl
theorem quV_one {I : Nat → Prop} : ∀ W a vs, quV I W a vs → ∀ u ∈ vs, u.oneCell' = true := by
 rintro W a vs ⟨m, rfl, ⟨A, c, rfl, _⟩, _⟩ u hu
 simp only [Qu.L, List.mem_cons, List.not_mem_nil, or_false] at hu
 rcases hu with rfl | rfl | rfl | rfl | rfl | rfl <;> rfl
theorem chV_one : ∀ W a vs, chV W a vs → ∀ u ∈ vs, u.oneCell' = true := by
 rintro W a vs ⟨rfl, _⟩ u hu
 simp only [Ch.L, List.mem_cons, List.not_mem_nil, or_false] at hu
 rcases hu with rfl | rfl | rfl | rfl | rfl <;> rfl
theorem winV_one : ∀ W a vs, winV W a vs → ∀ u ∈ vs, u.oneCell' = true := by
 rintro W a vs ⟨rfl, _⟩ u hu
 simp only [Win.L, List.mem_cons, List.not_mem_nil, or_false] at hu
 rcases hu with rfl | rfl <;> rfl
theorem msgV_one {I : Nat → Prop} : ∀ W a vs, msgV I W a vs → ∀ u ∈ vs, u.oneCell' = true := by
 rintro W a vs ⟨m, rfl, ⟨A, c, rfl, _⟩, _⟩ u hu
 simp only [List.mem_cons, List.not_mem_nil, or_false] at hu
 subst hu
 rfl
theorem and4 {a b c d : Bool} : (a = true ∧ b = true ∧ c = true ∧ d = true) ↔ (a && b && c && d) = true := by cases a <;> cases b <;> cases c <;> cases d <;> simp
open Classical in
set_option maxRecDepth 100000 in
theorem is_ok (I J : Nat → Prop) (w : World) (s : Sta) (vb vd : Value) (c : Cfg) (A1 A2 A3 : Option Addr) (c1 c2 c3 : Nat) (hs : StaV I w s vb vd) (hc : CfgR J w c A1 A2 A3 c1 c2 c3) (h20 : c.ps.length ≤ 1000) :
  Calls Tryz.prog 43 #[.agg #[.int .i64 s.frames, vb, vd], .agg #[.slice A1 c.ws.length c1, .slice A2 c.ps.length c2, .slice A3 c.cs.length c3]] w fun e w' => e = .returned (.bool (decide (isB s c))) ∧ Chg Non w w' := by
 obtain ⟨hp, hq⟩ := hs
 obtain ⟨B1, d1, rfl, hd1, hm1, hrp⟩ := hp
 obtain ⟨B2, d2, rfl, hd2, hm2, hrq⟩ := hq
 have hsv : ∀ W, Chg Non w W → StaV I W s (.slice B1 s.parts.length d1) (.slice B2 s.queues.length d2) := fun W hg => (StaV.mk ⟨B1, d1, rfl, hd1, hm1, hrp⟩ ⟨B2, d2, rfl, hd2, hm2, hrq⟩ : StaV I w s _ _).non hg
 have H1 := Lib.hid (fun W (hg : Chg Non w W) => eqParts (ptV I) (pnV J) I J ptV_non pnV_non ptV_one pnV_one sameP B1 A2 s.parts c.ps d1 c2 W (hrp.non hg (fun a vs h => ptV_non _ _ _ _ hg h)) ((hc.non hg).ps) (by
   rintro W' a b vs us hg2 ha hb ⟨m, rfl, _, hbd, _⟩ ⟨m2, rfl, _⟩
   exact is1_ok a m b m2 W' hbd.r8) hd1 hm1 hc.l2.1 hc.l2.2)
 have H2 := Lib.hid (fun W (hg : Chg Non w W) => eqQueues (quV I) chV I J quV_non (fun _ _ _ _ _ h => h) quV_one chV_one sameQ B2 A3 s.queues c.cs d2 c3 W (hrq.non hg (fun a vs h => quV_non _ _ _ _ hg h)) ((hc.non hg).cs) (by
   rintro W' a b vs us hg2 ha hb ⟨m, rfl, _, hbd, _⟩ ⟨rfl, hb2⟩
   exact is2_ok a m b W' hbd hb2) hd2 hm2 hc.l3.1 hc.l3.2)
 have H3 := Lib.hid (fun W (hg : Chg Non w W) => smay_ok I s _ _ W (hsv W hg))
 have H4 := Lib.hid (fun W (hg : Chg Non w W) => fits_ok J W c A1 A2 A3 c1 c2 c3 (hc.non hg) h20)
 have HE : Hid ((decide (isB s c)) = (eqAll sameP s.parts c.ps && eqAll sameQ s.queues c.cs && mayS s && fitsB c)) := Lib.hid (by rw [Bool.eq_iff_iff, decide_eq_true_eq]; exact and4)
 obtain ⟨e1, he1⟩ : ∃ e, eqAll sameP s.parts c.ps = e := ⟨_, rfl⟩
 obtain ⟨e2, he2⟩ : ∃ e, eqAll sameQ s.queues c.cs = e := ⟨_, rfl⟩
 obtain ⟨e3, he3⟩ : ∃ e, mayS s = e := ⟨_, rfl⟩
 obtain ⟨e4, he4⟩ : ∃ e, fitsB c = e := ⟨_, rfl⟩
 obtain ⟨e5, he5⟩ : ∃ e, decide (isB s c) = e := ⟨_, rfl⟩
 simp only [he1, he2, he3, he4, he5] at H1 H2 H3 H4 HE ⊢
 clear he1 he2 he3 he4 he5 hsv hrp hrq hc
 go_enter Tryz.func43, Tryz.ntmps43
 go_wp2_with fail
 refine (H1.out _ (((Chg.refl Non w).alloc _).alloc _)).mono ?_
 rintro e u ⟨rfl, hg⟩
 obtain ⟨hb0, hb1, hlt, hgw⟩ := blk_call2 hg
 have f2 := blk_cell hb0 2 (v := .slice B2 s.queues.length d2) rfl
 have g2 := blk_cell hb1 2 (v := .slice A3 c.cs.length c3) rfl
 have HB0 := Lib.hid hb0
 have HB1 := Lib.hid hb1
 have HG := Lib.hid hgw
 clear hg hb0 hb1 hgw
 go_wp2_with fail
 refine (H2.out _ HG.out).mono ?_
 rintro e u2 ⟨rfl, hg⟩
 have hb0 := blk_keep HB0.out hg (fun e => e)
 have hb1 := blk_keep HB1.out hg (fun e => e)
 have f0 := blk_cell hb0 0 (v := .int .i64 s.frames) rfl
 have f1 := blk_cell hb0 1 (v := .slice B1 s.parts.length d1) rfl
 have f2' := blk_cell hb0 2 (v := .slice B2 s.queues.length d2) rfl
 have g0 := blk_cell hb1 0 (v := .slice A1 c.ws.length c1) rfl
 have g1 := blk_cell hb1 1 (v := .slice A2 c.ps.length c2) rfl
 have g2' := blk_cell hb1 2 (v := .slice A3 c.cs.length c3) rfl
 have HG2 := Lib.hid (HG.out.then_non hg)
 have HBB := Lib.hid hb1
 clear hg hb0 hb1 f2 g2
 cases e1 with
 | false =>
  go_wp2_with fail
  go_ret
  exact ⟨ret_b (by rw [HE.out]; rfl), HG2.out⟩
 | true =>
 cases e2 with
 | false =>
  go_wp2_with fail
  go_ret
  exact ⟨ret_b (by rw [HE.out]; rfl), HG2.out⟩
 | true =>
 go_wp2_with fail
 refine (H3.out _ HG2.out).mono ?_
 rintro e u3 ⟨rfl, hg⟩
 have hb1 := blk_keep HBB.out hg (fun e => e)
 have g0' := blk_cell hb1 0 (v := .slice A1 c.ws.length c1) rfl
 have g1' := blk_cell hb1 1 (v := .slice A2 c.ps.length c2) rfl
 have g2'' := blk_cell hb1 2 (v := .slice A3 c.cs.length c3) rfl
 have HG3 := Lib.hid (HG2.out.then_non hg)
 clear hg hb1
 cases e3 with
 | false =>
  go_wp2_with fail
  go_ret
  exact ⟨ret_b (by rw [HE.out]; rfl), HG3.out⟩
 | true =>
 go_wp2_with fail
 refine (H4.out _ HG3.out).mono ?_
 rintro e u4 ⟨rfl, hg⟩
 have HG4 := Lib.hid (HG3.out.then_non hg)
 clear hg
 go_wp2_with fail
 go_ret
 exact ⟨ret_b (by rw [HE.out]; simp), HG4.out⟩
end
end Go.Proofs.YtmnaleaghfbclaaGreatDoor
