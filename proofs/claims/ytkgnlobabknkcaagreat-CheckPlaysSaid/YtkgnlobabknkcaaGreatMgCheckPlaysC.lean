/- CheckPlays, part 3 of 27: contracts of the functions that it reaches, and the laws that they need, merged and shortened (from my texts XSMay, XR21m, XR21n). -/
import Derived.Test.YtkgnlobabknkcaaGreatMgCheckPlaysA
import Derived.Test.YtkgnlobabknkcaaGreatMgCheckPlaysB
namespace Go.Proofs.YtkgnlobabknkcaaGreat
set_option linter.unusedVariables false
set_option linter.unusedSimpArgs false
set_option maxHeartbeats 8000000
set_option maxRecDepth 100000
section
open Go.RowKit
def stepMay {α : Type} (ok : α → Bool) (id : α → Int) (l : List α) (k : Nat) : Bool :=
 match l[k]? with
 | none => true
 | some a => ok a && (match k with
   | 0 => true
   | j + 1 => match l[j]? with
     | none => true
     | some b => decide (id b < id a))
def mayL {α : Type} (ok : α → Bool) (id : α → Int) (l : List α) : Bool := (List.range l.length).all (stepMay ok id l)
section
variable {α : Type} {ok : α → Bool} {id : α → Int} {l : List α}
theorem mayL_no {k : Nat} {a : α} (ha : l[k]? = some a) (h : stepMay ok id l k = false) : mayL ok id l = false := by
 rw [mayL, List.all_eq_false]
 exact ⟨k, List.mem_range.2 (List.getElem?_eq_some_iff.1 ha).1, by rw [h]; simp⟩
theorem mayL_yes (h : ∀ j, j < l.length → stepMay ok id l j = true) : mayL ok id l = true := by
 rw [mayL, List.all_eq_true]
 exact fun j hj => h j (List.mem_range.1 hj)
theorem stepMay_bad {k : Nat} {a : α} (ha : l[k]? = some a) (h : ok a = false) : mayL ok id l = false := mayL_no ha (by simp [stepMay, ha, h])
theorem stepMay_prev {k : Nat} {a b : α} (ha : l[k + 1]? = some a) (hb : l[k]? = some b) (h : ¬ id b < id a) : mayL ok id l = false := mayL_no ha (by simp [stepMay, ha, hb]; intro _; omega)
theorem stepMay_zero {a : α} (ha : l[0]? = some a) (h : ok a = true) : stepMay ok id l 0 = true := by simp [stepMay, ha, h]
theorem stepMay_succ {k : Nat} {a b : α} (ha : l[k + 1]? = some a) (h : ok a = true) (hb : l[k]? = some b) (hi : id b < id a) : stepMay ok id l (k + 1) = true := by simp [stepMay, ha, hb, h, hi]
end
def mayS (s : Sta) : Bool := decide (0 ≤ s.frames) && decide (s.frames ≤ 1099511627776) && decide (s.parts.length ≤ 6) && decide (s.queues.length ≤ 8) && mayL partOk Pt.id s.parts && mayL mayQ (fun q : Qu => q.ch.id) s.queues
theorem smay_ok (I : Nat → Prop) (s : Sta) (vb vd : Value) (w : World) (h : StaV I w s vb vd) :
  Calls Tryz.prog 23 #[.agg #[.int .i64 s.frames, vb, vd]] w fun e w' => e = .returned (.bool (mayS s)) ∧ Chg Non w w' := by
 obtain ⟨⟨A, c, rfl, hc, hcm, hrp⟩, ⟨A2, c2, rfl, hc2, hcm2, hrq⟩⟩ := h
 unfold maxLen at hcm hcm2
 obtain ⟨boxS, hbox⟩ : ∃ o, Obj.cells #[.int .i64 s.frames, .slice A s.parts.length c, .slice A2 s.queues.length c2] 25 = o := ⟨_, rfl⟩
 have HBX : Hid ((w.alloc boxS).heap[w.heap.size]? = some (.cells #[.int .i64 s.frames, .slice A s.parts.length c, .slice A2 s.queues.length c2] 25 (0, 0))) := Lh (by rw [← hbox]; exact blk_new _ _)
 have HRP := Lh (hrp.non ((Chg.refl Non w).alloc boxS) (fun a vs h => ptV_non _ _ _ _ ((Chg.refl Non w).alloc boxS) h))
 have HRQ := Lh (hrq.non ((Chg.refl Non w).alloc boxS) (fun a vs h => quV_non _ _ _ _ ((Chg.refl Non w).alloc boxS) h))
 have HE : Hid (mayS s = (decide (0 ≤ s.frames) && decide (s.frames ≤ 1099511627776) && decide (s.parts.length ≤ 6) && decide (s.queues.length ≤ 8) && mayL partOk Pt.id s.parts && mayL mayQ (fun q : Qu => q.ch.id) s.queues)) := Lh rfl
 have b0 := blk_cell HBX.out 0 (v := .int .i64 s.frames) rfl
 have b1 := blk_cell HBX.out 1 (v := .slice A s.parts.length c) rfl
 have b2 := blk_cell HBX.out 2 (v := .slice A2 s.queues.length c2) rfl
 clear hrp hrq
 by_cases h0 : s.frames < 0
 ·have d0 : decide (s.frames < 0) = true := by simpa using h0
  have HE2 : Hid (mayS s = false) := Lh (by rw [HE.out, decide_eq_false (p := 0 ≤ s.frames) (by omega)]; rfl)
  clear HE
  go_enter Tryz.func23, Tryz.ntmps23
  go_wp2_with fail
  go_ret
  exact ⟨ret_b HE2.out.symm, (Chg.refl Non w).alloc _⟩
 have d0 : decide (s.frames < 0) = false := by simpa using h0
 by_cases h1 : 1099511627776 < s.frames
 ·have d1 : decide (1099511627776 < s.frames) = true := by simpa using h1
  have HE2 : Hid (mayS s = false) := Lh (by rw [HE.out, decide_eq_false (p := s.frames ≤ 1099511627776) (by omega)]; simp)
  clear HE
  go_enter Tryz.func23, Tryz.ntmps23
  go_wp2_with fail
  go_ret
  exact ⟨ret_b HE2.out.symm, (Chg.refl Non w).alloc _⟩
 have d1 : decide (1099511627776 < s.frames) = false := by simpa using h1
 by_cases h2 : 6 < s.parts.length
 ·have d2 : decide (6 < (s.parts.length : Int)) = true := by rw [decide_eq_true_eq]; omega
  have HE2 : Hid (mayS s = false) := Lh (by rw [HE.out, decide_eq_false (p := s.parts.length ≤ 6) (by omega)]; simp)
  clear HE
  go_enter Tryz.func23, Tryz.ntmps23
  go_wp2_with fail
  go_ret
  exact ⟨ret_b HE2.out.symm, (Chg.refl Non w).alloc _⟩
 have d2 : decide (6 < (s.parts.length : Int)) = false := by rw [decide_eq_false_iff_not]; omega
 by_cases h3 : 8 < s.queues.length
 ·have d3 : decide (8 < (s.queues.length : Int)) = true := by rw [decide_eq_true_eq]; omega
  have HE2 : Hid (mayS s = false) := Lh (by rw [HE.out, decide_eq_false (p := s.queues.length ≤ 8) (by omega)]; simp)
  clear HE
  go_enter Tryz.func23, Tryz.ntmps23
  go_wp2_with fail
  go_ret
  exact ⟨ret_b HE2.out.symm, (Chg.refl Non w).alloc _⟩
 have d3 : decide (8 < (s.queues.length : Int)) = false := by rw [decide_eq_false_iff_not]; omega
 have HEf : Hid (mayL partOk Pt.id s.parts = false → mayS s = false) := Lh (fun h => by rw [HE.out, h]; simp)
 go_enter Tryz.func23, Tryz.ntmps23
 go_wp2_with fail
 go_loopw [30] (fun iv wr => ∃ k : Nat, k ≤ s.parts.length ∧ iv = .int .i64 k ∧ Hid (∀ j, j < k → stepMay partOk Pt.id s.parts j = true) ∧ Hid (Chg Non (w.alloc boxS) wr)) (fun iv _ => s.parts.length - (intOf iv).toNat)
 case atStart => exact ⟨0, Nat.zero_le _, rfl, Lh (fun j h => by omega), Lh (by rw [← hbox]; exact Chg.refl _ _)⟩
 case round =>
  obtain ⟨k, hk, rfl, HN, HG⟩ := hrel
  have hbx0 := blk_keep HBX.out HG.out (fun e => e)
  have hlw : w.heap.size < wr.heap.size := blk_lt hbx0
  by_cases hlt : k < s.parts.length
  ·obtain ⟨a, ha⟩ : ∃ a, s.parts[k]? = some a := ⟨_, List.getElem?_eq_getElem hlt⟩
   have hltd : decide ((k : Int) < (s.parts.length : Int)) = true := by simpa using hlt
   obtain ⟨b, o, vs, rfl, _, hvl, hrg, hR⟩ := (HRP.out.non HG.out (fun a vs h => ptV_non _ _ _ _ HG.out h)) k a ha
   have hbl := rng_lt hrg (by omega)
   obtain ⟨mv, rfl, hmv, hbd, hml⟩ := hR
   have HA := Lh ha
   have HL := Lh hbd.r8
   have ho1 : mv.oneCell' = true := by obtain ⟨A, c, e, _⟩ := hmv; rw [e]; rfl
   have HM : Hid (∀ W : World, Calls Tryz.prog 58 #[.agg (partC a mv)] W fun e w' => e = .returned (.bool (partOk a)) ∧ Chg Non W w') := Lh (fun W => by
     obtain ⟨A, c, rfl, _⟩ := hmv
     exact spart_ok a A c W hbd.r8)
   obtain ⟨x, hx⟩ : ∃ x, a.id = x := ⟨_, rfl⟩
   obtain ⟨m, hm⟩ : ∃ m, partOk a = m := ⟨_, rfl⟩
   rw [hm] at HM
   have HMX := Lh (And.intro hm hx)
   have HRG := Lh hrg
   clear hm hrg hmv hml hbd ha
   go_wp2_with (first
     | (refine sel (some 34) (.load 104 _) ?_; refine wpList_load_mid rfl 104 (.tmp 33) rfl b (o + k * 14) rfl (partL a mv) _ HRG.out Tryz.underlying104 rfl (by rw [hvl]; exact info_part) ?_)
     | (refine sel none (.store 104 (.tmp 4) (.tmp 34)) ?_
        refine wpList_store_rowA rfl 104 (.tmp 4) (.tmp 34) rfl wr.heap.size (partC a mv) rfl rfl 104 zeroPart (blk_new _ _) (by rw [partC_size HL.out]; exact info_part) (by rw [partC_size HL.out]; rfl) (partC_one _ _ ho1) ?_
        intro W1 hgW hbW))
   obtain ⟨v, hv⟩ : ∃ v, v = W1.drew := ⟨_, rfl⟩
   have hv0 : v.heap[wr.heap.size]? = some (.cells (partC a mv) 104 (0, 0)) := by rw [hv]; exact hbW
   have hgv0 : Chg Non wr W1 := ((Chg.refl Non wr).alloc _).then_new hgW (fun x e => by omega)
   have hgv : Chg Non wr v := by rw [hv]; exact hgv0.drew
   have hpx : v.cell? ⟨wr.heap.size, 0, none⟩ = some (.int .i64 x) := by
    have := HMX.out.2
    subst this
    exact blk_cell hv0 0 rfl
   have hbx : v.cell? ⟨w.heap.size, 1, none⟩ = some (.slice (some ⟨b, o, none⟩) s.parts.length c) := blk_cell (blk_keep hbx0 hgv (fun e => e)) 1 rfl
   have HGV := Lh hgv
   have HG0 := Lh HG.out
   cases m with
   | false =>
    refine wp_region_held_drew (S := Chg Non W1.drew) (by kernel_rfl) (Chg.refl _ _) (fun hHeld => ?_)
    clear hHeld
    rw [← hv]
    clear hv
    refine h_load 0 (some 35) 104 (.tmp 4) wr.heap.size 0 (partC a mv) _ rfl (by kernel_rfl) (by kernel_rfl) (by kernel_rfl) (by kernel_rfl) (by kernel_rfl) (fun _ _ _ h => h) (by kernel_rfl) (by kernel_rfl) (fun W hW => range_keepS (blk_range hv0) hW (fun e => e)) Tryz.underlying104 rfl (by rw [partC_size HL.out]; exact info_part) (Chg.refl Non _) ?_
    simp only [Act.put, sA, sB, sC]
    refine h1o 1 rfl ?_
    intro K hK
    go_simp
    refine (HM.out _).mono ?_
    rintro e u1 ⟨rfl, hg⟩
    have HC1 := Lh (Chg.then_non (Chg.refl Non _) hg)
    clear hg
    refine hK.out _ _ HC1.out (fun _ => ?_)
    clear hK K
    try simp only [Act.put, sA, sB, sC]
    refine hp 2 37 (.bool true) rfl HC1.out ?_
    refine hp 3 38 (.bool true) rfl HC1.out ?_
    refine hs 4 39 rfl HC1.out ?_
    refine hs 5 40 rfl HC1.out ?_
    refine hs 6 41 rfl HC1.out ?_
    refine hs 7 42 rfl HC1.out ?_
    refine hs 8 43 rfl HC1.out ?_
    refine hs 9 44 rfl HC1.out ?_
    refine hs 10 45 rfl HC1.out ?_
    refine hs 11 46 rfl HC1.out ?_
    refine hs 12 47 rfl HC1.out ?_
    refine hs 13 48 rfl HC1.out ?_
    refine hs 14 49 rfl HC1.out ?_
    refine hs 15 50 rfl HC1.out ?_
    refine hs 16 51 rfl HC1.out ?_
    refine hs 17 52 rfl HC1.out ?_
    refine hp 18 53 (.bool true) rfl HC1.out ?_
    refine hdn ?_ _
    have HGn : Hid (Chg Non (w.alloc boxS) _) := Lh ((HG0.out.then_non HGV.out).then_non HC1.out)
    have HE2 : Hid (mayS s = false) := Lh (HEf.out (stepMay_bad (ok := partOk) (id := Pt.id) HA.out HMX.out.1))
    clear HEf
    go_wp2_with fail
    go_ret
    exact ⟨ret_b HE2.out.symm, ((Chg.refl Non w).alloc _).then_non HGn.out⟩
   | true =>
    cases k with
    | zero =>
     refine wp_region_held_drew (S := Chg Non W1.drew) (by kernel_rfl) (Chg.refl _ _) (fun hHeld => ?_)
     clear hHeld
     rw [← hv]
     clear hv
     refine h_load 0 (some 35) 104 (.tmp 4) wr.heap.size 0 (partC a mv) _ rfl (by kernel_rfl) (by kernel_rfl) (by kernel_rfl) (by kernel_rfl) (by kernel_rfl) (fun _ _ _ h => h) (by kernel_rfl) (by kernel_rfl) (fun W hW => range_keepS (blk_range hv0) hW (fun e => e)) Tryz.underlying104 rfl (by rw [partC_size HL.out]; exact info_part) (Chg.refl Non _) ?_
     simp only [Act.put, sA, sB, sC]
     refine h1o 1 rfl ?_
     intro K hK
     go_simp
     refine (HM.out _).mono ?_
     rintro e u1 ⟨rfl, hg⟩
     have HC1 := Lh (Chg.then_non (Chg.refl Non _) hg)
     clear hg
     refine hK.out _ _ HC1.out (fun _ => ?_)
     clear hK K
     try simp only [Act.put, sA, sB, sC]
     refine hp 2 37 (.bool false) rfl HC1.out ?_
     refine hp 3 38 (.bool false) rfl HC1.out ?_
     refine hp 4 39 (.int .i64 0) rfl HC1.out ?_
     refine hp 5 40 (.bool false) rfl HC1.out ?_ (he := (fun W hW => by go_simp; try omega))
     refine hp 6 41 (.bool false) rfl HC1.out ?_
     refine hs 7 42 rfl HC1.out ?_
     refine hs 8 43 rfl HC1.out ?_
     refine hs 9 44 rfl HC1.out ?_
     refine hs 10 45 rfl HC1.out ?_
     refine hs 11 46 rfl HC1.out ?_
     refine hs 12 47 rfl HC1.out ?_
     refine hs 13 48 rfl HC1.out ?_
     refine hs 14 49 rfl HC1.out ?_
     refine hs 15 50 rfl HC1.out ?_
     refine hs 16 51 rfl HC1.out ?_
     refine hp 17 52 (.bool false) rfl HC1.out ?_
     refine hp 18 53 (.bool false) rfl HC1.out ?_
     refine hdn ?_ _
     have HGn : Hid (Chg Non (w.alloc boxS) _) := Lh ((HG0.out.then_non HGV.out).then_non HC1.out)
     have hst := Lh (stepMay_zero (ok := partOk) (id := Pt.id) HA.out HMX.out.1)
     have HN2 : Hid (∀ j, j < 0 + 1 → stepMay partOk Pt.id s.parts j = true) := Lh (fun j hj => by
       by_cases e : j = 0
       · subst e; exact hst.out
       · exact HN.out j (by omega))
     clear hst
     go_wp2_with fail
     exact ⟨⟨0 + 1, by omega, by simp, HN2, HGn⟩, by simp [intOf]; omega⟩
    | succ k =>
     obtain ⟨a', ha'⟩ : ∃ a, s.parts[k]? = some a := ⟨_, List.getElem?_eq_getElem (by omega)⟩
     obtain ⟨y, hy⟩ : ∃ y, a'.id = y := ⟨_, rfl⟩
     have hpy : v.cell? ⟨b, o + k * 14, none⟩ = some (.int .i64 y) := by
      obtain ⟨b', o', vs', e, _, _, hrg', mv', rfl, _⟩ := (HRP.out.non HG.out (fun a vs h => ptV_non _ _ _ _ HG.out h)) k a' ha'
      injection e with e
      injection e with e1 e2 _
      subst e1 e2 hy
      exact hgv.cell_some (hrg' 0 _ rfl) (fun e => e)
     have HAY := Lh (And.intro ha' hy)
     have hk0 : (0 : Int) ≤ (k : Int) := by omega
     have hkl : (k : Int) < (s.parts.length : Int) := by omega
     clear ha' hy
     refine wp_region_held_drew (S := Chg Non W1.drew) (by kernel_rfl) (Chg.refl _ _) (fun hHeld => ?_)
     clear hHeld
     rw [← hv]
     clear hv
     refine h_load 0 (some 35) 104 (.tmp 4) wr.heap.size 0 (partC a mv) _ rfl (by kernel_rfl) (by kernel_rfl) (by kernel_rfl) (by kernel_rfl) (by kernel_rfl) (fun _ _ _ h => h) (by kernel_rfl) (by kernel_rfl) (fun W hW => range_keepS (blk_range hv0) hW (fun e => e)) Tryz.underlying104 rfl (by rw [partC_size HL.out]; exact info_part) (Chg.refl Non _) ?_
     simp only [Act.put, sA, sB, sC]
     refine h1o 1 rfl ?_
     intro K hK
     go_simp
     refine (HM.out _).mono ?_
     rintro e u1 ⟨rfl, hg⟩
     have HC1 := Lh (Chg.then_non (Chg.refl Non _) hg)
     clear hg
     refine hK.out _ _ HC1.out (fun _ => ?_)
     clear hK K
     try simp only [Act.put, sA, sB, sC]
     refine hp 2 37 (.bool false) rfl HC1.out ?_
     refine hp 3 38 (.bool false) rfl HC1.out ?_
     refine hp 4 39 (.int .i64 ((k : Int) + 1)) rfl HC1.out ?_
     refine hp 5 40 (.bool true) rfl HC1.out ?_ (he := (fun W hW => by go_simp; try omega))
     refine hp 6 41 (.bool true) rfl HC1.out ?_
     refine hp 7 42 (.pointer (some ⟨w.heap.size, 1, none⟩)) rfl HC1.out ?_
     refine hp 8 43 (.slice (some ⟨b, o, none⟩) s.parts.length c) rfl HC1.out ?_ (he := (fun W hW => by have hc := hW.cell_some hbx (fun e => e); go_simp))
     refine hp 9 44 (.int .i64 ((k : Int) + 1)) rfl HC1.out ?_
     refine hp 10 45 (.int .i64 (k : Int)) rfl HC1.out ?_ (he := (fun W hW => by go_simp; exact Go.IntWalk.i64_in _ (by omega)))
     refine hp 11 46 (.pointer (some ⟨b, o + k * 14, none⟩)) rfl HC1.out ?_
     refine hp 12 47 (.pointer (some ⟨b, o + k * 14, none⟩)) rfl HC1.out ?_
     refine hp 13 48 (.int .i64 y) rfl HC1.out ?_ (he := (fun W hW => by have hc := hW.cell_some hpy (fun e => e); go_simp))
     refine hp 14 49 (.pointer (some ⟨wr.heap.size, 0, none⟩)) rfl HC1.out ?_
     refine hp 15 50 (.int .i64 x) rfl HC1.out ?_ (he := (fun W hW => by have hc := hW.cell_some hpx (fun e => e); go_simp))
     refine hp 16 51 (.bool (decide (y ≥ x))) rfl HC1.out ?_
     refine hp 17 52 (.bool (decide (y ≥ x))) rfl HC1.out ?_
     refine hp 18 53 (.bool (decide (y ≥ x))) rfl HC1.out ?_
     refine hdn ?_ _
     have HGn : Hid (Chg Non (w.alloc boxS) _) := Lh ((HG0.out.then_non HGV.out).then_non HC1.out)
     by_cases hxy : y ≥ x
     ·have hxd : decide (x ≤ y) = true := by simpa using hxy
      have HE2 : Hid (mayS s = false) := Lh (HEf.out (stepMay_prev (ok := partOk) (id := Pt.id) HA.out HAY.out.1 (by rw [HMX.out.2, HAY.out.2]; omega)))
      clear HEf
      go_wp2_with fail
      go_ret
      exact ⟨ret_b HE2.out.symm, ((Chg.refl Non w).alloc _).then_non HGn.out⟩
     ·have hxd : decide (x ≤ y) = false := by simpa using hxy
      have hst := Lh (stepMay_succ (ok := partOk) (id := Pt.id) HA.out HMX.out.1 HAY.out.1 (by rw [HMX.out.2, HAY.out.2]; omega))
      have HN2 : Hid (∀ j, j < (k + 1) + 1 → stepMay partOk Pt.id s.parts j = true) := Lh (fun j hj => by
        by_cases e : j = (k + 1)
        · subst e; exact hst.out
        · exact HN.out j (by omega))
      clear hst
      go_wp2_with fail
      exact ⟨⟨(k + 1) + 1, by omega, by simp, HN2, HGn⟩, by simp [intOf]; omega⟩
  ·obtain rfl : k = s.parts.length := by omega
   have hltd : decide ((s.parts.length : Int) < (s.parts.length : Int)) = false := by simp
   have HEP := Lh (mayL_yes HN.out)
   have HEf : Hid (mayL mayQ (fun q : Qu => q.ch.id) s.queues = false → mayS s = false) := Lh (fun h => by rw [HE.out, h]; simp)
   have b2 := blk_cell hbx0 2 (v := .slice A2 s.queues.length c2) rfl
   clear hbx0
   go_wp2_with fail
   go_loopw [58] (fun iv wr => ∃ k : Nat, k ≤ s.queues.length ∧ iv = .int .i64 k ∧ Hid (∀ j, j < k → stepMay mayQ (fun q : Qu => q.ch.id) s.queues j = true) ∧ Hid (Chg Non (w.alloc boxS) wr)) (fun iv _ => s.queues.length - (intOf iv).toNat)
   case atStart => exact ⟨0, Nat.zero_le _, rfl, Lh (fun j h => by omega), HG⟩
   case round =>
    clear HN HG hlw
    obtain ⟨k, hk, rfl, HN, HG⟩ := hrel
    have hbx0 := blk_keep HBX.out HG.out (fun e => e)
    have hlw : w.heap.size < wr.heap.size := blk_lt hbx0
    by_cases hlt : k < s.queues.length
    ·obtain ⟨a, ha⟩ : ∃ a, s.queues[k]? = some a := ⟨_, List.getElem?_eq_getElem hlt⟩
     have hltd : decide ((k : Int) < (s.queues.length : Int)) = true := by simpa using hlt
     obtain ⟨b, o, vs, rfl, _, hvl, hrg, hR⟩ := (HRQ.out.non HG.out (fun a vs h => quV_non _ _ _ _ HG.out h)) k a ha
     have hbl := rng_lt hrg (by omega)
     obtain ⟨mv, rfl, hmv, hbd, hml⟩ := hR
     have HA := Lh ha
     have HM := Lh (fun W (hg : Chg Non wr W) => mayQueue_ok I a mv W (hmv.non hg (fun a vs h => msgV_non _ _ _ _ hg h)))
     have ho1 : mv.oneCell' = true := by obtain ⟨A, c, e, _⟩ := hmv; rw [e]; rfl
     obtain ⟨x, hx⟩ : ∃ x, a.ch.id = x := ⟨_, rfl⟩
     obtain ⟨m, hm⟩ : ∃ m, mayQ a = m := ⟨_, rfl⟩
     rw [hm] at HM
     have HMX := Lh (And.intro hm hx)
     have HRG := Lh hrg
     clear hm hrg hmv hml hbd ha
     go_wp2_with (first
       | (refine sel (some 62) (.load 110 _) ?_; refine wpList_load_mid rfl 110 (.tmp 61) rfl b (o + k * 6) rfl (a.L mv) _ HRG.out Tryz.underlying110 rfl (by kernel_rfl) ?_)
       | (refine sel none (.store 110 (.tmp 6) (.tmp 62)) ?_
          refine wpList_store_rowA rfl 110 (.tmp 6) (.tmp 62) rfl wr.heap.size (a.L mv).toArray rfl rfl 110 #[.int .i64 0, .int .i64 0, .int .i64 0, .int .i64 0, .int .i64 0, .slice none 0 0] (blk_new _ _) (by kernel_rfl) rfl (by simp [Qu.L, Value.oneCell']; exact ho1) ?_
          intro W1 hgW hbW))
     obtain ⟨v, hv⟩ : ∃ v, v = W1.drew := ⟨_, rfl⟩
     have hv0 : v.heap[wr.heap.size]? = some (.cells (a.L mv).toArray 110 (0, 0)) := by rw [hv]; exact hbW
     have hgv0 : Chg Non wr W1 := ((Chg.refl Non wr).alloc _).then_new hgW (fun x e => by omega)
     have hgv : Chg Non wr v := by rw [hv]; exact hgv0.drew
     have hpx : v.cell? ⟨wr.heap.size, 0, none⟩ = some (.int .i64 x) := by
      have := HMX.out.2
      subst this
      exact blk_cell hv0 0 rfl
     have hbx : v.cell? ⟨w.heap.size, 2, none⟩ = some (.slice (some ⟨b, o, none⟩) s.queues.length c2) := blk_cell (blk_keep hbx0 hgv (fun e => e)) 2 rfl
     have HGV := Lh hgv
     have HG0 := Lh HG.out
     cases m with
     | false =>
      refine wp_region_held_drew (S := Chg Non W1.drew) (by kernel_rfl) (Chg.refl _ _) (fun hHeld => ?_)
      clear hHeld
      rw [← hv]
      clear hv
      refine h_load 0 (some 63) 110 (.tmp 6) wr.heap.size 0 (a.L mv).toArray _ rfl (by kernel_rfl) (by kernel_rfl) (by kernel_rfl) (by kernel_rfl) (by kernel_rfl) (fun _ _ _ h => h) (by kernel_rfl) (by kernel_rfl) (fun W hW => range_keepS (blk_range hv0) hW (fun e => e)) Tryz.underlying110 rfl (by kernel_rfl) (Chg.refl Non _) ?_
      simp only [Act.put, sA, sB, sC]
      refine h1o 1 rfl ?_
      intro K hK
      go_simp
      refine (HM.out _ HGV.out).mono ?_
      rintro e u1 ⟨rfl, hg⟩
      have HC1 := Lh (Chg.then_non (Chg.refl Non _) hg)
      clear hg
      refine hK.out _ _ HC1.out (fun _ => ?_)
      clear hK K
      try simp only [Act.put, sA, sB, sC]
      refine hp 2 65 (.bool true) rfl HC1.out ?_
      refine hp 3 66 (.bool true) rfl HC1.out ?_
      refine hs 4 67 rfl HC1.out ?_
      refine hs 5 68 rfl HC1.out ?_
      refine hs 6 69 rfl HC1.out ?_
      refine hs 7 70 rfl HC1.out ?_
      refine hs 8 71 rfl HC1.out ?_
      refine hs 9 72 rfl HC1.out ?_
      refine hs 10 73 rfl HC1.out ?_
      refine hs 11 74 rfl HC1.out ?_
      refine hs 12 75 rfl HC1.out ?_
      refine hs 13 76 rfl HC1.out ?_
      refine hs 14 77 rfl HC1.out ?_
      refine hs 15 78 rfl HC1.out ?_
      refine hs 16 79 rfl HC1.out ?_
      refine hs 17 80 rfl HC1.out ?_
      refine hs 18 81 rfl HC1.out ?_
      refine hs 19 82 rfl HC1.out ?_
      refine hp 20 83 (.bool true) rfl HC1.out ?_
      refine hdn ?_ _
      have HGn : Hid (Chg Non (w.alloc boxS) _) := Lh ((HG0.out.then_non HGV.out).then_non HC1.out)
      have HE2 : Hid (mayS s = false) := Lh (HEf.out (stepMay_bad (ok := mayQ) (id := (fun q : Qu => q.ch.id)) HA.out HMX.out.1))
      clear HEf
      go_wp2_with fail
      go_ret
      exact ⟨ret_b HE2.out.symm, ((Chg.refl Non w).alloc _).then_non HGn.out⟩
     | true =>
      cases k with
      | zero =>
       refine wp_region_held_drew (S := Chg Non W1.drew) (by kernel_rfl) (Chg.refl _ _) (fun hHeld => ?_)
       clear hHeld
       rw [← hv]
       clear hv
       refine h_load 0 (some 63) 110 (.tmp 6) wr.heap.size 0 (a.L mv).toArray _ rfl (by kernel_rfl) (by kernel_rfl) (by kernel_rfl) (by kernel_rfl) (by kernel_rfl) (fun _ _ _ h => h) (by kernel_rfl) (by kernel_rfl) (fun W hW => range_keepS (blk_range hv0) hW (fun e => e)) Tryz.underlying110 rfl (by kernel_rfl) (Chg.refl Non _) ?_
       simp only [Act.put, sA, sB, sC]
       refine h1o 1 rfl ?_
       intro K hK
       go_simp
       refine (HM.out _ HGV.out).mono ?_
       rintro e u1 ⟨rfl, hg⟩
       have HC1 := Lh (Chg.then_non (Chg.refl Non _) hg)
       clear hg
       refine hK.out _ _ HC1.out (fun _ => ?_)
       clear hK K
       try simp only [Act.put, sA, sB, sC]
       refine hp 2 65 (.bool false) rfl HC1.out ?_
       refine hp 3 66 (.bool false) rfl HC1.out ?_
       refine hp 4 67 (.int .i64 0) rfl HC1.out ?_
       refine hp 5 68 (.bool false) rfl HC1.out ?_ (he := (fun W hW => by go_simp; try omega))
       refine hp 6 69 (.bool false) rfl HC1.out ?_
       refine hs 7 70 rfl HC1.out ?_
       refine hs 8 71 rfl HC1.out ?_
       refine hs 9 72 rfl HC1.out ?_
       refine hs 10 73 rfl HC1.out ?_
       refine hs 11 74 rfl HC1.out ?_
       refine hs 12 75 rfl HC1.out ?_
       refine hs 13 76 rfl HC1.out ?_
       refine hs 14 77 rfl HC1.out ?_
       refine hs 15 78 rfl HC1.out ?_
       refine hs 16 79 rfl HC1.out ?_
       refine hs 17 80 rfl HC1.out ?_
       refine hs 18 81 rfl HC1.out ?_
       refine hp 19 82 (.bool false) rfl HC1.out ?_
       refine hp 20 83 (.bool false) rfl HC1.out ?_
       refine hdn ?_ _
       have HGn : Hid (Chg Non (w.alloc boxS) _) := Lh ((HG0.out.then_non HGV.out).then_non HC1.out)
       have hst := Lh (stepMay_zero (ok := mayQ) (id := (fun q : Qu => q.ch.id)) HA.out HMX.out.1)
       have HN2 : Hid (∀ j, j < 0 + 1 → stepMay mayQ (fun q : Qu => q.ch.id) s.queues j = true) := Lh (fun j hj => by
         by_cases e : j = 0
         · subst e; exact hst.out
         · exact HN.out j (by omega))
       clear hst
       go_wp2_with fail
       exact ⟨⟨0 + 1, by omega, by simp, HN2, HGn⟩, by simp [intOf]; omega⟩
      | succ k =>
       obtain ⟨a', ha'⟩ : ∃ a, s.queues[k]? = some a := ⟨_, List.getElem?_eq_getElem (by omega)⟩
       obtain ⟨y, hy⟩ : ∃ y, a'.ch.id = y := ⟨_, rfl⟩
       have hpy : v.cell? ⟨b, o + k * 6, none⟩ = some (.int .i64 y) := by
        obtain ⟨b', o', vs', e, _, _, hrg', mv', rfl, _⟩ := (HRQ.out.non HG.out (fun a vs h => quV_non _ _ _ _ HG.out h)) k a' ha'
        injection e with e
        injection e with e1 e2 _
        subst e1 e2 hy
        exact hgv.cell_some (hrg' 0 _ rfl) (fun e => e)
       have HAY := Lh (And.intro ha' hy)
       have hk0 : (0 : Int) ≤ (k : Int) := by omega
       have hkl : (k : Int) < (s.queues.length : Int) := by omega
       clear ha' hy
       refine wp_region_held_drew (S := Chg Non W1.drew) (by kernel_rfl) (Chg.refl _ _) (fun hHeld => ?_)
       clear hHeld
       rw [← hv]
       clear hv
       refine h_load 0 (some 63) 110 (.tmp 6) wr.heap.size 0 (a.L mv).toArray _ rfl (by kernel_rfl) (by kernel_rfl) (by kernel_rfl) (by kernel_rfl) (by kernel_rfl) (fun _ _ _ h => h) (by kernel_rfl) (by kernel_rfl) (fun W hW => range_keepS (blk_range hv0) hW (fun e => e)) Tryz.underlying110 rfl (by kernel_rfl) (Chg.refl Non _) ?_
       simp only [Act.put, sA, sB, sC]
       refine h1o 1 rfl ?_
       intro K hK
       go_simp
       refine (HM.out _ HGV.out).mono ?_
       rintro e u1 ⟨rfl, hg⟩
       have HC1 := Lh (Chg.then_non (Chg.refl Non _) hg)
       clear hg
       refine hK.out _ _ HC1.out (fun _ => ?_)
       clear hK K
       try simp only [Act.put, sA, sB, sC]
       refine hp 2 65 (.bool false) rfl HC1.out ?_
       refine hp 3 66 (.bool false) rfl HC1.out ?_
       refine hp 4 67 (.int .i64 ((k : Int) + 1)) rfl HC1.out ?_
       refine hp 5 68 (.bool true) rfl HC1.out ?_ (he := (fun W hW => by go_simp; try omega))
       refine hp 6 69 (.bool true) rfl HC1.out ?_
       refine hp 7 70 (.pointer (some ⟨w.heap.size, 2, none⟩)) rfl HC1.out ?_
       refine hp 8 71 (.slice (some ⟨b, o, none⟩) s.queues.length c2) rfl HC1.out ?_ (he := (fun W hW => by have hc := hW.cell_some hbx (fun e => e); go_simp))
       refine hp 9 72 (.int .i64 ((k : Int) + 1)) rfl HC1.out ?_
       refine hp 10 73 (.int .i64 (k : Int)) rfl HC1.out ?_ (he := (fun W hW => by go_simp; exact Go.IntWalk.i64_in _ (by omega)))
       refine hp 11 74 (.pointer (some ⟨b, o + k * 6, none⟩)) rfl HC1.out ?_
       refine hp 12 75 (.pointer (some ⟨b, o + k * 6, none⟩)) rfl HC1.out ?_
       refine hp 13 76 (.pointer (some ⟨b, o + k * 6, none⟩)) rfl HC1.out ?_
       refine hp 14 77 (.int .i64 y) rfl HC1.out ?_ (he := (fun W hW => by have hc := hW.cell_some hpy (fun e => e); go_simp))
       refine hp 15 78 (.pointer (some ⟨wr.heap.size, 0, none⟩)) rfl HC1.out ?_
       refine hp 16 79 (.pointer (some ⟨wr.heap.size, 0, none⟩)) rfl HC1.out ?_
       refine hp 17 80 (.int .i64 x) rfl HC1.out ?_ (he := (fun W hW => by have hc := hW.cell_some hpx (fun e => e); go_simp))
       refine hp 18 81 (.bool (decide (y ≥ x))) rfl HC1.out ?_
       refine hp 19 82 (.bool (decide (y ≥ x))) rfl HC1.out ?_
       refine hp 20 83 (.bool (decide (y ≥ x))) rfl HC1.out ?_
       refine hdn ?_ _
       have HGn : Hid (Chg Non (w.alloc boxS) _) := Lh ((HG0.out.then_non HGV.out).then_non HC1.out)
       by_cases hxy : y ≥ x
       ·have hxd : decide (x ≤ y) = true := by simpa using hxy
        have HE2 : Hid (mayS s = false) := Lh (HEf.out (stepMay_prev (ok := mayQ) (id := (fun q : Qu => q.ch.id)) HA.out HAY.out.1 (by rw [HMX.out.2, HAY.out.2]; omega)))
        clear HEf
        go_wp2_with fail
        go_ret
        exact ⟨ret_b HE2.out.symm, ((Chg.refl Non w).alloc _).then_non HGn.out⟩
       ·have hxd : decide (x ≤ y) = false := by simpa using hxy
        have hst := Lh (stepMay_succ (ok := mayQ) (id := (fun q : Qu => q.ch.id)) HA.out HMX.out.1 HAY.out.1 (by rw [HMX.out.2, HAY.out.2]; omega))
        have HN2 : Hid (∀ j, j < (k + 1) + 1 → stepMay mayQ (fun q : Qu => q.ch.id) s.queues j = true) := Lh (fun j hj => by
          by_cases e : j = (k + 1)
          · subst e; exact hst.out
          · exact HN.out j (by omega))
        clear hst
        go_wp2_with fail
        exact ⟨⟨(k + 1) + 1, by omega, by simp, HN2, HGn⟩, by simp [intOf]; omega⟩
    ·obtain rfl : k = s.queues.length := by omega
     have hltd : decide ((s.queues.length : Int) < (s.queues.length : Int)) = false := by simp
     have HEQ := Lh (mayL_yes HN.out)
     have HE2 : Hid (mayS s = true) := Lh (by
       rw [HE.out, HEP.out, HEQ.out]
       simp
       omega)
     have HG0 := Lh HG.out
     go_wp2_with fail
     go_ret
     exact ⟨ret_b HE2.out.symm, ((Chg.refl Non w).alloc _).then_non HG0.out⟩
end
section
open Go.RowKit
theorem r08May (s : Int) (w : World) : Calls Tryz.prog 117 #[.agg #[.int .i64 0, .int .i64 s]] w fun e w' => e = .returned (.bool (regMay 0 s)) ∧ Chg Non w w' := by
 have HE : Hid (regMay 0 s = (decide (16 ≤ s) && decide (s ≤ 512) && decide (s % 4 = 0))) := Lh (by
   rw [Bool.eq_iff_iff, regMay_iff]
   simp only [Bool.and_eq_true, decide_eq_true_eq]
   constructor <;> intro h <;> refine ⟨?_, ?_⟩ <;> omega)
 obtain ⟨m, hm⟩ : ∃ m, regMay 0 s = m := ⟨_, rfl⟩
 rw [hm] at HE ⊢
 clear hm
 have t0 : Int.tmod 0 4 = 0 := rfl
 by_cases h1 : 16 ≤ s
 ·have d1 : decide (s ≥ 16) = true := by simpa using h1
  by_cases h2 : s ≤ 512
  ·have d2 : decide (s ≤ 512) = true := by simpa using h2
   have wt : s.tmod 4 = s % 4 := Int.tmod_eq_emod_of_nonneg (by omega)
   have ws : IntKind.i64.wrap (4096 - s) = 4096 - s := Go.IntWalk.i64_in _ (by omega)
   have d4 : decide (s ≤ 4096) = true := by simp; omega
   by_cases h3 : s % 4 = 0
   ·obtain rfl : m = true := by rw [HE.out]; simp [h1, h2, h3]
    have d3 : (s.tmod 4 == 0) = true := by rw [wt, h3]; rfl
    clear h1 h2 h3 HE wt
    go_enter Tryz.func117, Tryz.ntmps117
    go_wp2
    go_ret
    exact ⟨rfl, (Chg.refl Non w).alloc _⟩
   ·obtain rfl : m = false := by rw [HE.out]; simp [h3]
    have d3 : (s.tmod 4 == 0) = false := by rw [wt]; simpa using h3
    clear h1 h2 h3 HE wt
    go_enter Tryz.func117, Tryz.ntmps117
    go_wp2
    go_ret
    exact ⟨rfl, (Chg.refl Non w).alloc _⟩
  ·have d2 : decide (s ≤ 512) = false := by simpa using h2
   obtain rfl : m = false := by rw [HE.out, d2]; simp
   clear h1 h2 HE
   go_enter Tryz.func117, Tryz.ntmps117
   go_wp2
   go_ret
   exact ⟨rfl, (Chg.refl Non w).alloc _⟩
 ·have d1 : decide (s ≥ 16) = false := by simpa using h1
  obtain rfl : m = false := by rw [HE.out]; simp [h1]
  clear h1 HE
  go_enter Tryz.func117, Tryz.ntmps117
  go_wp2
  go_ret
  exact ⟨rfl, (Chg.refl Non w).alloc _⟩
def inB (x lo hi : Int) : Bool := decide (lo ≤ x) && decide (x ≤ hi)
theorem r10in (x lo hi : Int) (w : World) : Calls Tryz.prog 188 #[.int .i64 x, .int .i64 lo, .int .i64 hi] w fun e w' => e = .returned (.bool (inB x lo hi)) ∧ w = w' := by
 unfold inB
 by_cases h1 : lo ≤ x
 ·have d1 : decide (x ≥ lo) = true := by simpa using h1
  obtain ⟨m, hm⟩ : ∃ m, decide (x ≤ hi) = m := ⟨_, rfl⟩
  rw [decide_eq_true h1, hm]
  clear h1
  go_enter Tryz.func188, Tryz.ntmps188
  go_wp2
  go_ret
  exact ⟨by simp, rfl⟩
 ·have d1 : decide (x ≥ lo) = false := by simpa using h1
  rw [decide_eq_false h1]
  clear h1
  go_enter Tryz.func188, Tryz.ntmps188
  go_wp2
  go_ret
  exact ⟨rfl, rfl⟩
theorem r10May (id src dst cap size : Int) (w : World) :
  Calls Tryz.prog 151 #[.agg #[.int .i64 id, .int .i64 src, .int .i64 dst, .int .i64 cap, .int .i64 size]] w fun e w' => e = .returned (.bool (chMay id src dst cap size)) ∧ Chg Non w w' := by
 have H := Lh (fun x lo hi W => r10in x lo hi W)
 have HE : Hid (chMay id src dst cap size = (inB id 1 8 && (inB src 1 6 && (inB dst 1 6 && (decide (src ≠ dst) && (inB cap 1 4 && inB size 1 16)))))) := Lh (by
   unfold chMay chPart inB
   rw [Bool.eq_iff_iff]
   simp only [Bool.and_eq_true, decide_eq_true_eq]
   constructor <;> intro h <;> simp_all)
 obtain ⟨m, hm⟩ : ∃ m, chMay id src dst cap size = m := ⟨_, rfl⟩
 rw [hm] at HE ⊢
 clear hm
 obtain ⟨m1, h1⟩ : ∃ m, inB id 1 8 = m := ⟨_, rfl⟩
 obtain ⟨m2, h2⟩ : ∃ m, inB src 1 6 = m := ⟨_, rfl⟩
 obtain ⟨m3, h3⟩ : ∃ m, inB dst 1 6 = m := ⟨_, rfl⟩
 obtain ⟨m4, h4⟩ : ∃ m, decide (src ≠ dst) = m := ⟨_, rfl⟩
 obtain ⟨m5, h5⟩ : ∃ m, inB cap 1 4 = m := ⟨_, rfl⟩
 obtain ⟨m6, h6⟩ : ∃ m, inB size 1 16 = m := ⟨_, rfl⟩
 have H1 := Lh h1
 have H2 := Lh h2
 have H3 := Lh h3
 have H5 := Lh h5
 have H6 := Lh h6
 have d4 : (src != dst) = m4 := by rw [← h4, Bool.eq_iff_iff]; simp
 rw [h1, h2, h3, h4, h5, h6] at HE
 clear h1 h2 h3 h4 h5 h6
 go_enter Tryz.func151, Tryz.ntmps151
 go_wp2_with fail
 refine (H.out _ _ _ _).mono ?_
 rintro e u ⟨rfl, rfl⟩
 rw [H1.out]
 cases m1 with
 | false =>
  go_wp2_with fail
  go_ret
  exact ⟨ret_b (by rw [HE.out]; simp), (Chg.refl Non w).alloc _⟩
 | true =>
  go_wp2_with fail
  refine (H.out _ _ _ _).mono ?_
  rintro e u ⟨rfl, rfl⟩
  rw [H2.out]
  cases m2 with
  | false =>
   go_wp2_with fail
   go_ret
   exact ⟨ret_b (by rw [HE.out]; simp), (Chg.refl Non w).alloc _⟩
  | true =>
   go_wp2_with fail
   refine (H.out _ _ _ _).mono ?_
   rintro e u ⟨rfl, rfl⟩
   rw [H3.out]
   cases m3 with
   | false =>
    go_wp2_with fail
    go_ret
    exact ⟨ret_b (by rw [HE.out]; simp), (Chg.refl Non w).alloc _⟩
   | true =>
    cases m4 with
    | false =>
     go_wp2_with fail
     go_ret
     exact ⟨ret_b (by rw [HE.out]; simp), (Chg.refl Non w).alloc _⟩
    | true =>
     go_wp2_with fail
     refine (H.out _ _ _ _).mono ?_
     rintro e u ⟨rfl, rfl⟩
     rw [H5.out]
     cases m5 with
     | false =>
      go_wp2_with fail
      go_ret
      exact ⟨ret_b (by rw [HE.out]; simp), (Chg.refl Non w).alloc _⟩
     | true =>
      go_wp2_with fail
      refine (H.out _ _ _ _).mono ?_
      rintro e u ⟨rfl, rfl⟩
      rw [H6.out]
      go_wp2_with fail
      go_ret
      exact ⟨ret_b (by rw [HE.out]; simp), (Chg.refl Non w).alloc _⟩
theorem r10MayQueue (I : Nat → Prop) (q : Qu) (v : Value) (w : World) (h : SlV (msgV I) I 1 w q.msgs v) :
  Calls Tryz.prog 118 #[.agg (q.L v).toArray] w fun e w' => e = .returned (.bool (mayQ q)) ∧ Chg Non w w' := by
 obtain ⟨A, c, rfl, hc, hcm, hr⟩ := h
 have HR := Lh (fun W (hg : Chg Non w W) => hr.keep hg (fun _ _ e => e) (fun a vs _ h => msgV.keep h hg (fun _ _ e => e)))
 have HM := Lh (fun W => r10May q.ch.id q.ch.src q.ch.dst q.ch.cap q.ch.size W)
 have HE : Hid (mayQ q = (q.ch.may && decide ((q.msgs.length : Int) ≤ q.ch.cap) && !q.msgs.any fun m => decide (q.ch.size < (m.length : Int)))) := Lh rfl
 unfold maxLen at hcm
 clear hr
 obtain ⟨⟨i, s, d, cap, sz⟩, ms⟩ := q
 simp only [Ch.may] at *
 obtain ⟨m, hm⟩ : ∃ m, chMay i s d cap sz = m := ⟨_, rfl⟩
 rw [hm] at HM HE
 clear hm
 show Calls _ _ #[.agg #[.int .i64 i, .int .i64 s, .int .i64 d, .int .i64 cap, .int .i64 sz, .slice A ms.length c]] _ _
 go_enter Tryz.func118, Tryz.ntmps118
 go_wp2_with fail
 refine (HM.out _).mono ?_
 rintro e u ⟨rfl, hg⟩
 have hb := blk_call hg
 have HB := Lh hb
 have HG := Lh (((Chg.refl Non w).alloc _).then_non hg)
 have k3 := blk_cell hb 3 (v := .int .i64 cap) rfl
 have k5 := blk_cell hb 5 (v := .slice A ms.length c) rfl
 clear hg hb
 cases m with
 | false =>
  go_wp2_with fail
  go_ret
  exact ⟨ret_b (by rw [HE.out]; rfl), HG.out⟩
 | true =>
  by_cases h1 : (ms.length : Int) ≤ cap
  ·have d1 : decide ((ms.length : Int) > cap) = false := by simp; omega
   have d1' : decide ((ms.length : Int) ≤ cap) = true := by simpa using h1
   clear h1
   go_wp2_with fail
   go_loopw [3] (fun iv wr => ∃ k : Nat, k ≤ ms.length ∧ iv = .int .i64 k ∧ Hid (∀ (j : Nat) (a : List UInt8), j < k → ms[j]? = some a → ¬ sz < (a.length : Int)) ∧ Hid (Chg Non u wr)) (fun iv _ => ms.length - (intOf iv).toNat)
   case atStart => exact ⟨0, Nat.zero_le _, rfl, Lh (fun j a h => by omega), Lh (Chg.refl _ _)⟩
   case round =>
    obtain ⟨k, hk, rfl, HN, HC⟩ := hrel
    have c5 := blk_cell (blk_keep HB.out HC.out (fun e => e)) 5 (v := .slice A ms.length c) rfl
    by_cases hlt : k < ms.length
    ·have hltd : decide ((k : Int) < (ms.length : Int)) = true := by simpa using hlt
     go_wp2_with fail
     obtain ⟨V, hV⟩ : ∃ V, V = wr.drew := ⟨_, rfl⟩
     have hgV : Chg Non u V := by rw [hV]; exact HC.out.drew
     have HGV := Lh hgV
     obtain ⟨a, ha⟩ : ∃ a, ms[k]? = some a := ⟨_, List.getElem?_eq_getElem hlt⟩
     obtain ⟨b1, o1, vs1, rfl, _, hl1, hcell1, m1, rfl, ⟨Am, cm, rfl, _, _, _, _⟩, _⟩ := HR.out V (HG.out.then_non hgV) k a ha
     have k1 := hcell1 0 _ rfl
     rw [Nat.mul_one, Nat.add_zero] at k1
     have K1 := Lh k1
     have D1 := Lh (blk_cell (blk_keep HB.out hgV (fun e => e)) 5 (v := .slice (some ⟨b1, o1, none⟩) ms.length c) rfl)
     have D2 := Lh (blk_cell (blk_keep HB.out hgV (fun e => e)) 4 (v := .int .i64 sz) rfl)
     have HA := Lh ha
     obtain ⟨x, hx⟩ : ∃ x, decide ((a.length : Int) > sz) = x := ⟨_, rfl⟩
     have HX := Lh hx
     clear hgV ha hl1 hcell1 k1 c5 hltd
     refine wp_region_held_drew (S := Chg Non V) (by kernel_rfl) (by rw [hV]; exact Chg.refl _ _) (fun hHeld => ?_)
     clear hHeld
     rw [← hV]
     clear hV
     have HS : Hid (Chg Non V V) := Lh (Chg.refl _ _)
     refine hp 0 24 (.pointer (some ⟨w.heap.size, 5, none⟩)) rfl HS.out ?_
     refine hp 1 25 (.slice (some ⟨b1, o1, none⟩) ms.length c) rfl HS.out ?_ (he := fun W hW => by have hc := hW.cell_some D1.out (fun e => e); go_simp)
     refine hp 2 26 (.int .i64 (k : Int)) rfl HS.out ?_
     refine hp 3 27 (.pointer (some ⟨b1, o1 + k, none⟩)) rfl HS.out ?_
     refine hp 4 28 (.slice Am a.length cm) rfl HS.out ?_ (he := fun W hW => by have hc := hW.cell_some K1.out (fun e => e); go_simp)
     refine hp 5 29 (.int .i64 (a.length : Int)) rfl HS.out ?_
     refine hp 6 30 (.pointer (some ⟨w.heap.size, 0, none⟩)) rfl HS.out ?_
     refine hp 7 31 (.pointer (some ⟨w.heap.size, 4, none⟩)) rfl HS.out ?_
     refine hp 8 32 (.int .i64 sz) rfl HS.out ?_ (he := fun W hW => by have hc := hW.cell_some D2.out (fun e => e); go_simp)
     refine hp 9 33 (.bool x) rfl HS.out ?_ (he := fun W hW => by have hc := HX.out; go_simp)
     refine hdn ?_ _
     cases x with
     | true =>
      have HF : Hid (mayQ ⟨⟨i, s, d, cap, sz⟩, ms⟩ = false) := Lh (by
        rw [HE.out, d1', List.any_eq_true.2 ⟨a, List.mem_of_getElem? HA.out, by have := HX.out; simpa using this⟩]; rfl)
      go_wp2_with fail
      go_ret
      exact ⟨ret_b HF.out.symm, HG.out.then_non HGV.out⟩
     | false =>
      go_wp2_with fail
      refine ⟨⟨k + 1, by omega, by simp, Lh (fun j b hj hb => ?_), HGV⟩, by simp [intOf]; omega⟩
      by_cases e : j < k
      ·have := HN.out j b e hb
       omega
      ·obtain rfl : j = k := by omega
       have h2 := HA.out
       rw [hb] at h2
       injection h2 with h2
       subst h2
       have := HX.out
       simp at this
       omega
    ·obtain rfl : k = ms.length := by omega
     have hltd : decide ((ms.length : Int) < (ms.length : Int)) = false := by simp
     have HF : Hid (mayQ ⟨⟨i, s, d, cap, sz⟩, ms⟩ = true) := Lh (by
       rw [HE.out, d1', List.any_eq_false.2 (fun a ha => by
         obtain ⟨j, hj⟩ := List.mem_iff_getElem?.1 ha
         have := HN.out j a (List.getElem?_eq_some_iff.1 hj).1 hj
         simpa using this)]; rfl)
     go_wp2_with fail
     go_ret
     exact ⟨ret_b HF.out.symm, HG.out.then_non HC.out⟩
  ·have d1 : decide ((ms.length : Int) > cap) = true := by simp; omega
   have d1' : decide ((ms.length : Int) ≤ cap) = false := by simpa using h1
   clear h1
   go_wp2_with fail
   go_ret
   exact ⟨ret_b (by rw [HE.out, d1']; rfl), HG.out⟩
end
section
open Go.RowKit
def lastOf {α : Type} (id : α → Int) (l : List α) : Nat → Int
 | 0 => 0
 | j + 1 => match l[j]? with | some b => id b | none => 0
theorem stepMay_last {α : Type} {ok : α → Bool} {id : α → Int} {l : List α} {k : Nat} {a : α} (ha : l[k]? = some a) (h : ok a = true → 1 ≤ id a) : stepMay ok id l k = (ok a && decide (lastOf id l k < id a)) := by
 cases k with
 | zero =>
  unfold stepMay lastOf
  rw [ha]
  simp only [Bool.and_true]
  cases ho : ok a with
  | false => rfl
  | true => have := h ho; rw [decide_eq_true (by omega)]; rfl
 | succ j =>
  obtain ⟨b, hb⟩ : ∃ b, l[j]? = some b := ⟨_, List.getElem?_eq_getElem (by have := (List.getElem?_eq_some_iff.1 ha).1; omega)⟩
  simp only [stepMay, lastOf, ha, hb]
theorem lastOf_succ {α : Type} {id : α → Int} {l : List α} {k : Nat} {a : α} (ha : l[k]? = some a) : lastOf id l (k + 1) = id a := by simp only [lastOf, ha]
theorem partOk_id {p : Pt} (h : partOk p = true) : 1 ≤ p.id := by
 unfold partOk at h
 simp only [Bool.and_eq_true, decide_eq_true_eq] at h
 exact h.1.1.1.1
theorem mayQ_id {q : Qu} (h : mayQ q = true) : 1 ≤ q.ch.id := by
 unfold mayQ Ch.may chMay at h
 simp only [Bool.and_eq_true, decide_eq_true_eq] at h
 exact h.1.1.1.1.1.1.1.1.1.1
theorem r21May (I : Nat → Prop) (s : Sta) (vb vd : Value) (w : World) (h : StaV I w s vb vd) :
  Calls Tryz.prog 86 #[.agg #[.int .i64 s.frames, vb, vd]] w fun e w' => e = .returned (.bool (mayS s)) ∧ Chg Non w w' := by
 obtain ⟨⟨A, c, rfl, hc, hcm, hrp⟩, ⟨A2, c2, rfl, hc2, hcm2, hrq⟩⟩ := h
 unfold maxLen at hcm hcm2
 obtain ⟨boxS, hbox⟩ : ∃ o, Obj.cells #[.int .i64 s.frames, .slice A s.parts.length c, .slice A2 s.queues.length c2] 25 = o := ⟨_, rfl⟩
 have HBX : Hid ((w.alloc boxS).heap[w.heap.size]? = some (.cells #[.int .i64 s.frames, .slice A s.parts.length c, .slice A2 s.queues.length c2] 25 (0, 0))) := Lh (by rw [← hbox]; exact blk_new _ _)
 have HRP := Lh (hrp.non ((Chg.refl Non w).alloc boxS) (fun a vs h => ptV_non _ _ _ _ ((Chg.refl Non w).alloc boxS) h))
 have HRQ := Lh (hrq.non ((Chg.refl Non w).alloc boxS) (fun a vs h => quV_non _ _ _ _ ((Chg.refl Non w).alloc boxS) h))
 have HE : Hid (mayS s = (decide (0 ≤ s.frames) && decide (s.frames ≤ 1099511627776) && decide (s.parts.length ≤ 6) && decide (s.queues.length ≤ 8) && mayL partOk Pt.id s.parts && mayL mayQ (fun q : Qu => q.ch.id) s.queues)) := Lh rfl
 have b0 := blk_cell HBX.out 0 (v := .int .i64 s.frames) rfl
 have b1 := blk_cell HBX.out 1 (v := .slice A s.parts.length c) rfl
 have b2 := blk_cell HBX.out 2 (v := .slice A2 s.queues.length c2) rfl
 clear hrp hrq
 by_cases h0 : s.frames < 0
 ·have d0 : decide (s.frames < 0) = true := by rw [decide_eq_true_eq]; omega
  have HE2 : Hid (mayS s = false) := Lh (by rw [HE.out, decide_eq_false (p := 0 ≤ s.frames) (by omega)]; simp)
  clear HE
  go_enter Tryz.func86, Tryz.ntmps86
  go_wp2_with fail
  go_ret
  exact ⟨ret_b HE2.out.symm, (Chg.refl Non w).alloc _⟩
 have d0 : decide (s.frames < 0) = false := by rw [decide_eq_false_iff_not]; omega
 by_cases h1 : 1099511627776 < s.frames
 ·have d1 : decide (1099511627776 < s.frames) = true := by rw [decide_eq_true_eq]; omega
  have HE2 : Hid (mayS s = false) := Lh (by rw [HE.out, decide_eq_false (p := s.frames ≤ 1099511627776) (by omega)]; simp)
  clear HE
  go_enter Tryz.func86, Tryz.ntmps86
  go_wp2_with fail
  go_ret
  exact ⟨ret_b HE2.out.symm, (Chg.refl Non w).alloc _⟩
 have d1 : decide (1099511627776 < s.frames) = false := by rw [decide_eq_false_iff_not]; omega
 by_cases h2 : 6 < s.parts.length
 ·have d2 : decide (6 < (s.parts.length : Int)) = true := by rw [decide_eq_true_eq]; omega
  have HE2 : Hid (mayS s = false) := Lh (by rw [HE.out, decide_eq_false (p := s.parts.length ≤ 6) (by omega)]; simp)
  clear HE
  go_enter Tryz.func86, Tryz.ntmps86
  go_wp2_with fail
  go_ret
  exact ⟨ret_b HE2.out.symm, (Chg.refl Non w).alloc _⟩
 have d2 : decide (6 < (s.parts.length : Int)) = false := by rw [decide_eq_false_iff_not]; omega
 by_cases h3 : 8 < s.queues.length
 ·have d3 : decide (8 < (s.queues.length : Int)) = true := by rw [decide_eq_true_eq]; omega
  have HE2 : Hid (mayS s = false) := Lh (by rw [HE.out, decide_eq_false (p := s.queues.length ≤ 8) (by omega)]; simp)
  clear HE
  go_enter Tryz.func86, Tryz.ntmps86
  go_wp2_with fail
  go_ret
  exact ⟨ret_b HE2.out.symm, (Chg.refl Non w).alloc _⟩
 have d3 : decide (8 < (s.queues.length : Int)) = false := by rw [decide_eq_false_iff_not]; omega
 have HEf : Hid (mayL partOk Pt.id s.parts = false → mayS s = false) := Lh (fun h => by rw [HE.out, h]; simp)
 have HEg : Hid (mayL mayQ (fun q : Qu => q.ch.id) s.queues = false → mayS s = false) := Lh (fun h => by rw [HE.out, h]; simp)
 have HEt : Hid (mayL partOk Pt.id s.parts = true → mayL mayQ (fun q : Qu => q.ch.id) s.queues = true → mayS s = true) := Lh (fun h h' => by rw [HE.out, h, h']; simp; omega)
 clear HE
 go_enter Tryz.func86, Tryz.ntmps86
 go_wp2_with fail
 go_loopw [4, 3] (fun iv sv wr => ∃ k : Nat, k ≤ s.parts.length ∧ iv = .int .i64 k ∧ sv = .int .i64 (lastOf Pt.id s.parts k) ∧ Hid (∀ j, j < k → stepMay partOk Pt.id s.parts j = true) ∧ Hid (Chg Non (w.alloc boxS) wr)) (fun iv _ _ => s.parts.length - (intOf iv).toNat)
 case atStart => exact ⟨0, Nat.zero_le _, rfl, rfl, Lh (fun j h => by omega), Lh (by rw [← hbox]; exact Chg.refl _ _)⟩
 case round =>
  obtain ⟨k, hk, rfl, rfl, HN, HG⟩ := hrel
  have hbx0 := blk_keep HBX.out HG.out (fun e => e)
  have hlw : w.heap.size < wr.heap.size := blk_lt hbx0
  have b1 := blk_cell hbx0 1 (v := .slice A s.parts.length c) rfl
  have b2 := blk_cell hbx0 2 (v := .slice A2 s.queues.length c2) rfl
  by_cases hlt : k < s.parts.length
  ·obtain ⟨a, ha⟩ : ∃ a, s.parts[k]? = some a := ⟨_, List.getElem?_eq_getElem hlt⟩
   have hltd : decide ((k : Int) < (s.parts.length : Int)) = true := by simpa using hlt
   obtain ⟨b, o, vs, rfl, _, hvl, hrg, hR⟩ := (HRP.out.non HG.out (fun a vs h => ptV_non _ _ _ _ HG.out h)) k a ha
   have hbl := rng_lt hrg (by omega)
   obtain ⟨mv, rfl, ⟨Am, cm, hmv, _⟩, hbd, hml⟩ := hR
   have HA := Lh ha
   have HL := Lh hbd.r8
   have HV := Lh hvl
   have ho1 : mv.oneCell' = true := by rw [hmv]; rfl
   have HMV := Lh hmv
   have HST0 := hbd.stb
   have HM := Lh (fun W => r08May a.size W)
   have HRG := Lh hrg
   obtain ⟨x, hx⟩ : ∃ x, lastOf Pt.id s.parts k = x := ⟨_, rfl⟩
   obtain ⟨i, hi⟩ : ∃ x, a.id = x := ⟨_, rfl⟩
   obtain ⟨z, hz⟩ : ∃ x, a.size = x := ⟨_, rfl⟩
   obtain ⟨st, hst⟩ : ∃ x, a.st = x := ⟨_, rfl⟩
   obtain ⟨n, hn⟩ : ∃ x, a.mem.length = x := ⟨_, rfl⟩
   rw [hn] at HMV
   have HSt : Hid (stepMay partOk Pt.id s.parts k = (decide (1 ≤ i) && decide (i ≤ 6) && regMay 0 z && decide ((n : Int) = z) && decide ((st : Int) ≤ 4) && decide (x < i))) := Lh (by rw [stepMay_last ha partOk_id, partOk, hx, hi, hz, hst, hn])
   have hx0 : Hid (0 ≤ x) := Lh (by
     rw [← hx]
     cases k with
     | zero => exact Int.le_refl _
     | succ j =>
       obtain ⟨b', hb'⟩ : ∃ b', s.parts[j]? = some b' := ⟨_, List.getElem?_eq_getElem (by omega)⟩
       rw [lastOf_succ hb']
       have hj := HN.out j (by omega)
       rw [stepMay_last hb' partOk_id, Bool.and_eq_true] at hj
       have := partOk_id hj.1
       omega)
   have HBad : Hid (stepMay partOk Pt.id s.parts k = false → mayS s = false) := Lh (fun e => HEf.out (mayL_no HA.out e))
   have HLa : Hid (lastOf Pt.id s.parts (k + 1) = i) := Lh (by rw [lastOf_succ HA.out, hi])
   have HID := Lh hi
   have HSZ := Lh hz
   have HST := Lh hst
   rw [hz] at HM
   rw [hst] at HST0
   rw [hx]
   clear hrg hmv hbd ha hvl hi hz hst hx hn hml b0
   by_cases h4 : i ≤ x
   ·have d4 : decide (i ≤ x) = true := by simpa using h4
    have HF : Hid (mayS s = false) := Lh (HBad.out (by rw [HSt.out, decide_eq_false (p := x < i) (by omega)]; simp))
    go_wp2_with (first
      | (refine sel (some 38) (.load 104 _) ?_; refine wpList_load_mid rfl 104 (.tmp 37) rfl b (o + k * 14) rfl (partL a mv) _ HRG.out Tryz.underlying104 rfl (by rw [HV.out]; exact info_part) ?_)
      | (refine sel none (.store 104 (.tmp 5) (.tmp 38)) ?_
         refine wpList_store_rowA rfl 104 (.tmp 5) (.tmp 38) rfl wr.heap.size (partC a mv) rfl rfl 104 zeroPart (blk_new _ _) (by rw [partC_size HL.out]; exact info_part) (by rw [partC_size HL.out]; rfl) (partC_one _ _ ho1) ?_
         intro W1 hgW hbW
         have hgv : Chg Non wr W1 := ((Chg.refl Non wr).alloc _).then_new hgW (fun x e => by omega)
         have HGV := Lh hgv
         have hPB : PartB W1 wr.heap.size a mv := ⟨hbW, HL.out⟩
         have HPB := Lh hPB
         obtain ⟨k0, k1, _, _, k12, k13⟩ := hPB.cells
         rw [HID.out] at k0
         rw [HSZ.out] at k1
         rw [HST.out] at k12
         rw [HMV.out] at k13
         clear hgW hbW hPB hgv))
    go_ret
    exact ⟨ret_b HF.out.symm, ((Chg.refl Non w).alloc _).then_non (HG.out.then_non HGV.out)⟩
   have d4 : decide (i ≤ x) = false := by simpa using h4
   by_cases h5 : 6 < i
   ·have d5 : decide (6 < i) = true := by simpa using h5
    have HF : Hid (mayS s = false) := Lh (HBad.out (by rw [HSt.out, decide_eq_false (p := i ≤ 6) (by omega)]; simp))
    go_wp2_with (first
      | (refine sel (some 38) (.load 104 _) ?_; refine wpList_load_mid rfl 104 (.tmp 37) rfl b (o + k * 14) rfl (partL a mv) _ HRG.out Tryz.underlying104 rfl (by rw [HV.out]; exact info_part) ?_)
      | (refine sel none (.store 104 (.tmp 5) (.tmp 38)) ?_
         refine wpList_store_rowA rfl 104 (.tmp 5) (.tmp 38) rfl wr.heap.size (partC a mv) rfl rfl 104 zeroPart (blk_new _ _) (by rw [partC_size HL.out]; exact info_part) (by rw [partC_size HL.out]; rfl) (partC_one _ _ ho1) ?_
         intro W1 hgW hbW
         have hgv : Chg Non wr W1 := ((Chg.refl Non wr).alloc _).then_new hgW (fun x e => by omega)
         have HGV := Lh hgv
         have hPB : PartB W1 wr.heap.size a mv := ⟨hbW, HL.out⟩
         have HPB := Lh hPB
         obtain ⟨k0, k1, _, _, k12, k13⟩ := hPB.cells
         rw [HID.out] at k0
         rw [HSZ.out] at k1
         rw [HST.out] at k12
         rw [HMV.out] at k13
         clear hgW hbW hPB hgv))
    go_ret
    exact ⟨ret_b HF.out.symm, ((Chg.refl Non w).alloc _).then_non (HG.out.then_non HGV.out)⟩
   have d5 : decide (6 < i) = false := by simpa using h5
   have hx1 := hx0.out
   have HS2 : Hid (stepMay partOk Pt.id s.parts k = (regMay 0 z && decide ((n : Int) = z) && decide ((st : Int) ≤ 4))) := Lh (by
     rw [HSt.out, decide_eq_true (p := 1 ≤ i) (by omega), decide_eq_true (p := i ≤ 6) (by omega), decide_eq_true (p := x < i) (by omega)]; simp)
   obtain ⟨m, hm⟩ : ∃ m, regMay 0 z = m := ⟨_, rfl⟩
   rw [hm] at HS2 HM
   clear hm h4 h5 hx0 hx1 HSt
   go_wp2_with (first
       | (refine sel (some 38) (.load 104 _) ?_; refine wpList_load_mid rfl 104 (.tmp 37) rfl b (o + k * 14) rfl (partL a mv) _ HRG.out Tryz.underlying104 rfl (by rw [HV.out]; exact info_part) ?_)
       | (refine sel none (.store 104 (.tmp 5) (.tmp 38)) ?_
          refine wpList_store_rowA rfl 104 (.tmp 5) (.tmp 38) rfl wr.heap.size (partC a mv) rfl rfl 104 zeroPart (blk_new _ _) (by rw [partC_size HL.out]; exact info_part) (by rw [partC_size HL.out]; rfl) (partC_one _ _ ho1) ?_
          intro W1 hgW hbW
          have hgv : Chg Non wr W1 := ((Chg.refl Non wr).alloc _).then_new hgW (fun x e => by omega)
          have HGV := Lh hgv
          have hPB : PartB W1 wr.heap.size a mv := ⟨hbW, HL.out⟩
          have HPB := Lh hPB
          obtain ⟨k0, k1, _, _, k12, k13⟩ := hPB.cells
          rw [HID.out] at k0
          rw [HSZ.out] at k1
          rw [HST.out] at k12
          rw [HMV.out] at k13
          clear hgW hbW hPB hgv))
   refine (HM.out _).mono ?_
   rintro e u ⟨rfl, hg⟩
   have hgu : Chg Non wr u := HGV.out.then_non hg
   have HB2 := Lh (HPB.out.non hg)
   obtain ⟨k0, k1, _, _, k12, k13⟩ := HB2.out.cells
   rw [HID.out] at k0
   rw [HSZ.out] at k1
   rw [HST.out] at k12
   rw [HMV.out] at k13
   have b1 := blk_cell (blk_keep hbx0 hgu (fun e => e)) 1 (v := .slice (some ⟨b, o, none⟩) s.parts.length c) rfl
   have HGU := Lh (HG.out.then_non hgu)
   clear hg hgu
   have HNx : Hid (stepMay partOk Pt.id s.parts k = true → ∀ j, j < k + 1 → stepMay partOk Pt.id s.parts j = true) := Lh (fun e j hj => by
     by_cases e2 : j = k
     · subst e2; exact e
     · exact HN.out j (by omega))
   cases m with
   | false =>
    have HF : Hid (mayS s = false) := Lh (HBad.out (by rw [HS2.out]; rfl))
    go_wp2_with fail
    go_ret
    exact ⟨ret_b HF.out.symm, ((Chg.refl Non w).alloc _).then_non HGU.out⟩
   | true =>
    by_cases h6 : (n : Int) = z
    ·have d6 : ((n : Int) != z) = false := by simpa using h6
     by_cases h7 : (st : Int) ≤ 4
     ·have d7 : decide (4 < (st : Int)) = false := by simp; omega
      have HT := Lh (HNx.out (by rw [HS2.out, decide_eq_true h6, decide_eq_true h7]; rfl))
      clear h6 h7
      go_wp2_with fail
      exact ⟨⟨k + 1, by omega, by simp, by rw [HLa.out], HT, HGU⟩, by simp [intOf]; omega⟩
     ·have d7 : decide (4 < (st : Int)) = true := by simp; omega
      have HF : Hid (mayS s = false) := Lh (HBad.out (by rw [HS2.out, decide_eq_false h7]; simp))
      clear h6 h7
      go_wp2_with fail
      go_ret
      exact ⟨ret_b HF.out.symm, ((Chg.refl Non w).alloc _).then_non HGU.out⟩
    ·have d6 : ((n : Int) != z) = true := by simpa using h6
     have HF : Hid (mayS s = false) := Lh (HBad.out (by rw [HS2.out, decide_eq_false h6]; simp))
     clear h6
     go_wp2_with fail
     go_ret
     exact ⟨ret_b HF.out.symm, ((Chg.refl Non w).alloc _).then_non HGU.out⟩
  ·obtain rfl : k = s.parts.length := by omega
   have hltd : decide ((s.parts.length : Int) < (s.parts.length : Int)) = false := by simp
   have HPs := Lh (mayL_yes HN.out)
   have HG1 := HG
   clear hlw HN HRP b0
   go_wp2_with fail
   go_loopw [6, 3] (fun iv sv wr => ∃ k : Nat, k ≤ s.queues.length ∧ iv = .int .i64 k ∧ sv = .int .i64 (lastOf (fun q : Qu => q.ch.id) s.queues k) ∧ Hid (∀ j, j < k → stepMay mayQ (fun q : Qu => q.ch.id) s.queues j = true) ∧ Hid (Chg Non (w.alloc boxS) wr)) (fun iv _ _ => s.queues.length - (intOf iv).toNat)
   case atStart => exact ⟨0, Nat.zero_le _, rfl, rfl, Lh (fun j h => by omega), HG1⟩
   case round =>
    obtain ⟨k, hk, rfl, rfl, HN, HG⟩ := hrel
    have hbx0 := blk_keep HBX.out HG.out (fun e => e)
    have b2 := blk_cell hbx0 2 (v := .slice A2 s.queues.length c2) rfl
    by_cases hlt : k < s.queues.length
    ·obtain ⟨a, ha⟩ : ∃ a, s.queues[k]? = some a := ⟨_, List.getElem?_eq_getElem hlt⟩
     have hltd : decide ((k : Int) < (s.queues.length : Int)) = true := by simpa using hlt
     obtain ⟨b, o, vs, rfl, _, hvl, hrg, hR⟩ := (HRQ.out.non HG.out (fun a vs h => quV_non _ _ _ _ HG.out h)) k a ha
     obtain ⟨mv, rfl, hmv, hbd, hml⟩ := hR
     have HA := Lh ha
     have HM := Lh (r10MayQueue I a mv wr hmv)
     have HRG := Lh hrg
     obtain ⟨x, hx⟩ : ∃ x, lastOf (fun q : Qu => q.ch.id) s.queues k = x := ⟨_, rfl⟩
     obtain ⟨i, hi⟩ : ∃ x, a.ch.id = x := ⟨_, rfl⟩
     have k0 : wr.cell? ⟨b, o + k * 6, none⟩ = some (.int .i64 i) := by
      have := hrg 0 (.int .i64 a.ch.id) rfl
      rw [hi] at this
      exact this
     have K0 := Lh k0
     obtain ⟨m, hm⟩ : ∃ m, mayQ a = m := ⟨_, rfl⟩
     have HSt : Hid (stepMay mayQ (fun q : Qu => q.ch.id) s.queues k = (m && decide (x < i))) := Lh (by rw [stepMay_last (id := fun q : Qu => q.ch.id) ha mayQ_id, hx, hi, hm])
     have HBad : Hid (stepMay mayQ (fun q : Qu => q.ch.id) s.queues k = false → mayS s = false) := Lh (fun e => HEg.out (mayL_no HA.out e))
     have HLa : Hid (lastOf (fun q : Qu => q.ch.id) s.queues (k + 1) = i) := Lh (by rw [lastOf_succ HA.out, hi])
     have HNx : Hid (stepMay mayQ (fun q : Qu => q.ch.id) s.queues k = true → ∀ j, j < k + 1 → stepMay mayQ (fun q : Qu => q.ch.id) s.queues j = true) := Lh (fun e j hj => by
       by_cases e2 : j = k
       · subst e2; exact e
       · exact HN.out j (by omega))
     rw [hm] at HM
     rw [hx]
     clear hrg hmv hbd ha hvl hi hx hml hm
     go_wp2_with (refine sel (some 81) (.load 110 _) ?_; refine wpList_load_mid rfl 110 (.tmp 80) rfl b (o + k * 6) rfl (a.L mv) _ HRG.out Tryz.underlying110 rfl (by kernel_rfl) ?_)
     refine HM.out.mono ?_
     rintro e u ⟨rfl, hg⟩
     have k0 := hg.cell_some K0.out (fun e => e)
     have b2 := blk_cell (blk_keep hbx0 hg (fun e => e)) 2 (v := .slice (some ⟨b, o, none⟩) s.queues.length c2) rfl
     have HGU := Lh (HG.out.then_non hg)
     clear hg
     cases m with
     | false =>
      have HF : Hid (mayS s = false) := Lh (HBad.out (by rw [HSt.out]; rfl))
      go_wp2_with fail
      go_ret
      exact ⟨ret_b HF.out.symm, ((Chg.refl Non w).alloc _).then_non HGU.out⟩
     | true =>
      by_cases h6 : i ≤ x
      ·have d6 : decide (i ≤ x) = true := by simpa using h6
       have HF : Hid (mayS s = false) := Lh (HBad.out (by rw [HSt.out, decide_eq_false (p := x < i) (by omega)]; rfl))
       clear h6
       go_wp2_with fail
       go_ret
       exact ⟨ret_b HF.out.symm, ((Chg.refl Non w).alloc _).then_non HGU.out⟩
      ·have d6 : decide (i ≤ x) = false := by simpa using h6
       have HT := Lh (HNx.out (by rw [HSt.out, decide_eq_true (p := x < i) (by omega)]; rfl))
       clear h6
       go_wp2_with fail
       exact ⟨⟨k + 1, by omega, by simp, by rw [HLa.out], HT, HGU⟩, by simp [intOf]; omega⟩
    ·obtain rfl : k = s.queues.length := by omega
     have hltd : decide ((s.queues.length : Int) < (s.queues.length : Int)) = false := by simp
     have HF : Hid (mayS s = true) := Lh (HEt.out HPs.out (mayL_yes HN.out))
     go_wp2_with fail
     go_ret
     exact ⟨ret_b HF.out.symm, ((Chg.refl Non w).alloc _).then_non HG.out⟩
end
end Go.Proofs.YtkgnlobabknkcaaGreat
