/- CheckBase, part 8 of 21: contracts of the functions that it reaches, and the laws that they need, merged and shortened (from my texts XSMay, XTag, XRdL, XStQ). -/
import Derived.Test.YtkgnlobabknkcaaGreatMgCheckBaseB
import Derived.Test.YtkgnlobabknkcaaGreatMgCheckBaseC
import Derived.Test.YtkgnlobabknkcaaGreatMgCheckBaseG
namespace Go.Proofs.YtkgnlobabknkcaaGreat
set_option linter.unusedVariables false
set_option linter.unusedSimpArgs false
set_option maxHeartbeats 8000000
section
open Go.RowKit
def stepMay {α : Type} (ok : α → Bool) (id : α → Int) (l : List α) (k : Nat) : Bool :=
 match l[k]? with
 | none => true
 | some a => ok a && (match k with
   | 0 => true
   | j + 1 => match l[j]? with
     | none => true
     | some b => decide (id b < id a))
def mayL {α : Type} (ok : α → Bool) (id : α → Int) (l : List α) : Bool := (List.range l.length).all (stepMay ok id l)
section
variable {α : Type} {ok : α → Bool} {id : α → Int} {l : List α}
theorem mayL_no {k : Nat} {a : α} (ha : l[k]? = some a) (h : stepMay ok id l k = false) : mayL ok id l = false := by
 rw [mayL, List.all_eq_false]
 exact ⟨k, List.mem_range.2 (List.getElem?_eq_some_iff.1 ha).1, by rw [h]; simp⟩
theorem mayL_yes (h : ∀ j, j < l.length → stepMay ok id l j = true) : mayL ok id l = true := by
 rw [mayL, List.all_eq_true]
 exact fun j hj => h j (List.mem_range.1 hj)
theorem stepMay_bad {k : Nat} {a : α} (ha : l[k]? = some a) (h : ok a = false) : mayL ok id l = false := mayL_no ha (by simp [stepMay, ha, h])
theorem stepMay_prev {k : Nat} {a b : α} (ha : l[k + 1]? = some a) (hb : l[k]? = some b) (h : ¬ id b < id a) : mayL ok id l = false := mayL_no ha (by simp [stepMay, ha, hb]; intro _; omega)
theorem stepMay_zero {a : α} (ha : l[0]? = some a) (h : ok a = true) : stepMay ok id l 0 = true := by simp [stepMay, ha, h]
theorem stepMay_succ {k : Nat} {a b : α} (ha : l[k + 1]? = some a) (h : ok a = true) (hb : l[k]? = some b) (hi : id b < id a) : stepMay ok id l (k + 1) = true := by simp [stepMay, ha, hb, h, hi]
end
def mayS (s : Sta) : Bool := decide (0 ≤ s.frames) && decide (s.frames ≤ 1099511627776) && decide (s.parts.length ≤ 6) && decide (s.queues.length ≤ 8) && mayL partOk Pt.id s.parts && mayL mayQ (fun q : Qu => q.ch.id) s.queues
set_option maxRecDepth 100000 in
theorem smay_ok (I : Nat → Prop) (s : Sta) (vb vd : Value) (w : World) (h : StaV I w s vb vd) :
  Calls Tryz.prog 23 #[.agg #[.int .i64 s.frames, vb, vd]] w fun e w' => e = .returned (.bool (mayS s)) ∧ Chg Non w w' := by
 obtain ⟨⟨A, c, rfl, hc, hcm, hrp⟩, ⟨A2, c2, rfl, hc2, hcm2, hrq⟩⟩ := h
 unfold maxLen at hcm hcm2
 obtain ⟨boxS, hbox⟩ : ∃ o, Obj.cells #[.int .i64 s.frames, .slice A s.parts.length c, .slice A2 s.queues.length c2] 25 = o := ⟨_, rfl⟩
 have HBX : Hid ((w.alloc boxS).heap[w.heap.size]? = some (.cells #[.int .i64 s.frames, .slice A s.parts.length c, .slice A2 s.queues.length c2] 25 (0, 0))) := Lib.hid (by rw [← hbox]; exact blk_new _ _)
 have HRP := Lib.hid (hrp.non ((Chg.refl Non w).alloc boxS) (fun a vs h => ptV_non _ _ _ _ ((Chg.refl Non w).alloc boxS) h))
 have HRQ := Lib.hid (hrq.non ((Chg.refl Non w).alloc boxS) (fun a vs h => quV_non _ _ _ _ ((Chg.refl Non w).alloc boxS) h))
 have HE : Hid (mayS s = (decide (0 ≤ s.frames) && decide (s.frames ≤ 1099511627776) && decide (s.parts.length ≤ 6) && decide (s.queues.length ≤ 8) && mayL partOk Pt.id s.parts && mayL mayQ (fun q : Qu => q.ch.id) s.queues)) := Lib.hid rfl
 have b0 := blk_cell HBX.out 0 (v := .int .i64 s.frames) rfl
 have b1 := blk_cell HBX.out 1 (v := .slice A s.parts.length c) rfl
 have b2 := blk_cell HBX.out 2 (v := .slice A2 s.queues.length c2) rfl
 clear hrp hrq
 by_cases h0 : s.frames < 0
 ·have d0 : decide (s.frames < 0) = true := by simpa using h0
  have HE2 : Hid (mayS s = false) := Lib.hid (by rw [HE.out, decide_eq_false (p := 0 ≤ s.frames) (by omega)]; rfl)
  clear HE
  go_enter Tryz.func23, Tryz.ntmps23
  go_wp2_with fail
  go_ret
  exact ⟨ret_b HE2.out.symm, (Chg.refl Non w).alloc _⟩
 have d0 : decide (s.frames < 0) = false := by simpa using h0
 by_cases h1 : 1099511627776 < s.frames
 ·have d1 : decide (1099511627776 < s.frames) = true := by simpa using h1
  have HE2 : Hid (mayS s = false) := Lib.hid (by rw [HE.out, decide_eq_false (p := s.frames ≤ 1099511627776) (by omega)]; simp)
  clear HE
  go_enter Tryz.func23, Tryz.ntmps23
  go_wp2_with fail
  go_ret
  exact ⟨ret_b HE2.out.symm, (Chg.refl Non w).alloc _⟩
 have d1 : decide (1099511627776 < s.frames) = false := by simpa using h1
 by_cases h2 : 6 < s.parts.length
 ·have d2 : decide (6 < (s.parts.length : Int)) = true := by rw [decide_eq_true_eq]; omega
  have HE2 : Hid (mayS s = false) := Lib.hid (by rw [HE.out, decide_eq_false (p := s.parts.length ≤ 6) (by omega)]; simp)
  clear HE
  go_enter Tryz.func23, Tryz.ntmps23
  go_wp2_with fail
  go_ret
  exact ⟨ret_b HE2.out.symm, (Chg.refl Non w).alloc _⟩
 have d2 : decide (6 < (s.parts.length : Int)) = false := by rw [decide_eq_false_iff_not]; omega
 by_cases h3 : 8 < s.queues.length
 ·have d3 : decide (8 < (s.queues.length : Int)) = true := by rw [decide_eq_true_eq]; omega
  have HE2 : Hid (mayS s = false) := Lib.hid (by rw [HE.out, decide_eq_false (p := s.queues.length ≤ 8) (by omega)]; simp)
  clear HE
  go_enter Tryz.func23, Tryz.ntmps23
  go_wp2_with fail
  go_ret
  exact ⟨ret_b HE2.out.symm, (Chg.refl Non w).alloc _⟩
 have d3 : decide (8 < (s.queues.length : Int)) = false := by rw [decide_eq_false_iff_not]; omega
 have HEf : Hid (mayL partOk Pt.id s.parts = false → mayS s = false) := Lib.hid (fun h => by rw [HE.out, h]; simp)
 go_enter Tryz.func23, Tryz.ntmps23
 go_wp2_with fail
 go_loopw [30] (fun iv wr => ∃ k : Nat, k ≤ s.parts.length ∧ iv = .int .i64 k ∧ Hid (∀ j, j < k → stepMay partOk Pt.id s.parts j = true) ∧ Hid (Chg Non (w.alloc boxS) wr)) (fun iv _ => s.parts.length - (intOf iv).toNat)
 case atStart => exact ⟨0, Nat.zero_le _, rfl, Lib.hid (fun j h => by omega), Lib.hid (by rw [← hbox]; exact Chg.refl _ _)⟩
 case round =>
  obtain ⟨k, hk, rfl, HN, HG⟩ := hrel
  have hbx0 := blk_keep HBX.out HG.out (fun e => e)
  have hlw : w.heap.size < wr.heap.size := blk_lt hbx0
  by_cases hlt : k < s.parts.length
  ·obtain ⟨a, ha⟩ : ∃ a, s.parts[k]? = some a := ⟨_, List.getElem?_eq_getElem hlt⟩
   have hltd : decide ((k : Int) < (s.parts.length : Int)) = true := by simpa using hlt
   obtain ⟨b, o, vs, rfl, _, hvl, hrg, hR⟩ := (HRP.out.non HG.out (fun a vs h => ptV_non _ _ _ _ HG.out h)) k a ha
   have hbl := rng_lt hrg (by omega)
   obtain ⟨mv, rfl, hmv, hbd, hml⟩ := hR
   have HA := Lib.hid ha
   have HL := Lib.hid hbd.r8
   have ho1 : mv.oneCell' = true := by obtain ⟨A, c, e, _⟩ := hmv; rw [e]; rfl
   have HM : Hid (∀ W : World, Calls Tryz.prog 58 #[.agg (partC a mv)] W fun e w' => e = .returned (.bool (partOk a)) ∧ Chg Non W w') := Lib.hid (fun W => by
     obtain ⟨A, c, rfl, _⟩ := hmv
     exact spart_ok a A c W hbd.r8)
   obtain ⟨x, hx⟩ : ∃ x, a.id = x := ⟨_, rfl⟩
   obtain ⟨m, hm⟩ : ∃ m, partOk a = m := ⟨_, rfl⟩
   rw [hm] at HM
   have HMX := Lib.hid (And.intro hm hx)
   have HRG := Lib.hid hrg
   clear hm hrg hmv hml hbd ha
   go_wp2_with (first
     | (refine sel (some 34) (.load 104 _) ?_; refine wpList_load_mid rfl 104 (.tmp 33) rfl b (o + k * 14) rfl (partL a mv) _ HRG.out Tryz.underlying104 rfl (by rw [hvl]; exact info_part) ?_)
     | (refine sel none (.store 104 (.tmp 4) (.tmp 34)) ?_
        refine wpList_store_rowA rfl 104 (.tmp 4) (.tmp 34) rfl wr.heap.size (partC a mv) rfl rfl 104 zeroPart (blk_new _ _) (by rw [partC_size HL.out]; exact info_part) (by rw [partC_size HL.out]; rfl) (partC_one _ _ ho1) ?_
        intro W1 hgW hbW))
   obtain ⟨v, hv⟩ : ∃ v, v = W1.drew := ⟨_, rfl⟩
   have hv0 : v.heap[wr.heap.size]? = some (.cells (partC a mv) 104 (0, 0)) := by rw [hv]; exact hbW
   have hgv0 : Chg Non wr W1 := ((Chg.refl Non wr).alloc _).then_new hgW (fun x e => by omega)
   have hgv : Chg Non wr v := by rw [hv]; exact hgv0.drew
   have hpx : v.cell? ⟨wr.heap.size, 0, none⟩ = some (.int .i64 x) := by
    have := HMX.out.2
    subst this
    exact blk_cell hv0 0 rfl
   have hbx : v.cell? ⟨w.heap.size, 1, none⟩ = some (.slice (some ⟨b, o, none⟩) s.parts.length c) := blk_cell (blk_keep hbx0 hgv (fun e => e)) 1 rfl
   have HGV := Lib.hid hgv
   have HG0 := Lib.hid HG.out
   cases m with
   | false =>
    refine wp_region_held_drew (S := Chg Non W1.drew) (by kernel_rfl) (Chg.refl _ _) (fun hHeld => ?_)
    clear hHeld
    rw [← hv]
    clear hv
    refine h_load 0 (some 35) 104 (.tmp 4) wr.heap.size 0 (partC a mv) _ rfl (by kernel_rfl) (by kernel_rfl) (by kernel_rfl) (by kernel_rfl) (by kernel_rfl) (fun _ _ _ h => h) (by kernel_rfl) (by kernel_rfl) (fun W hW => range_keepS (blk_range hv0) hW (fun e => e)) Tryz.underlying104 rfl (by rw [partC_size HL.out]; exact info_part) (Chg.refl Non _) ?_
    simp only [Act.put, sA, sB, sC]
    refine h_one 1 (by kernel_rfl) rfl (by kernel_rfl) ?_
    intro K hK
    go_simp
    refine (HM.out _).mono ?_
    rintro e u1 ⟨rfl, hg⟩
    have HC1 := Lib.hid (Chg.then_non (Chg.refl Non _) hg)
    clear hg
    refine hK.out _ _ HC1.out (fun _ => ?_)
    clear hK K
    try simp only [Act.put, sA, sB, sC]
    refine hp 2 37 (.bool true) rfl HC1.out ?_
    refine hp 3 38 (.bool true) rfl HC1.out ?_
    refine hs 4 39 rfl HC1.out ?_
    refine hs 5 40 rfl HC1.out ?_
    refine hs 6 41 rfl HC1.out ?_
    refine hs 7 42 rfl HC1.out ?_
    refine hs 8 43 rfl HC1.out ?_
    refine hs 9 44 rfl HC1.out ?_
    refine hs 10 45 rfl HC1.out ?_
    refine hs 11 46 rfl HC1.out ?_
    refine hs 12 47 rfl HC1.out ?_
    refine hs 13 48 rfl HC1.out ?_
    refine hs 14 49 rfl HC1.out ?_
    refine hs 15 50 rfl HC1.out ?_
    refine hs 16 51 rfl HC1.out ?_
    refine hs 17 52 rfl HC1.out ?_
    refine hp 18 53 (.bool true) rfl HC1.out ?_
    refine wpAnyH_done (by kernel_rfl) ?_ _
    have HGn : Hid (Chg Non (w.alloc boxS) _) := Lib.hid ((HG0.out.then_non HGV.out).then_non HC1.out)
    have HE2 : Hid (mayS s = false) := Lib.hid (HEf.out (stepMay_bad (ok := partOk) (id := Pt.id) HA.out HMX.out.1))
    clear HEf
    go_wp2_with fail
    go_ret
    exact ⟨ret_b HE2.out.symm, ((Chg.refl Non w).alloc _).then_non HGn.out⟩
   | true =>
    cases k with
    | zero =>
     refine wp_region_held_drew (S := Chg Non W1.drew) (by kernel_rfl) (Chg.refl _ _) (fun hHeld => ?_)
     clear hHeld
     rw [← hv]
     clear hv
     refine h_load 0 (some 35) 104 (.tmp 4) wr.heap.size 0 (partC a mv) _ rfl (by kernel_rfl) (by kernel_rfl) (by kernel_rfl) (by kernel_rfl) (by kernel_rfl) (fun _ _ _ h => h) (by kernel_rfl) (by kernel_rfl) (fun W hW => range_keepS (blk_range hv0) hW (fun e => e)) Tryz.underlying104 rfl (by rw [partC_size HL.out]; exact info_part) (Chg.refl Non _) ?_
     simp only [Act.put, sA, sB, sC]
     refine h_one 1 (by kernel_rfl) rfl (by kernel_rfl) ?_
     intro K hK
     go_simp
     refine (HM.out _).mono ?_
     rintro e u1 ⟨rfl, hg⟩
     have HC1 := Lib.hid (Chg.then_non (Chg.refl Non _) hg)
     clear hg
     refine hK.out _ _ HC1.out (fun _ => ?_)
     clear hK K
     try simp only [Act.put, sA, sB, sC]
     refine hp 2 37 (.bool false) rfl HC1.out ?_
     refine hp 3 38 (.bool false) rfl HC1.out ?_
     refine hp 4 39 (.int .i64 0) rfl HC1.out ?_
     refine hp 5 40 (.bool false) rfl HC1.out ?_ (he := (fun W hW => by go_simp; try omega))
     refine hp 6 41 (.bool false) rfl HC1.out ?_
     refine hs 7 42 rfl HC1.out ?_
     refine hs 8 43 rfl HC1.out ?_
     refine hs 9 44 rfl HC1.out ?_
     refine hs 10 45 rfl HC1.out ?_
     refine hs 11 46 rfl HC1.out ?_
     refine hs 12 47 rfl HC1.out ?_
     refine hs 13 48 rfl HC1.out ?_
     refine hs 14 49 rfl HC1.out ?_
     refine hs 15 50 rfl HC1.out ?_
     refine hs 16 51 rfl HC1.out ?_
     refine hp 17 52 (.bool false) rfl HC1.out ?_
     refine hp 18 53 (.bool false) rfl HC1.out ?_
     refine wpAnyH_done (by kernel_rfl) ?_ _
     have HGn : Hid (Chg Non (w.alloc boxS) _) := Lib.hid ((HG0.out.then_non HGV.out).then_non HC1.out)
     have hst := Lib.hid (stepMay_zero (ok := partOk) (id := Pt.id) HA.out HMX.out.1)
     have HN2 : Hid (∀ j, j < 0 + 1 → stepMay partOk Pt.id s.parts j = true) := Lib.hid (fun j hj => by
       by_cases e : j = 0
       · subst e; exact hst.out
       · exact HN.out j (by omega))
     clear hst
     go_wp2_with fail
     exact ⟨⟨0 + 1, by omega, by simp, HN2, HGn⟩, by simp [intOf]; omega⟩
    | succ k =>
     obtain ⟨a', ha'⟩ : ∃ a, s.parts[k]? = some a := ⟨_, List.getElem?_eq_getElem (by omega)⟩
     obtain ⟨y, hy⟩ : ∃ y, a'.id = y := ⟨_, rfl⟩
     have hpy : v.cell? ⟨b, o + k * 14, none⟩ = some (.int .i64 y) := by
      obtain ⟨b', o', vs', e, _, _, hrg', mv', rfl, _⟩ := (HRP.out.non HG.out (fun a vs h => ptV_non _ _ _ _ HG.out h)) k a' ha'
      injection e with e
      injection e with e1 e2 _
      subst e1 e2 hy
      exact hgv.cell_some (hrg' 0 _ rfl) (fun e => e)
     have HAY := Lib.hid (And.intro ha' hy)
     have hk0 : (0 : Int) ≤ (k : Int) := by omega
     have hkl : (k : Int) < (s.parts.length : Int) := by omega
     clear ha' hy
     refine wp_region_held_drew (S := Chg Non W1.drew) (by kernel_rfl) (Chg.refl _ _) (fun hHeld => ?_)
     clear hHeld
     rw [← hv]
     clear hv
     refine h_load 0 (some 35) 104 (.tmp 4) wr.heap.size 0 (partC a mv) _ rfl (by kernel_rfl) (by kernel_rfl) (by kernel_rfl) (by kernel_rfl) (by kernel_rfl) (fun _ _ _ h => h) (by kernel_rfl) (by kernel_rfl) (fun W hW => range_keepS (blk_range hv0) hW (fun e => e)) Tryz.underlying104 rfl (by rw [partC_size HL.out]; exact info_part) (Chg.refl Non _) ?_
     simp only [Act.put, sA, sB, sC]
     refine h_one 1 (by kernel_rfl) rfl (by kernel_rfl) ?_
     intro K hK
     go_simp
     refine (HM.out _).mono ?_
     rintro e u1 ⟨rfl, hg⟩
     have HC1 := Lib.hid (Chg.then_non (Chg.refl Non _) hg)
     clear hg
     refine hK.out _ _ HC1.out (fun _ => ?_)
     clear hK K
     try simp only [Act.put, sA, sB, sC]
     refine hp 2 37 (.bool false) rfl HC1.out ?_
     refine hp 3 38 (.bool false) rfl HC1.out ?_
     refine hp 4 39 (.int .i64 ((k : Int) + 1)) rfl HC1.out ?_
     refine hp 5 40 (.bool true) rfl HC1.out ?_ (he := (fun W hW => by go_simp; try omega))
     refine hp 6 41 (.bool true) rfl HC1.out ?_
     refine hp 7 42 (.pointer (some ⟨w.heap.size, 1, none⟩)) rfl HC1.out ?_
     refine hp 8 43 (.slice (some ⟨b, o, none⟩) s.parts.length c) rfl HC1.out ?_ (he := (fun W hW => by have hc := hW.cell_some hbx (fun e => e); go_simp))
     refine hp 9 44 (.int .i64 ((k : Int) + 1)) rfl HC1.out ?_
     refine hp 10 45 (.int .i64 (k : Int)) rfl HC1.out ?_ (he := (fun W hW => by go_simp; exact Go.IntWalk.i64_in _ (by omega)))
     refine hp 11 46 (.pointer (some ⟨b, o + k * 14, none⟩)) rfl HC1.out ?_
     refine hp 12 47 (.pointer (some ⟨b, o + k * 14, none⟩)) rfl HC1.out ?_
     refine hp 13 48 (.int .i64 y) rfl HC1.out ?_ (he := (fun W hW => by have hc := hW.cell_some hpy (fun e => e); go_simp))
     refine hp 14 49 (.pointer (some ⟨wr.heap.size, 0, none⟩)) rfl HC1.out ?_
     refine hp 15 50 (.int .i64 x) rfl HC1.out ?_ (he := (fun W hW => by have hc := hW.cell_some hpx (fun e => e); go_simp))
     refine hp 16 51 (.bool (decide (y ≥ x))) rfl HC1.out ?_
     refine hp 17 52 (.bool (decide (y ≥ x))) rfl HC1.out ?_
     refine hp 18 53 (.bool (decide (y ≥ x))) rfl HC1.out ?_
     refine wpAnyH_done (by kernel_rfl) ?_ _
     have HGn : Hid (Chg Non (w.alloc boxS) _) := Lib.hid ((HG0.out.then_non HGV.out).then_non HC1.out)
     by_cases hxy : y ≥ x
     ·have hxd : decide (x ≤ y) = true := by simpa using hxy
      have HE2 : Hid (mayS s = false) := Lib.hid (HEf.out (stepMay_prev (ok := partOk) (id := Pt.id) HA.out HAY.out.1 (by rw [HMX.out.2, HAY.out.2]; omega)))
      clear HEf
      go_wp2_with fail
      go_ret
      exact ⟨ret_b HE2.out.symm, ((Chg.refl Non w).alloc _).then_non HGn.out⟩
     ·have hxd : decide (x ≤ y) = false := by simpa using hxy
      have hst := Lib.hid (stepMay_succ (ok := partOk) (id := Pt.id) HA.out HMX.out.1 HAY.out.1 (by rw [HMX.out.2, HAY.out.2]; omega))
      have HN2 : Hid (∀ j, j < (k + 1) + 1 → stepMay partOk Pt.id s.parts j = true) := Lib.hid (fun j hj => by
        by_cases e : j = (k + 1)
        · subst e; exact hst.out
        · exact HN.out j (by omega))
      clear hst
      go_wp2_with fail
      exact ⟨⟨(k + 1) + 1, by omega, by simp, HN2, HGn⟩, by simp [intOf]; omega⟩
  ·obtain rfl : k = s.parts.length := by omega
   have hltd : decide ((s.parts.length : Int) < (s.parts.length : Int)) = false := by simp
   have HEP := Lib.hid (mayL_yes HN.out)
   have HEf : Hid (mayL mayQ (fun q : Qu => q.ch.id) s.queues = false → mayS s = false) := Lib.hid (fun h => by rw [HE.out, h]; simp)
   have b2 := blk_cell hbx0 2 (v := .slice A2 s.queues.length c2) rfl
   clear hbx0
   go_wp2_with fail
   go_loopw [58] (fun iv wr => ∃ k : Nat, k ≤ s.queues.length ∧ iv = .int .i64 k ∧ Hid (∀ j, j < k → stepMay mayQ (fun q : Qu => q.ch.id) s.queues j = true) ∧ Hid (Chg Non (w.alloc boxS) wr)) (fun iv _ => s.queues.length - (intOf iv).toNat)
   case atStart => exact ⟨0, Nat.zero_le _, rfl, Lib.hid (fun j h => by omega), HG⟩
   case round =>
    clear HN HG hlw
    obtain ⟨k, hk, rfl, HN, HG⟩ := hrel
    have hbx0 := blk_keep HBX.out HG.out (fun e => e)
    have hlw : w.heap.size < wr.heap.size := blk_lt hbx0
    by_cases hlt : k < s.queues.length
    ·obtain ⟨a, ha⟩ : ∃ a, s.queues[k]? = some a := ⟨_, List.getElem?_eq_getElem hlt⟩
     have hltd : decide ((k : Int) < (s.queues.length : Int)) = true := by simpa using hlt
     obtain ⟨b, o, vs, rfl, _, hvl, hrg, hR⟩ := (HRQ.out.non HG.out (fun a vs h => quV_non _ _ _ _ HG.out h)) k a ha
     have hbl := rng_lt hrg (by omega)
     obtain ⟨mv, rfl, hmv, hbd, hml⟩ := hR
     have HA := Lib.hid ha
     have HM := Lib.hid (fun W (hg : Chg Non wr W) => mayQueue_ok I a mv W (hmv.non hg (fun a vs h => msgV_non _ _ _ _ hg h)))
     have ho1 : mv.oneCell' = true := by obtain ⟨A, c, e, _⟩ := hmv; rw [e]; rfl
     obtain ⟨x, hx⟩ : ∃ x, a.ch.id = x := ⟨_, rfl⟩
     obtain ⟨m, hm⟩ : ∃ m, mayQ a = m := ⟨_, rfl⟩
     rw [hm] at HM
     have HMX := Lib.hid (And.intro hm hx)
     have HRG := Lib.hid hrg
     clear hm hrg hmv hml hbd ha
     go_wp2_with (first
       | (refine sel (some 62) (.load 110 _) ?_; refine wpList_load_mid rfl 110 (.tmp 61) rfl b (o + k * 6) rfl (a.L mv) _ HRG.out Tryz.underlying110 rfl (by kernel_rfl) ?_)
       | (refine sel none (.store 110 (.tmp 6) (.tmp 62)) ?_
          refine wpList_store_rowA rfl 110 (.tmp 6) (.tmp 62) rfl wr.heap.size (a.L mv).toArray rfl rfl 110 #[.int .i64 0, .int .i64 0, .int .i64 0, .int .i64 0, .int .i64 0, .slice none 0 0] (blk_new _ _) (by kernel_rfl) rfl (by simp [Qu.L, Value.oneCell']; exact ho1) ?_
          intro W1 hgW hbW))
     obtain ⟨v, hv⟩ : ∃ v, v = W1.drew := ⟨_, rfl⟩
     have hv0 : v.heap[wr.heap.size]? = some (.cells (a.L mv).toArray 110 (0, 0)) := by rw [hv]; exact hbW
     have hgv0 : Chg Non wr W1 := ((Chg.refl Non wr).alloc _).then_new hgW (fun x e => by omega)
     have hgv : Chg Non wr v := by rw [hv]; exact hgv0.drew
     have hpx : v.cell? ⟨wr.heap.size, 0, none⟩ = some (.int .i64 x) := by
      have := HMX.out.2
      subst this
      exact blk_cell hv0 0 rfl
     have hbx : v.cell? ⟨w.heap.size, 2, none⟩ = some (.slice (some ⟨b, o, none⟩) s.queues.length c2) := blk_cell (blk_keep hbx0 hgv (fun e => e)) 2 rfl
     have HGV := Lib.hid hgv
     have HG0 := Lib.hid HG.out
     cases m with
     | false =>
      refine wp_region_held_drew (S := Chg Non W1.drew) (by kernel_rfl) (Chg.refl _ _) (fun hHeld => ?_)
      clear hHeld
      rw [← hv]
      clear hv
      refine h_load 0 (some 63) 110 (.tmp 6) wr.heap.size 0 (a.L mv).toArray _ rfl (by kernel_rfl) (by kernel_rfl) (by kernel_rfl) (by kernel_rfl) (by kernel_rfl) (fun _ _ _ h => h) (by kernel_rfl) (by kernel_rfl) (fun W hW => range_keepS (blk_range hv0) hW (fun e => e)) Tryz.underlying110 rfl (by kernel_rfl) (Chg.refl Non _) ?_
      simp only [Act.put, sA, sB, sC]
      refine h_one 1 (by kernel_rfl) rfl (by kernel_rfl) ?_
      intro K hK
      go_simp
      refine (HM.out _ HGV.out).mono ?_
      rintro e u1 ⟨rfl, hg⟩
      have HC1 := Lib.hid (Chg.then_non (Chg.refl Non _) hg)
      clear hg
      refine hK.out _ _ HC1.out (fun _ => ?_)
      clear hK K
      try simp only [Act.put, sA, sB, sC]
      refine hp 2 65 (.bool true) rfl HC1.out ?_
      refine hp 3 66 (.bool true) rfl HC1.out ?_
      refine hs 4 67 rfl HC1.out ?_
      refine hs 5 68 rfl HC1.out ?_
      refine hs 6 69 rfl HC1.out ?_
      refine hs 7 70 rfl HC1.out ?_
      refine hs 8 71 rfl HC1.out ?_
      refine hs 9 72 rfl HC1.out ?_
      refine hs 10 73 rfl HC1.out ?_
      refine hs 11 74 rfl HC1.out ?_
      refine hs 12 75 rfl HC1.out ?_
      refine hs 13 76 rfl HC1.out ?_
      refine hs 14 77 rfl HC1.out ?_
      refine hs 15 78 rfl HC1.out ?_
      refine hs 16 79 rfl HC1.out ?_
      refine hs 17 80 rfl HC1.out ?_
      refine hs 18 81 rfl HC1.out ?_
      refine hs 19 82 rfl HC1.out ?_
      refine hp 20 83 (.bool true) rfl HC1.out ?_
      refine wpAnyH_done (by kernel_rfl) ?_ _
      have HGn : Hid (Chg Non (w.alloc boxS) _) := Lib.hid ((HG0.out.then_non HGV.out).then_non HC1.out)
      have HE2 : Hid (mayS s = false) := Lib.hid (HEf.out (stepMay_bad (ok := mayQ) (id := (fun q : Qu => q.ch.id)) HA.out HMX.out.1))
      clear HEf
      go_wp2_with fail
      go_ret
      exact ⟨ret_b HE2.out.symm, ((Chg.refl Non w).alloc _).then_non HGn.out⟩
     | true =>
      cases k with
      | zero =>
       refine wp_region_held_drew (S := Chg Non W1.drew) (by kernel_rfl) (Chg.refl _ _) (fun hHeld => ?_)
       clear hHeld
       rw [← hv]
       clear hv
       refine h_load 0 (some 63) 110 (.tmp 6) wr.heap.size 0 (a.L mv).toArray _ rfl (by kernel_rfl) (by kernel_rfl) (by kernel_rfl) (by kernel_rfl) (by kernel_rfl) (fun _ _ _ h => h) (by kernel_rfl) (by kernel_rfl) (fun W hW => range_keepS (blk_range hv0) hW (fun e => e)) Tryz.underlying110 rfl (by kernel_rfl) (Chg.refl Non _) ?_
       simp only [Act.put, sA, sB, sC]
       refine h_one 1 (by kernel_rfl) rfl (by kernel_rfl) ?_
       intro K hK
       go_simp
       refine (HM.out _ HGV.out).mono ?_
       rintro e u1 ⟨rfl, hg⟩
       have HC1 := Lib.hid (Chg.then_non (Chg.refl Non _) hg)
       clear hg
       refine hK.out _ _ HC1.out (fun _ => ?_)
       clear hK K
       try simp only [Act.put, sA, sB, sC]
       refine hp 2 65 (.bool false) rfl HC1.out ?_
       refine hp 3 66 (.bool false) rfl HC1.out ?_
       refine hp 4 67 (.int .i64 0) rfl HC1.out ?_
       refine hp 5 68 (.bool false) rfl HC1.out ?_ (he := (fun W hW => by go_simp; try omega))
       refine hp 6 69 (.bool false) rfl HC1.out ?_
       refine hs 7 70 rfl HC1.out ?_
       refine hs 8 71 rfl HC1.out ?_
       refine hs 9 72 rfl HC1.out ?_
       refine hs 10 73 rfl HC1.out ?_
       refine hs 11 74 rfl HC1.out ?_
       refine hs 12 75 rfl HC1.out ?_
       refine hs 13 76 rfl HC1.out ?_
       refine hs 14 77 rfl HC1.out ?_
       refine hs 15 78 rfl HC1.out ?_
       refine hs 16 79 rfl HC1.out ?_
       refine hs 17 80 rfl HC1.out ?_
       refine hs 18 81 rfl HC1.out ?_
       refine hp 19 82 (.bool false) rfl HC1.out ?_
       refine hp 20 83 (.bool false) rfl HC1.out ?_
       refine wpAnyH_done (by kernel_rfl) ?_ _
       have HGn : Hid (Chg Non (w.alloc boxS) _) := Lib.hid ((HG0.out.then_non HGV.out).then_non HC1.out)
       have hst := Lib.hid (stepMay_zero (ok := mayQ) (id := (fun q : Qu => q.ch.id)) HA.out HMX.out.1)
       have HN2 : Hid (∀ j, j < 0 + 1 → stepMay mayQ (fun q : Qu => q.ch.id) s.queues j = true) := Lib.hid (fun j hj => by
         by_cases e : j = 0
         · subst e; exact hst.out
         · exact HN.out j (by omega))
       clear hst
       go_wp2_with fail
       exact ⟨⟨0 + 1, by omega, by simp, HN2, HGn⟩, by simp [intOf]; omega⟩
      | succ k =>
       obtain ⟨a', ha'⟩ : ∃ a, s.queues[k]? = some a := ⟨_, List.getElem?_eq_getElem (by omega)⟩
       obtain ⟨y, hy⟩ : ∃ y, a'.ch.id = y := ⟨_, rfl⟩
       have hpy : v.cell? ⟨b, o + k * 6, none⟩ = some (.int .i64 y) := by
        obtain ⟨b', o', vs', e, _, _, hrg', mv', rfl, _⟩ := (HRQ.out.non HG.out (fun a vs h => quV_non _ _ _ _ HG.out h)) k a' ha'
        injection e with e
        injection e with e1 e2 _
        subst e1 e2 hy
        exact hgv.cell_some (hrg' 0 _ rfl) (fun e => e)
       have HAY := Lib.hid (And.intro ha' hy)
       have hk0 : (0 : Int) ≤ (k : Int) := by omega
       have hkl : (k : Int) < (s.queues.length : Int) := by omega
       clear ha' hy
       refine wp_region_held_drew (S := Chg Non W1.drew) (by kernel_rfl) (Chg.refl _ _) (fun hHeld => ?_)
       clear hHeld
       rw [← hv]
       clear hv
       refine h_load 0 (some 63) 110 (.tmp 6) wr.heap.size 0 (a.L mv).toArray _ rfl (by kernel_rfl) (by kernel_rfl) (by kernel_rfl) (by kernel_rfl) (by kernel_rfl) (fun _ _ _ h => h) (by kernel_rfl) (by kernel_rfl) (fun W hW => range_keepS (blk_range hv0) hW (fun e => e)) Tryz.underlying110 rfl (by kernel_rfl) (Chg.refl Non _) ?_
       simp only [Act.put, sA, sB, sC]
       refine h_one 1 (by kernel_rfl) rfl (by kernel_rfl) ?_
       intro K hK
       go_simp
       refine (HM.out _ HGV.out).mono ?_
       rintro e u1 ⟨rfl, hg⟩
       have HC1 := Lib.hid (Chg.then_non (Chg.refl Non _) hg)
       clear hg
       refine hK.out _ _ HC1.out (fun _ => ?_)
       clear hK K
       try simp only [Act.put, sA, sB, sC]
       refine hp 2 65 (.bool false) rfl HC1.out ?_
       refine hp 3 66 (.bool false) rfl HC1.out ?_
       refine hp 4 67 (.int .i64 ((k : Int) + 1)) rfl HC1.out ?_
       refine hp 5 68 (.bool true) rfl HC1.out ?_ (he := (fun W hW => by go_simp; try omega))
       refine hp 6 69 (.bool true) rfl HC1.out ?_
       refine hp 7 70 (.pointer (some ⟨w.heap.size, 2, none⟩)) rfl HC1.out ?_
       refine hp 8 71 (.slice (some ⟨b, o, none⟩) s.queues.length c2) rfl HC1.out ?_ (he := (fun W hW => by have hc := hW.cell_some hbx (fun e => e); go_simp))
       refine hp 9 72 (.int .i64 ((k : Int) + 1)) rfl HC1.out ?_
       refine hp 10 73 (.int .i64 (k : Int)) rfl HC1.out ?_ (he := (fun W hW => by go_simp; exact Go.IntWalk.i64_in _ (by omega)))
       refine hp 11 74 (.pointer (some ⟨b, o + k * 6, none⟩)) rfl HC1.out ?_
       refine hp 12 75 (.pointer (some ⟨b, o + k * 6, none⟩)) rfl HC1.out ?_
       refine hp 13 76 (.pointer (some ⟨b, o + k * 6, none⟩)) rfl HC1.out ?_
       refine hp 14 77 (.int .i64 y) rfl HC1.out ?_ (he := (fun W hW => by have hc := hW.cell_some hpy (fun e => e); go_simp))
       refine hp 15 78 (.pointer (some ⟨wr.heap.size, 0, none⟩)) rfl HC1.out ?_
       refine hp 16 79 (.pointer (some ⟨wr.heap.size, 0, none⟩)) rfl HC1.out ?_
       refine hp 17 80 (.int .i64 x) rfl HC1.out ?_ (he := (fun W hW => by have hc := hW.cell_some hpx (fun e => e); go_simp))
       refine hp 18 81 (.bool (decide (y ≥ x))) rfl HC1.out ?_
       refine hp 19 82 (.bool (decide (y ≥ x))) rfl HC1.out ?_
       refine hp 20 83 (.bool (decide (y ≥ x))) rfl HC1.out ?_
       refine wpAnyH_done (by kernel_rfl) ?_ _
       have HGn : Hid (Chg Non (w.alloc boxS) _) := Lib.hid ((HG0.out.then_non HGV.out).then_non HC1.out)
       by_cases hxy : y ≥ x
       ·have hxd : decide (x ≤ y) = true := by simpa using hxy
        have HE2 : Hid (mayS s = false) := Lib.hid (HEf.out (stepMay_prev (ok := mayQ) (id := (fun q : Qu => q.ch.id)) HA.out HAY.out.1 (by rw [HMX.out.2, HAY.out.2]; omega)))
        clear HEf
        go_wp2_with fail
        go_ret
        exact ⟨ret_b HE2.out.symm, ((Chg.refl Non w).alloc _).then_non HGn.out⟩
       ·have hxd : decide (x ≤ y) = false := by simpa using hxy
        have hst := Lib.hid (stepMay_succ (ok := mayQ) (id := (fun q : Qu => q.ch.id)) HA.out HMX.out.1 HAY.out.1 (by rw [HMX.out.2, HAY.out.2]; omega))
        have HN2 : Hid (∀ j, j < (k + 1) + 1 → stepMay mayQ (fun q : Qu => q.ch.id) s.queues j = true) := Lib.hid (fun j hj => by
          by_cases e : j = (k + 1)
          · subst e; exact hst.out
          · exact HN.out j (by omega))
        clear hst
        go_wp2_with fail
        exact ⟨⟨(k + 1) + 1, by omega, by simp, HN2, HGn⟩, by simp [intOf]; omega⟩
    ·obtain rfl : k = s.queues.length := by omega
     have hltd : decide ((s.queues.length : Int) < (s.queues.length : Int)) = false := by simp
     have HEQ := Lib.hid (mayL_yes HN.out)
     have HE2 : Hid (mayS s = true) := Lib.hid (by
       rw [HE.out, HEP.out, HEQ.out]
       simp
       omega)
     have HG0 := Lib.hid HG.out
     go_wp2_with fail
     go_ret
     exact ⟨ret_b HE2.out.symm, ((Chg.refl Non w).alloc _).then_non HG0.out⟩
end
section
open Go.RowKit
theorem run_results_cell_tmp {P : Program} {fn : Func} {p q : Tmp} {ty : TypeId} (h : fn.results = #[.cell p ty, .tmp q]) (tmps : Array Value) (w : World) (g : Nat) (t : TypeId) (cs : Array Value) (fr : Nat × Nat) (d : TypeDesc) (v : Value)
  (hp : tmps.getD p undef = .pointer (some ⟨g, 0, none⟩)) (hv : tmps.getD q undef = v) (hg : w.heap[g]? = some (.cells cs t fr))
  (hu : P.underlying ty = some d) (hd : (match d with | .struct _ | .array _ _ => true | _ => false) = true) (hi : (P.info? ty).map (·.size) = some cs.size) :
  (results fn tmps).run P w = .ok (.tuple #[.agg cs, v]) w := by
 have hp' : tmps[p]?.getD undef = .pointer (some ⟨g, 0, none⟩) := by simpa using hp
 have hv' : tmps[q]?.getD undef = v := by simpa using hv
 simp [results, h, hp', hv', asAddr, run_loadVar_row w g t ty cs fr d hg hu hd hi]
def tagA (l : List UInt8) : Array Value := (l.map bv).toArray
theorem tagA_size (l : List UInt8) (h : l.length = 32) : (tagA l).size = 32 := by simp [tagA, h]
theorem tagA_one (l : List UInt8) : (tagA l).all (·.oneCell') = true := secV_one l
def zTag : List UInt8 := List.replicate 32 0
theorem zTag_len : zTag.length = 32 := by simp [zTag]
theorem info_tag : (Tryz.prog.info? 28).map (·.size) = some 32 := by kernel_rfl
theorem wpList_load_tag {w : World} {ops : Array Oper} {rest : List Oper} {op : Oper} {a : Act} {Q : Exit → Act → World → Prop} (hgd : op.guard = none) (x : Operand) (ho : op.op = .load 28 x)
  (b o : Nat) (hx : a.eval x = .pointer (some ⟨b, o, none⟩)) (l : List UInt8) (hc : w.rangeAt b o (l.map bv)) (hl : l.length = 32)
  (h : wpList Tryz.prog ops Q rest (a.put op.dst (.agg (tagA l))) w) : wpList Tryz.prog ops Q (op :: rest) a w :=
 wpList_load_mid hgd 28 x ho b o hx (l.map bv) _ hc Tryz.underlying28 rfl (by rw [List.length_map, hl]; exact info_tag) h
theorem range_of_rd {w : World} {b o : Nat} {l : List UInt8} (h : Rd w (some ⟨b, o, none⟩) l) : w.rangeAt b o (l.map bv) := by
 intro j v hv
 rw [List.getElem?_map] at hv
 obtain ⟨x, hx, rfl⟩ := Option.map_eq_some_iff.1 hv
 obtain ⟨b', o', e, hc⟩ := h j x hx
 injection e with e
 injection e with e1 e2
 subst e1 e2
 exact hc
theorem range_of_tag {w : World} {g : Nat} {t : TypeId} {fr : Nat × Nat} {l : List UInt8} (h : w.heap[g]? = some (.cells (tagA l) t fr)) : w.rangeAt g 0 (l.map bv) := by
 intro j v hv
 rw [cell_of_row _ _ _ _ _ _ h, Nat.zero_add]
 simpa [tagA] using hv
set_option maxRecDepth 100000 in
theorem Tag1_ok (A : Option Addr) (l : List UInt8) (w : World) (hr : Rd w A l) (hl : l.length = 32) :
  Calls Tryz.prog 174 #[.slice A 32 32] w fun e w' => e = .returned (.tuple #[.agg (tagA l), .bool true]) ∧ Chg Non w w' := by
 obtain ⟨b, o, rfl, hbl, _⟩ := hr.at_ (by omega)
 have HR := Lib.hid (range_of_rd hr)
 have HL := Lib.hid hl
 clear hr hl
 go_enter Tryz.func174, Tryz.ntmps174
 obtain ⟨Z, hZ⟩ : ∃ Z, tagA zTag = Z := ⟨_, rfl⟩
 go_wp2_with (first
   | (refine sel (some 5) (.sliceToArrayPointer 28 (.tmp 4)) ?_; refine wpList_plain rfl (fun K hK => ?_); go_simp; refine hK _ _ ?_)
   | (refine sel (some 6) (.load 28 (.tmp 5)) ?_; refine wpList_load_tag rfl (.tmp 5) rfl b o rfl l (fun j v hv => ((Chg.refl Non w).alloc _).cell_some (HR.out j v hv) (fun e => e)) HL.out ?_)
   | (refine sel none (.store 28 (.tmp 2) (.tmp 6)) ?_
      refine wpList_store_rowA rfl 28 (.tmp 2) (.tmp 6) rfl w.heap.size (tagA l) rfl rfl 28 _ (heap_alloc_new _ _) (by rw [tagA_size _ HL.out]; exact info_tag) (by rw [tagA_size _ HL.out]; rfl) (tagA_one _) ?_
      intro W hgW hbW
      have HB := Lib.hid hbW
      have hg1 : Chg Non w W := ((Chg.refl Non w).alloc _).then_new hgW (fun x e => by rw [e]; exact Nat.le_refl _)
      clear hbW hgW))
 exact bodyPost_ret (run_results_cell_tmp Tryz.results174 _ _ w.heap.size 28 (tagA l) (0, 0) _ (.bool true) rfl rfl HB.out Tryz.underlying28 rfl (by rw [tagA_size _ HL.out]; exact info_tag)) rfl ⟨rfl, hg1⟩
def rdTag (l : List UInt8) (er : Int) : List UInt8 × List UInt8 × Int :=
 if er = 0 then (if 32 ≤ l.length then (l.take 32, l.drop 32, 0) else (zTag, [], 50)) else (zTag, l, er)
theorem rdTag_len (l : List UInt8) (er : Int) : (rdTag l er).1.length = 32 := by
 unfold rdTag
 split
 ·split
  ·rw [List.length_take]; omega
  ·exact zTag_len
 ·exact zTag_len
def IsRB (S : Nat) (w : World) (p : Nat) (l : List UInt8) (er : Int) : Prop :=
 ∃ A c, w.heap[p]? = some (.cells #[.slice A l.length c, .bool true, .int .i64 er] 226 (0, 0)) ∧ Rd w A l ∧ l.length ≤ c ∧ c ≤ maxLen ∧ ∀ b o, A = some ⟨b, o, none⟩ → l ≠ [] → b < S
theorem IsR.below {w : World} {p : Nat} {l : List UInt8} {er : Int} (h : IsR w p l er) : IsRB w.heap.size w p l er := by
 obtain ⟨A, c, hb, hr, h3, h4⟩ := h
 refine ⟨A, c, hb, hr, h3, h4, ?_⟩
 rintro b o rfl hne
 obtain ⟨b', o', e, hlt, _⟩ := hr.at_ (List.length_pos_iff.2 hne)
 injection e with e
 injection e with e1 _
 subst e1
 exact hlt
theorem IsRB.keep {T : Nat → Prop} {S p : Nat} {w w' : World} {l : List UInt8} {er : Int} (h : IsRB S w p l er) (hg : Chg T w w') (hp : ¬ T p) (hT : ∀ b, b < S → ¬ T b) : IsRB S w' p l er := by
 obtain ⟨A, c, hb, hr, h3, h4, h5⟩ := h
 exact ⟨A, c, (hg.block p (Array.getElem?_eq_some_iff.1 hb).1 hp).trans hb, hr.keep hg (fun b o e hne => hT b (h5 b o e hne)), h3, h4, h5⟩
theorem IsRB.lt {S p : Nat} {w : World} {l : List UInt8} {er : Int} (h : IsRB S w p l er) : p < w.heap.size := by
 obtain ⟨A', c', hb, _⟩ := h; exact (Array.getElem?_eq_some_iff.1 hb).1
theorem IsRB.isR {S p : Nat} {w : World} {l : List UInt8} {er : Int} (h : IsRB S w p l er) : IsR w p l er := by
 obtain ⟨A, c, hb, hr, h3, h4, h5⟩ := h
 exact ⟨A, c, hb, hr, h3, h4⟩
set_option maxRecDepth 100000 in
theorem take_okB (S p n : Nat) (l : List UInt8) (w : World) (hR : IsRB S w p l 0) (hn : n ≤ l.length) :
  Calls Tryz.prog 197 #[.pointer (some ⟨p, 0, none⟩), .int .i64 n] w fun e w' => ∃ A, e = .returned (.tuple #[.slice A n n, .bool true]) ∧ Rd w' A (l.take n) ∧ IsRB S w' p (l.drop n) 0 ∧ Chg (At p) w w' := by
 have hw := rwhole_any p l 0 w hR.isR
 obtain ⟨A, c, hb, hr, hc, hm, hS⟩ := hR
 have h0 : w.cell? ⟨p, 0, none⟩ = some (.slice A l.length c) := by rw [cell_of_row _ _ _ _ _ _ hb]; rfl
 have f0 : w.frozen? ⟨p, 0, none⟩ = false := frozen_of_row _ _ _ _ _ hb
 have hne := rd_ne hb (fun x => by simp) hr
 have HB := Lib.hid hb
 have HW := Lib.hid hw
 clear hb hw
 unfold maxLen at hm
 have hd : decide ((n : Int) > l.length) = false := by simp; omega
 have hcl : ∀ (X : Option Addr) (d : Nat), (l.drop n ≠ [] → X = A.map (·.add n)) → l.length - n ≤ d → d ≤ maxLen →
   IsRB S (w.setCell ⟨p, 0, none⟩ (.slice X (l.length - n) d)) p (l.drop n) 0 ∧ Chg (At p) w (w.setCell ⟨p, 0, none⟩ (.slice X (l.length - n) d)) := by
  intro X d hX h1 h2
  obtain ⟨_, hg⟩ := take_close HB.out hr hn hc (by unfold maxLen; omega) X hX d h1 h2
  have hl : p < w.heap.size := (Array.getElem?_eq_some_iff.1 HB.out).1
  have hrd : Rd w X (l.drop n) := by
   by_cases h : l.drop n = []
   ·rw [h]; exact Rd.nil _ _
   ·rw [hX h]
    have h0 : 0 < l.length := by
     rcases Nat.eq_zero_or_pos l.length with h0 | h0
     ·exact absurd (List.drop_of_length_le (by omega)) h
     ·exact h0
    obtain ⟨b, o, rfl, _, _⟩ := hr.at_ h0
    simp only [Option.map_some, add_plain]
    exact hr.drop n
  have hXb : ∀ b o, X = some ⟨b, o, none⟩ → l.drop n ≠ [] → ∃ o', A = some ⟨b, o', none⟩ ∧ l ≠ [] := by
   intro b o e h
   rw [hX h] at e
   obtain ⟨a, ha, e'⟩ := Option.map_eq_some_iff.1 e
   have hl0 : l ≠ [] := by rintro rfl; simp at h
   obtain ⟨b', o', rfl, _, _⟩ := hr.at_ (List.length_pos_iff.2 hl0)
   injection ha with ha
   subst ha
   rw [add_plain] at e'
   injection e' with e1 e2
   subst e1
   exact ⟨_, rfl, hl0⟩
  refine ⟨⟨X, d, ?_, hrd.keep hg ?_, by rw [List.length_drop]; exact h1, h2, ?_⟩, hg⟩
  ·rw [heap_setCell_same _ _ _ _ _ _ HB.out, List.length_drop]; rfl
  ·intro b o e h
   obtain ⟨o', e', h'⟩ := hXb b o e h
   exact hne b o' e' h'
  ·intro b o e h
   obtain ⟨o', e', h'⟩ := hXb b o e h
   exact hS b o' e' h'
 have HCl := Lib.hid hcl
 clear hcl hS
 go_enter Tryz.func197, Tryz.ntmps197
 go_wp2_with fail
 refine HW.out.mono ?_
 rintro e w' ⟨rfl, rfl⟩
 by_cases hnl : n < l.length
 ·have hcn : ¬ c = n := by omega
  go_wp2
  go_ret2
  have hcl := HCl.out (A.map (·.add n)) (c - n) (fun _ => rfl) (by omega) (by unfold maxLen; omega)
  exact ⟨A, rfl, (hr.take n).keep hcl.2 (fun b o e h => hne b o e (take_ne h)), hcl⟩
 ·go_wp2
  all_goals
   go_ret2
   refine ⟨A, rfl, (hr.take n).keep ?_ (fun b o e h => hne b o e (take_ne h)), HCl.out _ _ (fun h => absurd (List.drop_of_length_le (by omega)) h) (by omega) (by unfold maxLen; omega)⟩
   exact (Chg.refl (At p) _).setCell (p := ⟨p, 0, none⟩) (.inl rfl) _
theorem new_block {w W : World} {o : Obj} (hg : Chg Non (w.alloc o) W) : W.heap[w.heap.size]? = some o :=
 (hg.block _ (by simp) (fun e => e)).trans (heap_alloc_new _ _)
set_option maxRecDepth 100000 in
theorem fieldTag_ok (S p : Nat) (l : List UInt8) (w : World) (hR : IsRB S w p l 0) (hSw : S ≤ w.heap.size) (hn : 32 ≤ l.length) :
  Calls Tryz.prog 173 #[.pointer (some ⟨p, 0, none⟩), .int .i64 32, .func (.func 174) #[] #[]] w fun e w' => e = .returned (.agg (tagA (l.take 32))) ∧ IsRB S w' p (l.drop 32) 0 ∧ Chg (At p) w w' := by
 have hg0 : ∀ o o' : Obj, Chg Non w ((w.alloc o).alloc o') := fun o o' => ((Chg.refl _ _).alloc _).alloc _
 have HT := Lib.hid (fun o o' => take_okB S p 32 l ((w.alloc o).alloc o') (hR.keep (hg0 o o') (fun e => e) (fun _ _ e => e)) hn)
 have hlp : p < w.heap.size := hR.lt
 have hl : (l.take 32).length = 32 := by rw [List.length_take]; omega
 obtain ⟨m, hm⟩ : ∃ m, l.take 32 = m := ⟨_, rfl⟩
 rw [hm] at HT hl ⊢
 have HL := Lib.hid hl
 clear hm hl hR hg0
 go_enter Tryz.func173, Tryz.ntmps173
 go_wp2_with fail
 refine (HT.out _ _).mono ?_
 rintro e w1 ⟨A, rfl, hr, hR1, hg⟩
 go_wp2_with fail
 refine (Tag1_ok A m w1 hr HL.out).mono ?_
 rintro e w2 ⟨rfl, hg2⟩
 have hgA : Chg (At p) w w2 := (((((Chg.refl Non w).alloc _).alloc _).non_then hg).then_non hg2)
 have hb0 : w2.heap[w.heap.size]? = some (.cells (tagA zTag) 28 (0, 0)) := by
  rw [hg2.block _ (by have := hg.size; simp at this; omega) (fun e => e), hg.block _ (by simp; omega) (by unfold At; omega), Below.heap_alloc _ _ _ (by simp), heap_alloc_new]
  rfl
 have HB0 := Lib.hid hb0
 have hz2 : w.heap.size < w2.heap.size := (Array.getElem?_eq_some_iff.1 hb0).1
 clear hb0 hr
 go_wp2_with (first
   | (refine sel none (.store 28 (.tmp 10) (.tmp 24)) ?_
      refine wpList_store_rowA rfl 28 (.tmp 10) (.tmp 24) rfl w2.heap.size (tagA m) rfl rfl 28 _ (heap_alloc_new _ _) (by rw [tagA_size _ HL.out]; exact info_tag) (by rw [tagA_size _ HL.out]; rfl) (tagA_one _) ?_
      intro W hgW hbW
      have HB := Lib.hid hbW
      have HGW := Lib.hid hgW
      have hb1 : W.heap[w.heap.size]? = some (.cells (tagA zTag) 28 (0, 0)) := by
        rw [hgW.block _ (by simp; omega) (by omega), Below.heap_alloc _ _ _ hz2]
        exact HB0.out
      have HB1 := Lib.hid hb1
      clear hbW hgW hb1)
   | (refine sel none (.store 28 (.tmp 6) (.tmp 31)) ?_
      refine wpList_store_rowA rfl 28 (.tmp 6) (.tmp 31) rfl w.heap.size (tagA m) rfl rfl 28 _ HB1.out (by rw [tagA_size _ HL.out]; exact info_tag) (by rw [tagA_size _ HL.out]; rfl) (tagA_one _) ?_
      intro W2 hgW2 hbW2
      have HB2 := Lib.hid hbW2
      have HGW2 := Lib.hid hgW2
      clear hbW2 hgW2)
   | (refine sel (some 31) (.load 28 (.tmp 10)) ?_; refine wpList_load_tag rfl (.tmp 10) rfl w2.heap.size 0 rfl m (range_of_tag HB.out) HL.out ?_))
 have hgB : Chg (At p) w W2 := (((hgA.alloc _).then_new HGW.out (fun x e => by omega))).then_new HGW2.out (fun x e => by omega)
 have hR2 := fun o => (hR1.keep hg2 (fun e => e) (fun _ _ e => e)).keep ((Chg.refl Non w2).alloc o) (fun e => e) (fun _ _ e => e)
 have hR3 := (hR2 _).keep HGW.out (by omega) (fun b hb e => by omega)
 have hR4 := hR3.keep HGW2.out (by omega) (fun b hb e => by omega)
 exact bodyPost_ret (results_cell_row Tryz.results173 _ _ w.heap.size 28 _ (0, 0) _ rfl HB2.out Tryz.underlying28 rfl (by rw [tagA_size _ HL.out]; exact info_tag)) rfl ⟨rfl, hR4, hgB⟩
theorem field_zero {w w2 : World} {o : Obj} {p : Nat} (hlp : p < w.heap.size) (hg : Chg (At p) ((w.alloc (.cells (tagA zTag) 28)).alloc o) w2) :
  w2.heap[w.heap.size]? = some (.cells (tagA zTag) 28 (0, 0)) := by
 rw [hg.block _ (by simp; omega) (by unfold At; omega), Below.heap_alloc _ _ _ (by simp), heap_alloc_new]
theorem field_zero1 {w w2 : World} {o : Obj} {p : Nat} (hlp : p < w.heap.size) (hg : Chg (At p) ((w.alloc o).alloc (.cells (tagA zTag) 28)) w2) :
  w2.heap[w.heap.size + 1]? = some (.cells (tagA zTag) 28 (0, 0)) := by
 rw [hg.block _ (by simp) (by unfold At; omega), heap_alloc2_new]
set_option maxRecDepth 100000 in
theorem fieldTag_no (S p : Nat) (l l' : List UInt8) (er er' : Int) (w : World) (hR : IsRB S w p l er) (hSw : S ≤ w.heap.size)
  (ht : ∀ W, IsRB S W p l er → Calls Tryz.prog 197 #[.pointer (some ⟨p, 0, none⟩), .int .i64 32] W fun e w' => e = .returned (.tuple #[.slice none 0 0, .bool false]) ∧ IsRB S w' p l' er' ∧ Chg (At p) W w') :
  Calls Tryz.prog 173 #[.pointer (some ⟨p, 0, none⟩), .int .i64 32, .func (.func 174) #[] #[]] w fun e w' => e = .returned (.agg (tagA zTag)) ∧ IsRB S w' p l' er' ∧ Chg (At p) w w' := by
 have hg0 : ∀ o o' : Obj, Chg Non w ((w.alloc o).alloc o') := fun o o' => ((Chg.refl _ _).alloc _).alloc _
 have hlp : p < w.heap.size := hR.lt
 have HT := Lib.hid (fun o o' => ht ((w.alloc o).alloc o') (hR.keep (hg0 o o') (fun e => e) (fun _ _ e => e)))
 clear hR hg0 ht
 go_enter Tryz.func173, Tryz.ntmps173
 go_wp2_with fail
 refine (HT.out _ _).mono ?_
 rintro e w2 ⟨rfl, hR1, hg⟩
 have HB0 := Lib.hid (field_zero hlp hg)
 have HB1 := Lib.hid (field_zero1 hlp hg)
 have hgA : Chg (At p) w w2 := ((((Chg.refl Non w).alloc _).alloc _).non_then hg)
 go_wp2_with (first
   | (refine sel (some 19) (.load 28 (.tmp 7)) ?_; refine wpList_load_tag rfl (.tmp 7) rfl (w.heap.size + 1) 0 rfl zTag (range_of_tag HB1.out) zTag_len ?_)
   | (refine sel none (.store 28 (.tmp 6) (.tmp 19)) ?_
      refine wpList_store_rowA rfl 28 (.tmp 6) (.tmp 19) rfl w.heap.size (tagA zTag) rfl rfl 28 _ HB0.out (by rw [tagA_size _ zTag_len]; exact info_tag) rfl (tagA_one _) ?_
      intro W2 hgW2 hbW2
      have HB2 := Lib.hid hbW2
      have HGW2 := Lib.hid hgW2
      clear hbW2 hgW2))
 have hgB : Chg (At p) w W2 := hgA.then_new HGW2.out (fun x e => by omega)
 have hR4 := hR1.keep HGW2.out (by omega) (fun b hb e => by omega)
 exact bodyPost_ret (results_cell_row Tryz.results173 _ _ w.heap.size 28 _ (0, 0) _ rfl HB2.out Tryz.underlying28 rfl (by rw [tagA_size _ zTag_len]; exact info_tag)) rfl ⟨rfl, hR4, hgB⟩
theorem fieldTag_any (S p : Nat) (l : List UInt8) (er : Int) (w : World) (hR : IsRB S w p l er) (hSw : S ≤ w.heap.size) :
  Calls Tryz.prog 173 #[.pointer (some ⟨p, 0, none⟩), .int .i64 32, .func (.func 174) #[] #[]] w fun e w' => e = .returned (.agg (tagA (rdTag l er).1)) ∧ IsRB S w' p (rdTag l er).2.1 (rdTag l er).2.2 ∧ Chg (At p) w w' := by
 unfold rdTag
 by_cases he : er = 0
 ·subst he
  by_cases hl : 32 ≤ l.length
  ·simp only [hl, if_true]
   exact fieldTag_ok S p l w hR hSw hl
  ·simp only [hl, if_true, if_false]
   refine fieldTag_no S p l [] 0 50 w hR hSw (fun W hR' => (take_short p 32 l W hR'.isR (by omega)).mono ?_)
   rintro e w' ⟨rfl, ⟨A, c, h1, h2, h3, h4⟩, hg'⟩
   exact ⟨rfl, ⟨A, c, h1, h2, h3, h4, fun _ _ _ h => absurd rfl h⟩, hg'⟩
 ·simp only [he, if_false]
  refine fieldTag_no S p l l er er w hR hSw (fun W hR' => (take_broken p 32 l er W hR'.isR he).mono ?_)
  rintro e w' ⟨rfl, rfl⟩
  exact ⟨rfl, hR', Chg.refl _ _⟩
end
section
theorem rdByte_cons (x : UInt8) (r : List UInt8) : rdByte (x :: r) 0 = (x, r, 0) := rfl
theorem rdFlag_b (b : Bool) (r : List UInt8) : rdFlag (flagB b :: r) 0 = (b, r, 0) := by
 cases b <;> rfl
theorem rdTag_app (h r : List UInt8) (hh : h.length = 32) : rdTag (h ++ r) 0 = (h, r, 0) := by
 unfold rdTag
 have h1 : (h ++ r).take 32 = h := by rw [← hh, List.take_left]
 have h2 : (h ++ r).drop 32 = r := by rw [← hh, List.drop_left]
 rw [if_pos rfl, if_pos (by rw [List.length_append]; omega), h1, h2]
end
section
open Go.RowKit
def parseS (l : List UInt8) : Option Sta :=
 let r := Rs.sta ⟨l, 0, false⟩
 if r.2.er = 0 ∧ r.2.l = [] ∧ r.2.wide = false ∧ mayS r.1 = true then some r.1 else none
theorem wInt_len (n : Int) : (wInt n).length = 8 := be_length _ _
theorem Rs.int_w {n : Int} (h : I64 n) (r : List UInt8) (wd : Bool) : Rs.int ⟨wInt n ++ r, 0, wd⟩ = (n, ⟨r, 0, wd⟩) := by
 have h' := rdInt_be n r h.1 h.2
 unfold Rs.int wInt
 simp only [h']
theorem Rs.word_w {x : Nat} (h : x < 4294967296) (r : List UInt8) : Rs.word ⟨wInt (x : Int) ++ r, 0, false⟩ = (x, ⟨r, 0, false⟩) := by
 unfold Rs.word
 rw [Rs.int_w ⟨by omega, by omega⟩]
 have h1 : decide ((x : Int) < 0) = false := by simp
 have h2 : decide (4294967296 ≤ (x : Int)) = false := by rw [decide_eq_false_iff_not]; omega
 have h3 : ((x : Int) % 4294967296).toNat = x := by omega
 simp only [h1, h2, h3, Bool.or_false]
theorem Rs.flag_w (b : Bool) (r : List UInt8) (wd : Bool) : Rs.flag ⟨flagB b :: r, 0, wd⟩ = (b, ⟨r, 0, wd⟩) := by
 unfold Rs.flag
 simp only [rdFlag_b b r]
theorem Rs.byte_w (x : UInt8) (r : List UInt8) (wd : Bool) : Rs.byte ⟨x :: r, 0, wd⟩ = (x, ⟨r, 0, wd⟩) := by
 unfold Rs.byte
 simp only [rdByte_cons x r]
theorem take_app {α : Type} {a b : List α} {n : Nat} (h : a.length = n) : (a ++ b).take n = a := by rw [← h, List.take_left]
theorem drop_app {α : Type} {a b : List α} {n : Nat} (h : a.length = n) : (a ++ b).drop n = b := by rw [← h, List.drop_left]
theorem rdBytes_w {m : List UInt8} (h : m.length ≤ 65536) (r : List UInt8) : rdBytes (wBy m ++ r) 0 = (m, r, 0) := by
 have hl : (be m.length 4).length = 4 := be_length _ _
 have e0 : wBy m ++ r = be m.length 4 ++ (m ++ r) := by unfold wBy; rw [List.append_assoc]
 have e1 : (be m.length 4 ++ (m ++ r)).take 4 = be m.length 4 := take_app hl
 have e2 : (be m.length 4 ++ (m ++ r)).drop 4 = m ++ r := drop_app hl
 have e3 : num (be m.length 4) = m.length := num_be _ _ (by omega)
 have e4 : 4 ≤ (be m.length 4 ++ (m ++ r)).length := by rw [List.length_append, hl]; omega
 have e5 : m.length ≤ (m ++ r).length := by rw [List.length_append]; omega
 have e6 : (m ++ r).take m.length = m := take_app rfl
 have e7 : (m ++ r).drop m.length = r := drop_app rfl
 unfold rdBytes
 rw [e0, if_pos rfl, if_pos e4, e1, e2, e3, if_pos h, if_pos e5, e6, e7]
theorem Rs.bytes_w {m : List UInt8} (h : m.length ≤ 65536) (r : List UInt8) (wd : Bool) : Rs.bytes ⟨wBy m ++ r, 0, wd⟩ = (m, ⟨r, 0, wd⟩) := by
 unfold Rs.bytes
 simp only [rdBytes_w h r]
theorem rdCount_w {n top : Nat} {r : List UInt8} (h : n ≤ top) (ht : top ≤ 1000) (hr : n ≤ r.length) : rdCount top (wInt (n : Int) ++ r) 0 = ((n : Int), r, 0) := by
 have hl : (wInt (n : Int)).length = 8 := wInt_len _
 have e1 : (wInt (n : Int) ++ r).take 8 = wInt (n : Int) := take_app hl
 have e2 : (wInt (n : Int) ++ r).drop 8 = r := drop_app hl
 have e3 : i64 (num (wInt (n : Int))) = n := by
  unfold wInt
  rw [num_be _ _ (u64_lt _)]
  exact i64_u64 _ (by omega) (by omega)
 have e4 : 8 ≤ (wInt (n : Int) ++ r).length := by rw [List.length_append, hl]; omega
 have e5 : 0 ≤ (n : Int) ∧ (n : Int) ≤ min (top : Int) (r.length : Int) := by omega
 unfold rdCount
 rw [if_pos rfl, if_pos e4, e1, e2, e3, if_pos e5]
theorem Rs.count_w {n top : Nat} {r : List UInt8} (h : n ≤ top) (ht : top ≤ 1000) (hr : n ≤ r.length) (wd : Bool) : Rs.count top ⟨wInt (n : Int) ++ r, 0, wd⟩ = (n, ⟨r, 0, wd⟩) := by
 unfold Rs.count
 simp only [rdCount_w h ht hr, Int.toNat_natCast]
theorem Rs.many_w {α : Type} {f : Rs → α × Rs} {w : α → List UInt8} : ∀ (l : List α) (r : List UInt8), (∀ a ∈ l, ∀ r, f ⟨w a ++ r, 0, false⟩ = (a, ⟨r, 0, false⟩)) → Rs.many f l.length ⟨l.flatMap w ++ r, 0, false⟩ = (l, ⟨r, 0, false⟩)
 | [], r, _ => rfl
 | a :: l, r, h => by
  have h1 := h a (List.mem_cons_self ..) (l.flatMap w ++ r)
  have h2 := Rs.many_w l r (fun b hb => h b (List.mem_cons_of_mem _ hb))
  rw [List.flatMap_cons, List.append_assoc, List.length_cons]
  unfold Rs.many
  rw [h1]
  simp only [h2]
theorem len_flat {α : Type} {w : α → List UInt8} (l : List α) (h : ∀ a ∈ l, 1 ≤ (w a).length) : l.length ≤ (l.flatMap w).length := by
 induction l with
 | nil => simp
 | cons a l ih =>
  have h1 := h a (List.mem_cons_self ..)
  have h2 := ih (fun b hb => h b (List.mem_cons_of_mem _ hb))
  rw [List.flatMap_cons, List.length_append, List.length_cons]
  omega
theorem Rs.rows_w {α : Type} {f : Rs → α × Rs} {w : α → List UInt8} {top : Nat} (l : List α) (r : List UInt8) (hl : l.length ≤ top) (ht : top ≤ 1000) (h1 : ∀ a ∈ l, 1 ≤ (w a).length) (h : ∀ a ∈ l, ∀ r, f ⟨w a ++ r, 0, false⟩ = (a, ⟨r, 0, false⟩)) :
  Rs.rows top f ⟨wInt (l.length : Int) ++ (l.flatMap w ++ r), 0, false⟩ = (l, ⟨r, 0, false⟩) := by
 unfold Rs.rows
 rw [Rs.count_w hl ht (by have := len_flat l h1; rw [List.length_append]; omega)]
 exact Rs.many_w l r h
theorem Rs.words_w {l : List Nat} (h8 : l.length = 8) (h : ∀ i, l.getD i 0 < 4294967296) (r : List UInt8) : Rs.words 8 ⟨wWords l ++ r, 0, false⟩ = (l, ⟨r, 0, false⟩) := by
 unfold Rs.words
 rw [← h8]
 refine Rs.many_w (w := fun x : Nat => wInt (x : Int)) l r (fun a ha r => ?_)
 obtain ⟨i, hi⟩ := List.getElem?_of_mem ha
 have := h i
 rw [List.getD, hi] at this
 exact Rs.word_w this r
theorem Rs.pt_w {p : Pt} (h : p.Bd) (hm : p.mem.length ≤ 65536) (r : List UInt8) : Rs.pt ⟨wPt p ++ r, 0, false⟩ = (p, ⟨r, 0, false⟩) := by
 have e : wPt p ++ r = wInt p.id ++ (wInt p.size ++ (flagB p.keep :: (wWords p.r ++ (wInt (p.pc : Int) ++ (UInt8.ofNat p.st :: (wBy p.mem ++ r)))))) := by
  unfold wPt
  simp only [List.append_assoc, List.cons_append]
 have e1 := Rs.int_w (n := p.id) h.idb (wInt p.size ++ (flagB p.keep :: (wWords p.r ++ (wInt (p.pc : Int) ++ (UInt8.ofNat p.st :: (wBy p.mem ++ r)))))) false
 have e2 := Rs.int_w (n := p.size) h.sizeb (flagB p.keep :: (wWords p.r ++ (wInt (p.pc : Int) ++ (UInt8.ofNat p.st :: (wBy p.mem ++ r))))) false
 have e3 := Rs.flag_w p.keep (wWords p.r ++ (wInt (p.pc : Int) ++ (UInt8.ofNat p.st :: (wBy p.mem ++ r)))) false
 have e4 := Rs.words_w h.r8 h.rb (wInt (p.pc : Int) ++ (UInt8.ofNat p.st :: (wBy p.mem ++ r)))
 have e5 := Rs.word_w h.pcb (UInt8.ofNat p.st :: (wBy p.mem ++ r))
 have e6 := Rs.byte_w (UInt8.ofNat p.st) (wBy p.mem ++ r) false
 have e7 := Rs.bytes_w hm r false
 have e8 : (UInt8.ofNat p.st).toNat = p.st := by rw [ofNat_toNat]; have := h.stb; omega
 rw [e]
 unfold Rs.pt
 simp only [e1, e2, e3, e4, e5, e6, e7, e8]
theorem wMs_rd {l : List (List UInt8)} (h4 : l.length ≤ 4) (hm : ∀ m ∈ l, m.length ≤ 65536) (r : List UInt8) : Rs.rows 4 Rs.bytes ⟨wMs l ++ r, 0, false⟩ = (l, ⟨r, 0, false⟩) := by
 have e : wMs l ++ r = wInt (l.length : Int) ++ (l.flatMap wBy ++ r) := by unfold wMs; rw [List.append_assoc]
 rw [e]
 exact Rs.rows_w l r h4 (by omega) (fun a _ => by unfold wBy; rw [List.length_append, be_length]; omega) (fun a ha r => Rs.bytes_w (hm a ha) r false)
theorem Rs.qu_w {q : Qu} (h : q.ch.Bd) (h4 : q.msgs.length ≤ 4) (hm : ∀ m ∈ q.msgs, m.length ≤ 65536) (r : List UInt8) : Rs.qu ⟨wQu q ++ r, 0, false⟩ = (q, ⟨r, 0, false⟩) := by
 obtain ⟨b1, b2, b3, b4, b5⟩ := h
 obtain ⟨⟨c1, c2, c3, c4, c5⟩, ms⟩ := q
 simp only at b1 b2 b3 b4 b5 h4 hm
 have e : wQu ⟨⟨c1, c2, c3, c4, c5⟩, ms⟩ ++ r = wInt c1 ++ (wInt c2 ++ (wInt c3 ++ (wInt c4 ++ (wInt c5 ++ (wMs ms ++ r))))) := by
  unfold wQu
  simp only [List.append_assoc]
 have e1 := Rs.int_w b1 (wInt c2 ++ (wInt c3 ++ (wInt c4 ++ (wInt c5 ++ (wMs ms ++ r))))) false
 have e2 := Rs.int_w b2 (wInt c3 ++ (wInt c4 ++ (wInt c5 ++ (wMs ms ++ r)))) false
 have e3 := Rs.int_w b3 (wInt c4 ++ (wInt c5 ++ (wMs ms ++ r))) false
 have e4 := Rs.int_w b4 (wInt c5 ++ (wMs ms ++ r)) false
 have e5 := Rs.int_w b5 (wMs ms ++ r) false
 have e6 := wMs_rd h4 hm r
 rw [e]
 unfold Rs.qu
 simp only [e1, e2, e3, e4, e5, e6]
structure StBd (s : Sta) : Prop where
 fr : I64 s.frames
 np : s.parts.length ≤ 6
 nq : s.queues.length ≤ 8
 ps : ∀ p ∈ s.parts, p.Bd ∧ p.mem.length ≤ 512
 qs : ∀ q ∈ s.queues, q.ch.Bd ∧ q.msgs.length ≤ 4 ∧ ∀ m ∈ q.msgs, m.length ≤ 16
theorem Rs.sta_w {s : Sta} (h : StBd s) : Rs.sta ⟨formS s, 0, false⟩ = (s, ⟨[], 0, false⟩) := by
 have e1 := Rs.int_w h.fr (wInt (s.parts.length : Int) ++ (s.parts.flatMap wPt ++ (wInt (s.queues.length : Int) ++ s.queues.flatMap wQu))) false
 have e2 := Rs.rows_w (f := Rs.pt) (w := wPt) (top := 6) s.parts (wInt (s.queues.length : Int) ++ s.queues.flatMap wQu) h.np (by omega) (fun a _ => by unfold wPt; rw [List.length_append, wInt_len]; omega)
  (fun a ha r => Rs.pt_w (h.ps a ha).1 (by have := (h.ps a ha).2; omega) r)
 have e3 := Rs.rows_w (f := Rs.qu) (w := wQu) (top := 8) s.queues [] h.nq (by omega) (fun a _ => by unfold wQu; rw [List.length_append, wInt_len]; omega)
  (fun a ha r => Rs.qu_w (h.qs a ha).1 (h.qs a ha).2.1 (fun m hm => by have := (h.qs a ha).2.2 m hm; omega) r)
 rw [List.append_nil] at e3
 unfold Rs.sta formS
 simp only [e1, e2, e3]
theorem parseS_form {s : Sta} (h : StBd s) (hm : mayS s = true) : parseS (formS s) = some s := by
 unfold parseS
 simp only [Rs.sta_w h, hm, and_self, if_true]
theorem flat_le {α : Type} {w : α → List UInt8} {k : Nat} (l : List α) (h : ∀ a ∈ l, (w a).length ≤ k) : (l.flatMap w).length ≤ l.length * k := by
 induction l with
 | nil => simp
 | cons a l ih =>
  have h1 := h a (List.mem_cons_self ..)
  have h2 := ih (fun b hb => h b (List.mem_cons_of_mem _ hb))
  rw [List.flatMap_cons, List.length_append, List.length_cons, Nat.add_mul]
  omega
theorem wBy_len (m : List UInt8) : (wBy m).length = 4 + m.length := by unfold wBy; rw [List.length_append, be_length]
theorem wWords_len {r : List Nat} (h8 : r.length = 8) : (wWords r).length = 64 := by
  unfold wWords
  have : ∀ l : List Nat, (l.flatMap fun x : Nat => wInt (x : Int)).length = l.length * 8 := by
   intro l
   induction l with
   | nil => rfl
   | cons a l ih => rw [List.flatMap_cons, List.length_append, wInt_len, ih, List.length_cons]; omega
  rw [this, h8]
theorem wPt_len {p : Pt} (h8 : p.r.length = 8) : (wPt p).length = 94 + p.mem.length := by
 have hw := wWords_len h8
 unfold wPt
 simp only [List.length_append, List.length_cons, wInt_len, wBy_len, hw]
 omega
theorem wQu_len {q : Qu} (h4 : q.msgs.length ≤ 4) (hm : ∀ m ∈ q.msgs, m.length ≤ 16) : (wQu q).length ≤ 128 := by
 have h := flat_le (w := wBy) (k := 20) q.msgs (fun a ha => by rw [wBy_len]; have := hm a ha; omega)
 unfold wQu wMs
 simp only [List.length_append, wInt_len]
 omega
theorem formS_len {s : Sta} (h : StBd s) : (formS s).length ≤ 4684 ∧ 1 ≤ (formS s).length := by
 have h1 := flat_le (w := wPt) (k := 606) s.parts (fun a ha => by rw [wPt_len (h.ps a ha).1.r8]; have := (h.ps a ha).2; omega)
 have h2 := flat_le (w := wQu) (k := 128) s.queues (fun a ha => wQu_len (h.qs a ha).2.1 (h.qs a ha).2.2)
 have h3 := h.np
 have h4 := h.nq
 unfold formS
 simp only [List.length_append, wInt_len]
 omega
theorem mayL_all {α : Type} {ok : α → Bool} {id : α → Int} {l : List α} (h : mayL ok id l = true) : ∀ a ∈ l, ok a = true := by
 intro a ha
 obtain ⟨k, hk⟩ := List.getElem?_of_mem ha
 rw [mayL, List.all_eq_true] at h
 have := h k (List.mem_range.2 (List.getElem?_eq_some_iff.1 hk).1)
 simp only [stepMay, hk, Bool.and_eq_true] at this
 exact this.1
theorem chPart_le {n : Int} (h : chPart n = true) : 1 ≤ n ∧ n ≤ 6 := by
 simp only [chPart, Bool.and_eq_true, decide_eq_true_eq] at h
 omega
theorem chMay_bd {a : Ch} (h : a.may = true) : a.Bd ∧ a.cap ≤ 4 ∧ a.size ≤ 16 := by
 simp only [Ch.may, chMay, Bool.and_eq_true, decide_eq_true_eq] at h
 obtain ⟨⟨⟨⟨⟨⟨⟨⟨h1, h2⟩, h3⟩, h4⟩, _⟩, h5⟩, h6⟩, h7⟩, h8⟩ := h
 have h3' := chPart_le h3
 have h4' := chPart_le h4
 refine ⟨⟨⟨?_, ?_⟩, ⟨?_, ?_⟩, ⟨?_, ?_⟩, ⟨?_, ?_⟩, ⟨?_, ?_⟩⟩, ?_, ?_⟩ <;> omega
theorem mayQ_bd {q : Qu} (h : mayQ q = true) : q.ch.Bd ∧ q.msgs.length ≤ 4 ∧ ∀ m ∈ q.msgs, m.length ≤ 16 := by
 simp only [mayQ, Bool.and_eq_true, decide_eq_true_eq, Bool.not_eq_true', List.any_eq_false] at h
 obtain ⟨⟨h1, h2⟩, h3⟩ := h
 obtain ⟨b, h4, h5⟩ := chMay_bd h1
 refine ⟨b, by omega, fun m hm => ?_⟩
 have := h3 m hm
 omega
theorem partOk_mem {p : Pt} (h : partOk p = true) : p.mem.length ≤ 512 := by
 simp only [partOk, Bool.and_eq_true, decide_eq_true_eq] at h
 obtain ⟨⟨⟨_, h1⟩, h2⟩, _⟩ := h
 have := regMay_iff.1 h1
 omega
theorem stBd_may {s : Sta} (hm : mayS s = true) (hp : ∀ p ∈ s.parts, p.Bd) : StBd s := by
 simp only [mayS, Bool.and_eq_true, decide_eq_true_eq] at hm
 obtain ⟨⟨⟨⟨⟨h1, h2⟩, h3⟩, h4⟩, h5⟩, h6⟩ := hm
 exact ⟨⟨by omega, by omega⟩, h3, h4, fun p h => ⟨hp p h, partOk_mem (mayL_all h5 p h)⟩, fun q h => mayQ_bd (mayL_all h6 q h)⟩
end
end Go.Proofs.YtkgnlobabknkcaaGreat
