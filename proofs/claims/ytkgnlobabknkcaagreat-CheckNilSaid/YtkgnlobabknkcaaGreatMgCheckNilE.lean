/- CheckNil, part 5 of 14: contracts of the functions that it reaches, and the laws that they need, merged and shortened (from my texts XSMay, XEqA, XEqf, XStL, XSIs). -/
import Derived.Test.YtkgnlobabknkcaaGreatMgCheckNilA
import Derived.Test.YtkgnlobabknkcaaGreatMgCheckNilB
import Derived.Test.YtkgnlobabknkcaaGreatMgCheckNilC
import Derived.Test.YtkgnlobabknkcaaGreatMgCheckNilD
import Derived.DeepKeys
import Derived.ChangeSlices
import Derived.Laws.StructEq
import Derived.OpenShut
namespace Go.Proofs.YtkgnlobabknkcaaGreat
set_option linter.unusedVariables false
set_option linter.unusedSimpArgs false
set_option maxHeartbeats 8000000
section
open Go.RowKit
def stepMay {α : Type} (ok : α → Bool) (id : α → Int) (l : List α) (k : Nat) : Bool :=
 match l[k]? with
 | none => true
 | some a => ok a && (match k with
   | 0 => true
   | j + 1 => match l[j]? with
     | none => true
     | some b => decide (id b < id a))
def mayL {α : Type} (ok : α → Bool) (id : α → Int) (l : List α) : Bool := (List.range l.length).all (stepMay ok id l)
section
variable {α : Type} {ok : α → Bool} {id : α → Int} {l : List α}
theorem mayL_no {k : Nat} {a : α} (ha : l[k]? = some a) (h : stepMay ok id l k = false) : mayL ok id l = false := by
 rw [mayL, List.all_eq_false]
 exact ⟨k, List.mem_range.2 (List.getElem?_eq_some_iff.1 ha).1, by rw [h]; simp⟩
theorem mayL_yes (h : ∀ j, j < l.length → stepMay ok id l j = true) : mayL ok id l = true := by
 rw [mayL, List.all_eq_true]
 exact fun j hj => h j (List.mem_range.1 hj)
theorem stepMay_bad {k : Nat} {a : α} (ha : l[k]? = some a) (h : ok a = false) : mayL ok id l = false := mayL_no ha (by simp [stepMay, ha, h])
theorem stepMay_prev {k : Nat} {a b : α} (ha : l[k + 1]? = some a) (hb : l[k]? = some b) (h : ¬ id b < id a) : mayL ok id l = false := mayL_no ha (by simp [stepMay, ha, hb]; intro _; omega)
theorem stepMay_zero {a : α} (ha : l[0]? = some a) (h : ok a = true) : stepMay ok id l 0 = true := by simp [stepMay, ha, h]
theorem stepMay_succ {k : Nat} {a b : α} (ha : l[k + 1]? = some a) (h : ok a = true) (hb : l[k]? = some b) (hi : id b < id a) : stepMay ok id l (k + 1) = true := by simp [stepMay, ha, hb, h, hi]
end
def mayS (s : Sta) : Bool := decide (0 ≤ s.frames) && decide (s.frames ≤ 1099511627776) && decide (s.parts.length ≤ 6) && decide (s.queues.length ≤ 8) && mayL partOk Pt.id s.parts && mayL mayQ (fun q : Qu => q.ch.id) s.queues
set_option maxRecDepth 100000 in
theorem smay_ok (I : Nat → Prop) (s : Sta) (vb vd : Value) (w : World) (h : StaV I w s vb vd) :
  Calls Tryz.prog 23 #[.agg #[.int .i64 s.frames, vb, vd]] w fun e w' => e = .returned (.bool (mayS s)) ∧ Chg Non w w' := by
 obtain ⟨⟨A, c, rfl, hc, hcm, hrp⟩, ⟨A2, c2, rfl, hc2, hcm2, hrq⟩⟩ := h
 unfold maxLen at hcm hcm2
 obtain ⟨boxS, hbox⟩ : ∃ o, Obj.cells #[.int .i64 s.frames, .slice A s.parts.length c, .slice A2 s.queues.length c2] 25 = o := ⟨_, rfl⟩
 have HBX : Hid ((w.alloc boxS).heap[w.heap.size]? = some (.cells #[.int .i64 s.frames, .slice A s.parts.length c, .slice A2 s.queues.length c2] 25 (0, 0))) := Lib.hid (by rw [← hbox]; exact blk_new _ _)
 have HRP := Lib.hid (hrp.non ((Chg.refl Non w).alloc boxS) (fun a vs h => ptV_non _ _ _ _ ((Chg.refl Non w).alloc boxS) h))
 have HRQ := Lib.hid (hrq.non ((Chg.refl Non w).alloc boxS) (fun a vs h => quV_non _ _ _ _ ((Chg.refl Non w).alloc boxS) h))
 have HE : Hid (mayS s = (decide (0 ≤ s.frames) && decide (s.frames ≤ 1099511627776) && decide (s.parts.length ≤ 6) && decide (s.queues.length ≤ 8) && mayL partOk Pt.id s.parts && mayL mayQ (fun q : Qu => q.ch.id) s.queues)) := Lib.hid rfl
 have b0 := blk_cell HBX.out 0 (v := .int .i64 s.frames) rfl
 have b1 := blk_cell HBX.out 1 (v := .slice A s.parts.length c) rfl
 have b2 := blk_cell HBX.out 2 (v := .slice A2 s.queues.length c2) rfl
 clear hrp hrq
 by_cases h0 : s.frames < 0
 ·have d0 : decide (s.frames < 0) = true := by simpa using h0
  have HE2 : Hid (mayS s = false) := Lib.hid (by rw [HE.out, decide_eq_false (p := 0 ≤ s.frames) (by omega)]; rfl)
  clear HE
  go_enter Tryz.func23, Tryz.ntmps23
  go_wp2_with fail
  go_ret
  exact ⟨ret_b HE2.out.symm, (Chg.refl Non w).alloc _⟩
 have d0 : decide (s.frames < 0) = false := by simpa using h0
 by_cases h1 : 1099511627776 < s.frames
 ·have d1 : decide (1099511627776 < s.frames) = true := by simpa using h1
  have HE2 : Hid (mayS s = false) := Lib.hid (by rw [HE.out, decide_eq_false (p := s.frames ≤ 1099511627776) (by omega)]; simp)
  clear HE
  go_enter Tryz.func23, Tryz.ntmps23
  go_wp2_with fail
  go_ret
  exact ⟨ret_b HE2.out.symm, (Chg.refl Non w).alloc _⟩
 have d1 : decide (1099511627776 < s.frames) = false := by simpa using h1
 by_cases h2 : 6 < s.parts.length
 ·have d2 : decide (6 < (s.parts.length : Int)) = true := by rw [decide_eq_true_eq]; omega
  have HE2 : Hid (mayS s = false) := Lib.hid (by rw [HE.out, decide_eq_false (p := s.parts.length ≤ 6) (by omega)]; simp)
  clear HE
  go_enter Tryz.func23, Tryz.ntmps23
  go_wp2_with fail
  go_ret
  exact ⟨ret_b HE2.out.symm, (Chg.refl Non w).alloc _⟩
 have d2 : decide (6 < (s.parts.length : Int)) = false := by rw [decide_eq_false_iff_not]; omega
 by_cases h3 : 8 < s.queues.length
 ·have d3 : decide (8 < (s.queues.length : Int)) = true := by rw [decide_eq_true_eq]; omega
  have HE2 : Hid (mayS s = false) := Lib.hid (by rw [HE.out, decide_eq_false (p := s.queues.length ≤ 8) (by omega)]; simp)
  clear HE
  go_enter Tryz.func23, Tryz.ntmps23
  go_wp2_with fail
  go_ret
  exact ⟨ret_b HE2.out.symm, (Chg.refl Non w).alloc _⟩
 have d3 : decide (8 < (s.queues.length : Int)) = false := by rw [decide_eq_false_iff_not]; omega
 have HEf : Hid (mayL partOk Pt.id s.parts = false → mayS s = false) := Lib.hid (fun h => by rw [HE.out, h]; simp)
 go_enter Tryz.func23, Tryz.ntmps23
 go_wp2_with fail
 go_loopw [30] (fun iv wr => ∃ k : Nat, k ≤ s.parts.length ∧ iv = .int .i64 k ∧ Hid (∀ j, j < k → stepMay partOk Pt.id s.parts j = true) ∧ Hid (Chg Non (w.alloc boxS) wr)) (fun iv _ => s.parts.length - (intOf iv).toNat)
 case atStart => exact ⟨0, Nat.zero_le _, rfl, Lib.hid (fun j h => by omega), Lib.hid (by rw [← hbox]; exact Chg.refl _ _)⟩
 case round =>
  obtain ⟨k, hk, rfl, HN, HG⟩ := hrel
  have hbx0 := blk_keep HBX.out HG.out (fun e => e)
  have hlw : w.heap.size < wr.heap.size := blk_lt hbx0
  by_cases hlt : k < s.parts.length
  ·obtain ⟨a, ha⟩ : ∃ a, s.parts[k]? = some a := ⟨_, List.getElem?_eq_getElem hlt⟩
   have hltd : decide ((k : Int) < (s.parts.length : Int)) = true := by simpa using hlt
   obtain ⟨b, o, vs, rfl, _, hvl, hrg, hR⟩ := (HRP.out.non HG.out (fun a vs h => ptV_non _ _ _ _ HG.out h)) k a ha
   have hbl := rng_lt hrg (by omega)
   obtain ⟨mv, rfl, hmv, hbd, hml⟩ := hR
   have HA := Lib.hid ha
   have HL := Lib.hid hbd.r8
   have ho1 : mv.oneCell' = true := by obtain ⟨A, c, e, _⟩ := hmv; rw [e]; rfl
   have HM : Hid (∀ W : World, Calls Tryz.prog 58 #[.agg (partC a mv)] W fun e w' => e = .returned (.bool (partOk a)) ∧ Chg Non W w') := Lib.hid (fun W => by
     obtain ⟨A, c, rfl, _⟩ := hmv
     exact spart_ok a A c W hbd.r8)
   obtain ⟨x, hx⟩ : ∃ x, a.id = x := ⟨_, rfl⟩
   obtain ⟨m, hm⟩ : ∃ m, partOk a = m := ⟨_, rfl⟩
   rw [hm] at HM
   have HMX := Lib.hid (And.intro hm hx)
   have HRG := Lib.hid hrg
   clear hm hrg hmv hml hbd ha
   go_wp2_with (first
     | (refine sel (some 34) (.load 104 _) ?_; refine wpList_load_mid rfl 104 (.tmp 33) rfl b (o + k * 14) rfl (partL a mv) _ HRG.out Tryz.underlying104 rfl (by rw [hvl]; exact info_part) ?_)
     | (refine sel none (.store 104 (.tmp 4) (.tmp 34)) ?_
        refine wpList_store_rowA rfl 104 (.tmp 4) (.tmp 34) rfl wr.heap.size (partC a mv) rfl rfl 104 zeroPart (blk_new _ _) (by rw [partC_size HL.out]; exact info_part) (by rw [partC_size HL.out]; rfl) (partC_one _ _ ho1) ?_
        intro W1 hgW hbW))
   obtain ⟨v, hv⟩ : ∃ v, v = W1.drew := ⟨_, rfl⟩
   have hv0 : v.heap[wr.heap.size]? = some (.cells (partC a mv) 104 (0, 0)) := by rw [hv]; exact hbW
   have hgv0 : Chg Non wr W1 := ((Chg.refl Non wr).alloc _).then_new hgW (fun x e => by omega)
   have hgv : Chg Non wr v := by rw [hv]; exact hgv0.drew
   have hpx : v.cell? ⟨wr.heap.size, 0, none⟩ = some (.int .i64 x) := by
    have := HMX.out.2
    subst this
    exact blk_cell hv0 0 rfl
   have hbx : v.cell? ⟨w.heap.size, 1, none⟩ = some (.slice (some ⟨b, o, none⟩) s.parts.length c) := blk_cell (blk_keep hbx0 hgv (fun e => e)) 1 rfl
   have HGV := Lib.hid hgv
   have HG0 := Lib.hid HG.out
   cases m with
   | false =>
    refine wp_region_held_drew (S := Chg Non W1.drew) (by kernel_rfl) (Chg.refl _ _) (fun hHeld => ?_)
    clear hHeld
    rw [← hv]
    clear hv
    refine h_load 0 (some 35) 104 (.tmp 4) wr.heap.size 0 (partC a mv) _ rfl (by kernel_rfl) (by kernel_rfl) (by kernel_rfl) (by kernel_rfl) (by kernel_rfl) (fun _ _ _ h => h) (by kernel_rfl) (by kernel_rfl) (fun W hW => range_keepS (blk_range hv0) hW (fun e => e)) Tryz.underlying104 rfl (by rw [partC_size HL.out]; exact info_part) (Chg.refl Non _) ?_
    simp only [Act.put, sA, sB, sC]
    refine h_one 1 (by kernel_rfl) rfl (by kernel_rfl) ?_
    intro K hK
    go_simp
    refine (HM.out _).mono ?_
    rintro e u1 ⟨rfl, hg⟩
    have HC1 := Lib.hid (Chg.then_non (Chg.refl Non _) hg)
    clear hg
    refine hK.out _ _ HC1.out (fun _ => ?_)
    clear hK K
    try simp only [Act.put, sA, sB, sC]
    refine hp 2 37 (.bool true) rfl HC1.out ?_
    refine hp 3 38 (.bool true) rfl HC1.out ?_
    refine hs 4 39 rfl HC1.out ?_
    refine hs 5 40 rfl HC1.out ?_
    refine hs 6 41 rfl HC1.out ?_
    refine hs 7 42 rfl HC1.out ?_
    refine hs 8 43 rfl HC1.out ?_
    refine hs 9 44 rfl HC1.out ?_
    refine hs 10 45 rfl HC1.out ?_
    refine hs 11 46 rfl HC1.out ?_
    refine hs 12 47 rfl HC1.out ?_
    refine hs 13 48 rfl HC1.out ?_
    refine hs 14 49 rfl HC1.out ?_
    refine hs 15 50 rfl HC1.out ?_
    refine hs 16 51 rfl HC1.out ?_
    refine hs 17 52 rfl HC1.out ?_
    refine hp 18 53 (.bool true) rfl HC1.out ?_
    refine wpAnyH_done (by kernel_rfl) ?_ _
    have HGn : Hid (Chg Non (w.alloc boxS) _) := Lib.hid ((HG0.out.then_non HGV.out).then_non HC1.out)
    have HE2 : Hid (mayS s = false) := Lib.hid (HEf.out (stepMay_bad (ok := partOk) (id := Pt.id) HA.out HMX.out.1))
    clear HEf
    go_wp2_with fail
    go_ret
    exact ⟨ret_b HE2.out.symm, ((Chg.refl Non w).alloc _).then_non HGn.out⟩
   | true =>
    cases k with
    | zero =>
     refine wp_region_held_drew (S := Chg Non W1.drew) (by kernel_rfl) (Chg.refl _ _) (fun hHeld => ?_)
     clear hHeld
     rw [← hv]
     clear hv
     refine h_load 0 (some 35) 104 (.tmp 4) wr.heap.size 0 (partC a mv) _ rfl (by kernel_rfl) (by kernel_rfl) (by kernel_rfl) (by kernel_rfl) (by kernel_rfl) (fun _ _ _ h => h) (by kernel_rfl) (by kernel_rfl) (fun W hW => range_keepS (blk_range hv0) hW (fun e => e)) Tryz.underlying104 rfl (by rw [partC_size HL.out]; exact info_part) (Chg.refl Non _) ?_
     simp only [Act.put, sA, sB, sC]
     refine h_one 1 (by kernel_rfl) rfl (by kernel_rfl) ?_
     intro K hK
     go_simp
     refine (HM.out _).mono ?_
     rintro e u1 ⟨rfl, hg⟩
     have HC1 := Lib.hid (Chg.then_non (Chg.refl Non _) hg)
     clear hg
     refine hK.out _ _ HC1.out (fun _ => ?_)
     clear hK K
     try simp only [Act.put, sA, sB, sC]
     refine hp 2 37 (.bool false) rfl HC1.out ?_
     refine hp 3 38 (.bool false) rfl HC1.out ?_
     refine hp 4 39 (.int .i64 0) rfl HC1.out ?_
     refine hp 5 40 (.bool false) rfl HC1.out ?_ (he := (fun W hW => by go_simp; try omega))
     refine hp 6 41 (.bool false) rfl HC1.out ?_
     refine hs 7 42 rfl HC1.out ?_
     refine hs 8 43 rfl HC1.out ?_
     refine hs 9 44 rfl HC1.out ?_
     refine hs 10 45 rfl HC1.out ?_
     refine hs 11 46 rfl HC1.out ?_
     refine hs 12 47 rfl HC1.out ?_
     refine hs 13 48 rfl HC1.out ?_
     refine hs 14 49 rfl HC1.out ?_
     refine hs 15 50 rfl HC1.out ?_
     refine hs 16 51 rfl HC1.out ?_
     refine hp 17 52 (.bool false) rfl HC1.out ?_
     refine hp 18 53 (.bool false) rfl HC1.out ?_
     refine wpAnyH_done (by kernel_rfl) ?_ _
     have HGn : Hid (Chg Non (w.alloc boxS) _) := Lib.hid ((HG0.out.then_non HGV.out).then_non HC1.out)
     have hst := Lib.hid (stepMay_zero (ok := partOk) (id := Pt.id) HA.out HMX.out.1)
     have HN2 : Hid (∀ j, j < 0 + 1 → stepMay partOk Pt.id s.parts j = true) := Lib.hid (fun j hj => by
       by_cases e : j = 0
       · subst e; exact hst.out
       · exact HN.out j (by omega))
     clear hst
     go_wp2_with fail
     exact ⟨⟨0 + 1, by omega, by simp, HN2, HGn⟩, by simp [intOf]; omega⟩
    | succ k =>
     obtain ⟨a', ha'⟩ : ∃ a, s.parts[k]? = some a := ⟨_, List.getElem?_eq_getElem (by omega)⟩
     obtain ⟨y, hy⟩ : ∃ y, a'.id = y := ⟨_, rfl⟩
     have hpy : v.cell? ⟨b, o + k * 14, none⟩ = some (.int .i64 y) := by
      obtain ⟨b', o', vs', e, _, _, hrg', mv', rfl, _⟩ := (HRP.out.non HG.out (fun a vs h => ptV_non _ _ _ _ HG.out h)) k a' ha'
      injection e with e
      injection e with e1 e2 _
      subst e1 e2 hy
      exact hgv.cell_some (hrg' 0 _ rfl) (fun e => e)
     have HAY := Lib.hid (And.intro ha' hy)
     have hk0 : (0 : Int) ≤ (k : Int) := by omega
     have hkl : (k : Int) < (s.parts.length : Int) := by omega
     clear ha' hy
     refine wp_region_held_drew (S := Chg Non W1.drew) (by kernel_rfl) (Chg.refl _ _) (fun hHeld => ?_)
     clear hHeld
     rw [← hv]
     clear hv
     refine h_load 0 (some 35) 104 (.tmp 4) wr.heap.size 0 (partC a mv) _ rfl (by kernel_rfl) (by kernel_rfl) (by kernel_rfl) (by kernel_rfl) (by kernel_rfl) (fun _ _ _ h => h) (by kernel_rfl) (by kernel_rfl) (fun W hW => range_keepS (blk_range hv0) hW (fun e => e)) Tryz.underlying104 rfl (by rw [partC_size HL.out]; exact info_part) (Chg.refl Non _) ?_
     simp only [Act.put, sA, sB, sC]
     refine h_one 1 (by kernel_rfl) rfl (by kernel_rfl) ?_
     intro K hK
     go_simp
     refine (HM.out _).mono ?_
     rintro e u1 ⟨rfl, hg⟩
     have HC1 := Lib.hid (Chg.then_non (Chg.refl Non _) hg)
     clear hg
     refine hK.out _ _ HC1.out (fun _ => ?_)
     clear hK K
     try simp only [Act.put, sA, sB, sC]
     refine hp 2 37 (.bool false) rfl HC1.out ?_
     refine hp 3 38 (.bool false) rfl HC1.out ?_
     refine hp 4 39 (.int .i64 ((k : Int) + 1)) rfl HC1.out ?_
     refine hp 5 40 (.bool true) rfl HC1.out ?_ (he := (fun W hW => by go_simp; try omega))
     refine hp 6 41 (.bool true) rfl HC1.out ?_
     refine hp 7 42 (.pointer (some ⟨w.heap.size, 1, none⟩)) rfl HC1.out ?_
     refine hp 8 43 (.slice (some ⟨b, o, none⟩) s.parts.length c) rfl HC1.out ?_ (he := (fun W hW => by have hc := hW.cell_some hbx (fun e => e); go_simp))
     refine hp 9 44 (.int .i64 ((k : Int) + 1)) rfl HC1.out ?_
     refine hp 10 45 (.int .i64 (k : Int)) rfl HC1.out ?_ (he := (fun W hW => by go_simp; exact Go.IntWalk.i64_in _ (by omega)))
     refine hp 11 46 (.pointer (some ⟨b, o + k * 14, none⟩)) rfl HC1.out ?_
     refine hp 12 47 (.pointer (some ⟨b, o + k * 14, none⟩)) rfl HC1.out ?_
     refine hp 13 48 (.int .i64 y) rfl HC1.out ?_ (he := (fun W hW => by have hc := hW.cell_some hpy (fun e => e); go_simp))
     refine hp 14 49 (.pointer (some ⟨wr.heap.size, 0, none⟩)) rfl HC1.out ?_
     refine hp 15 50 (.int .i64 x) rfl HC1.out ?_ (he := (fun W hW => by have hc := hW.cell_some hpx (fun e => e); go_simp))
     refine hp 16 51 (.bool (decide (y ≥ x))) rfl HC1.out ?_
     refine hp 17 52 (.bool (decide (y ≥ x))) rfl HC1.out ?_
     refine hp 18 53 (.bool (decide (y ≥ x))) rfl HC1.out ?_
     refine wpAnyH_done (by kernel_rfl) ?_ _
     have HGn : Hid (Chg Non (w.alloc boxS) _) := Lib.hid ((HG0.out.then_non HGV.out).then_non HC1.out)
     by_cases hxy : y ≥ x
     ·have hxd : decide (x ≤ y) = true := by simpa using hxy
      have HE2 : Hid (mayS s = false) := Lib.hid (HEf.out (stepMay_prev (ok := partOk) (id := Pt.id) HA.out HAY.out.1 (by rw [HMX.out.2, HAY.out.2]; omega)))
      clear HEf
      go_wp2_with fail
      go_ret
      exact ⟨ret_b HE2.out.symm, ((Chg.refl Non w).alloc _).then_non HGn.out⟩
     ·have hxd : decide (x ≤ y) = false := by simpa using hxy
      have hst := Lib.hid (stepMay_succ (ok := partOk) (id := Pt.id) HA.out HMX.out.1 HAY.out.1 (by rw [HMX.out.2, HAY.out.2]; omega))
      have HN2 : Hid (∀ j, j < (k + 1) + 1 → stepMay partOk Pt.id s.parts j = true) := Lib.hid (fun j hj => by
        by_cases e : j = (k + 1)
        · subst e; exact hst.out
        · exact HN.out j (by omega))
      clear hst
      go_wp2_with fail
      exact ⟨⟨(k + 1) + 1, by omega, by simp, HN2, HGn⟩, by simp [intOf]; omega⟩
  ·obtain rfl : k = s.parts.length := by omega
   have hltd : decide ((s.parts.length : Int) < (s.parts.length : Int)) = false := by simp
   have HEP := Lib.hid (mayL_yes HN.out)
   have HEf : Hid (mayL mayQ (fun q : Qu => q.ch.id) s.queues = false → mayS s = false) := Lib.hid (fun h => by rw [HE.out, h]; simp)
   have b2 := blk_cell hbx0 2 (v := .slice A2 s.queues.length c2) rfl
   clear hbx0
   go_wp2_with fail
   go_loopw [58] (fun iv wr => ∃ k : Nat, k ≤ s.queues.length ∧ iv = .int .i64 k ∧ Hid (∀ j, j < k → stepMay mayQ (fun q : Qu => q.ch.id) s.queues j = true) ∧ Hid (Chg Non (w.alloc boxS) wr)) (fun iv _ => s.queues.length - (intOf iv).toNat)
   case atStart => exact ⟨0, Nat.zero_le _, rfl, Lib.hid (fun j h => by omega), HG⟩
   case round =>
    clear HN HG hlw
    obtain ⟨k, hk, rfl, HN, HG⟩ := hrel
    have hbx0 := blk_keep HBX.out HG.out (fun e => e)
    have hlw : w.heap.size < wr.heap.size := blk_lt hbx0
    by_cases hlt : k < s.queues.length
    ·obtain ⟨a, ha⟩ : ∃ a, s.queues[k]? = some a := ⟨_, List.getElem?_eq_getElem hlt⟩
     have hltd : decide ((k : Int) < (s.queues.length : Int)) = true := by simpa using hlt
     obtain ⟨b, o, vs, rfl, _, hvl, hrg, hR⟩ := (HRQ.out.non HG.out (fun a vs h => quV_non _ _ _ _ HG.out h)) k a ha
     have hbl := rng_lt hrg (by omega)
     obtain ⟨mv, rfl, hmv, hbd, hml⟩ := hR
     have HA := Lib.hid ha
     have HM := Lib.hid (fun W (hg : Chg Non wr W) => mayQueue_ok I a mv W (hmv.non hg (fun a vs h => msgV_non _ _ _ _ hg h)))
     have ho1 : mv.oneCell' = true := by obtain ⟨A, c, e, _⟩ := hmv; rw [e]; rfl
     obtain ⟨x, hx⟩ : ∃ x, a.ch.id = x := ⟨_, rfl⟩
     obtain ⟨m, hm⟩ : ∃ m, mayQ a = m := ⟨_, rfl⟩
     rw [hm] at HM
     have HMX := Lib.hid (And.intro hm hx)
     have HRG := Lib.hid hrg
     clear hm hrg hmv hml hbd ha
     go_wp2_with (first
       | (refine sel (some 62) (.load 110 _) ?_; refine wpList_load_mid rfl 110 (.tmp 61) rfl b (o + k * 6) rfl (a.L mv) _ HRG.out Tryz.underlying110 rfl (by kernel_rfl) ?_)
       | (refine sel none (.store 110 (.tmp 6) (.tmp 62)) ?_
          refine wpList_store_rowA rfl 110 (.tmp 6) (.tmp 62) rfl wr.heap.size (a.L mv).toArray rfl rfl 110 #[.int .i64 0, .int .i64 0, .int .i64 0, .int .i64 0, .int .i64 0, .slice none 0 0] (blk_new _ _) (by kernel_rfl) rfl (by simp [Qu.L, Value.oneCell']; exact ho1) ?_
          intro W1 hgW hbW))
     obtain ⟨v, hv⟩ : ∃ v, v = W1.drew := ⟨_, rfl⟩
     have hv0 : v.heap[wr.heap.size]? = some (.cells (a.L mv).toArray 110 (0, 0)) := by rw [hv]; exact hbW
     have hgv0 : Chg Non wr W1 := ((Chg.refl Non wr).alloc _).then_new hgW (fun x e => by omega)
     have hgv : Chg Non wr v := by rw [hv]; exact hgv0.drew
     have hpx : v.cell? ⟨wr.heap.size, 0, none⟩ = some (.int .i64 x) := by
      have := HMX.out.2
      subst this
      exact blk_cell hv0 0 rfl
     have hbx : v.cell? ⟨w.heap.size, 2, none⟩ = some (.slice (some ⟨b, o, none⟩) s.queues.length c2) := blk_cell (blk_keep hbx0 hgv (fun e => e)) 2 rfl
     have HGV := Lib.hid hgv
     have HG0 := Lib.hid HG.out
     cases m with
     | false =>
      refine wp_region_held_drew (S := Chg Non W1.drew) (by kernel_rfl) (Chg.refl _ _) (fun hHeld => ?_)
      clear hHeld
      rw [← hv]
      clear hv
      refine h_load 0 (some 63) 110 (.tmp 6) wr.heap.size 0 (a.L mv).toArray _ rfl (by kernel_rfl) (by kernel_rfl) (by kernel_rfl) (by kernel_rfl) (by kernel_rfl) (fun _ _ _ h => h) (by kernel_rfl) (by kernel_rfl) (fun W hW => range_keepS (blk_range hv0) hW (fun e => e)) Tryz.underlying110 rfl (by kernel_rfl) (Chg.refl Non _) ?_
      simp only [Act.put, sA, sB, sC]
      refine h_one 1 (by kernel_rfl) rfl (by kernel_rfl) ?_
      intro K hK
      go_simp
      refine (HM.out _ HGV.out).mono ?_
      rintro e u1 ⟨rfl, hg⟩
      have HC1 := Lib.hid (Chg.then_non (Chg.refl Non _) hg)
      clear hg
      refine hK.out _ _ HC1.out (fun _ => ?_)
      clear hK K
      try simp only [Act.put, sA, sB, sC]
      refine hp 2 65 (.bool true) rfl HC1.out ?_
      refine hp 3 66 (.bool true) rfl HC1.out ?_
      refine hs 4 67 rfl HC1.out ?_
      refine hs 5 68 rfl HC1.out ?_
      refine hs 6 69 rfl HC1.out ?_
      refine hs 7 70 rfl HC1.out ?_
      refine hs 8 71 rfl HC1.out ?_
      refine hs 9 72 rfl HC1.out ?_
      refine hs 10 73 rfl HC1.out ?_
      refine hs 11 74 rfl HC1.out ?_
      refine hs 12 75 rfl HC1.out ?_
      refine hs 13 76 rfl HC1.out ?_
      refine hs 14 77 rfl HC1.out ?_
      refine hs 15 78 rfl HC1.out ?_
      refine hs 16 79 rfl HC1.out ?_
      refine hs 17 80 rfl HC1.out ?_
      refine hs 18 81 rfl HC1.out ?_
      refine hs 19 82 rfl HC1.out ?_
      refine hp 20 83 (.bool true) rfl HC1.out ?_
      refine wpAnyH_done (by kernel_rfl) ?_ _
      have HGn : Hid (Chg Non (w.alloc boxS) _) := Lib.hid ((HG0.out.then_non HGV.out).then_non HC1.out)
      have HE2 : Hid (mayS s = false) := Lib.hid (HEf.out (stepMay_bad (ok := mayQ) (id := (fun q : Qu => q.ch.id)) HA.out HMX.out.1))
      clear HEf
      go_wp2_with fail
      go_ret
      exact ⟨ret_b HE2.out.symm, ((Chg.refl Non w).alloc _).then_non HGn.out⟩
     | true =>
      cases k with
      | zero =>
       refine wp_region_held_drew (S := Chg Non W1.drew) (by kernel_rfl) (Chg.refl _ _) (fun hHeld => ?_)
       clear hHeld
       rw [← hv]
       clear hv
       refine h_load 0 (some 63) 110 (.tmp 6) wr.heap.size 0 (a.L mv).toArray _ rfl (by kernel_rfl) (by kernel_rfl) (by kernel_rfl) (by kernel_rfl) (by kernel_rfl) (fun _ _ _ h => h) (by kernel_rfl) (by kernel_rfl) (fun W hW => range_keepS (blk_range hv0) hW (fun e => e)) Tryz.underlying110 rfl (by kernel_rfl) (Chg.refl Non _) ?_
       simp only [Act.put, sA, sB, sC]
       refine h_one 1 (by kernel_rfl) rfl (by kernel_rfl) ?_
       intro K hK
       go_simp
       refine (HM.out _ HGV.out).mono ?_
       rintro e u1 ⟨rfl, hg⟩
       have HC1 := Lib.hid (Chg.then_non (Chg.refl Non _) hg)
       clear hg
       refine hK.out _ _ HC1.out (fun _ => ?_)
       clear hK K
       try simp only [Act.put, sA, sB, sC]
       refine hp 2 65 (.bool false) rfl HC1.out ?_
       refine hp 3 66 (.bool false) rfl HC1.out ?_
       refine hp 4 67 (.int .i64 0) rfl HC1.out ?_
       refine hp 5 68 (.bool false) rfl HC1.out ?_ (he := (fun W hW => by go_simp; try omega))
       refine hp 6 69 (.bool false) rfl HC1.out ?_
       refine hs 7 70 rfl HC1.out ?_
       refine hs 8 71 rfl HC1.out ?_
       refine hs 9 72 rfl HC1.out ?_
       refine hs 10 73 rfl HC1.out ?_
       refine hs 11 74 rfl HC1.out ?_
       refine hs 12 75 rfl HC1.out ?_
       refine hs 13 76 rfl HC1.out ?_
       refine hs 14 77 rfl HC1.out ?_
       refine hs 15 78 rfl HC1.out ?_
       refine hs 16 79 rfl HC1.out ?_
       refine hs 17 80 rfl HC1.out ?_
       refine hs 18 81 rfl HC1.out ?_
       refine hp 19 82 (.bool false) rfl HC1.out ?_
       refine hp 20 83 (.bool false) rfl HC1.out ?_
       refine wpAnyH_done (by kernel_rfl) ?_ _
       have HGn : Hid (Chg Non (w.alloc boxS) _) := Lib.hid ((HG0.out.then_non HGV.out).then_non HC1.out)
       have hst := Lib.hid (stepMay_zero (ok := mayQ) (id := (fun q : Qu => q.ch.id)) HA.out HMX.out.1)
       have HN2 : Hid (∀ j, j < 0 + 1 → stepMay mayQ (fun q : Qu => q.ch.id) s.queues j = true) := Lib.hid (fun j hj => by
         by_cases e : j = 0
         · subst e; exact hst.out
         · exact HN.out j (by omega))
       clear hst
       go_wp2_with fail
       exact ⟨⟨0 + 1, by omega, by simp, HN2, HGn⟩, by simp [intOf]; omega⟩
      | succ k =>
       obtain ⟨a', ha'⟩ : ∃ a, s.queues[k]? = some a := ⟨_, List.getElem?_eq_getElem (by omega)⟩
       obtain ⟨y, hy⟩ : ∃ y, a'.ch.id = y := ⟨_, rfl⟩
       have hpy : v.cell? ⟨b, o + k * 6, none⟩ = some (.int .i64 y) := by
        obtain ⟨b', o', vs', e, _, _, hrg', mv', rfl, _⟩ := (HRQ.out.non HG.out (fun a vs h => quV_non _ _ _ _ HG.out h)) k a' ha'
        injection e with e
        injection e with e1 e2 _
        subst e1 e2 hy
        exact hgv.cell_some (hrg' 0 _ rfl) (fun e => e)
       have HAY := Lib.hid (And.intro ha' hy)
       have hk0 : (0 : Int) ≤ (k : Int) := by omega
       have hkl : (k : Int) < (s.queues.length : Int) := by omega
       clear ha' hy
       refine wp_region_held_drew (S := Chg Non W1.drew) (by kernel_rfl) (Chg.refl _ _) (fun hHeld => ?_)
       clear hHeld
       rw [← hv]
       clear hv
       refine h_load 0 (some 63) 110 (.tmp 6) wr.heap.size 0 (a.L mv).toArray _ rfl (by kernel_rfl) (by kernel_rfl) (by kernel_rfl) (by kernel_rfl) (by kernel_rfl) (fun _ _ _ h => h) (by kernel_rfl) (by kernel_rfl) (fun W hW => range_keepS (blk_range hv0) hW (fun e => e)) Tryz.underlying110 rfl (by kernel_rfl) (Chg.refl Non _) ?_
       simp only [Act.put, sA, sB, sC]
       refine h_one 1 (by kernel_rfl) rfl (by kernel_rfl) ?_
       intro K hK
       go_simp
       refine (HM.out _ HGV.out).mono ?_
       rintro e u1 ⟨rfl, hg⟩
       have HC1 := Lib.hid (Chg.then_non (Chg.refl Non _) hg)
       clear hg
       refine hK.out _ _ HC1.out (fun _ => ?_)
       clear hK K
       try simp only [Act.put, sA, sB, sC]
       refine hp 2 65 (.bool false) rfl HC1.out ?_
       refine hp 3 66 (.bool false) rfl HC1.out ?_
       refine hp 4 67 (.int .i64 ((k : Int) + 1)) rfl HC1.out ?_
       refine hp 5 68 (.bool true) rfl HC1.out ?_ (he := (fun W hW => by go_simp; try omega))
       refine hp 6 69 (.bool true) rfl HC1.out ?_
       refine hp 7 70 (.pointer (some ⟨w.heap.size, 2, none⟩)) rfl HC1.out ?_
       refine hp 8 71 (.slice (some ⟨b, o, none⟩) s.queues.length c2) rfl HC1.out ?_ (he := (fun W hW => by have hc := hW.cell_some hbx (fun e => e); go_simp))
       refine hp 9 72 (.int .i64 ((k : Int) + 1)) rfl HC1.out ?_
       refine hp 10 73 (.int .i64 (k : Int)) rfl HC1.out ?_ (he := (fun W hW => by go_simp; exact Go.IntWalk.i64_in _ (by omega)))
       refine hp 11 74 (.pointer (some ⟨b, o + k * 6, none⟩)) rfl HC1.out ?_
       refine hp 12 75 (.pointer (some ⟨b, o + k * 6, none⟩)) rfl HC1.out ?_
       refine hp 13 76 (.pointer (some ⟨b, o + k * 6, none⟩)) rfl HC1.out ?_
       refine hp 14 77 (.int .i64 y) rfl HC1.out ?_ (he := (fun W hW => by have hc := hW.cell_some hpy (fun e => e); go_simp))
       refine hp 15 78 (.pointer (some ⟨wr.heap.size, 0, none⟩)) rfl HC1.out ?_
       refine hp 16 79 (.pointer (some ⟨wr.heap.size, 0, none⟩)) rfl HC1.out ?_
       refine hp 17 80 (.int .i64 x) rfl HC1.out ?_ (he := (fun W hW => by have hc := hW.cell_some hpx (fun e => e); go_simp))
       refine hp 18 81 (.bool (decide (y ≥ x))) rfl HC1.out ?_
       refine hp 19 82 (.bool (decide (y ≥ x))) rfl HC1.out ?_
       refine hp 20 83 (.bool (decide (y ≥ x))) rfl HC1.out ?_
       refine wpAnyH_done (by kernel_rfl) ?_ _
       have HGn : Hid (Chg Non (w.alloc boxS) _) := Lib.hid ((HG0.out.then_non HGV.out).then_non HC1.out)
       by_cases hxy : y ≥ x
       ·have hxd : decide (x ≤ y) = true := by simpa using hxy
        have HE2 : Hid (mayS s = false) := Lib.hid (HEf.out (stepMay_prev (ok := mayQ) (id := (fun q : Qu => q.ch.id)) HA.out HAY.out.1 (by rw [HMX.out.2, HAY.out.2]; omega)))
        clear HEf
        go_wp2_with fail
        go_ret
        exact ⟨ret_b HE2.out.symm, ((Chg.refl Non w).alloc _).then_non HGn.out⟩
       ·have hxd : decide (x ≤ y) = false := by simpa using hxy
        have hst := Lib.hid (stepMay_succ (ok := mayQ) (id := (fun q : Qu => q.ch.id)) HA.out HMX.out.1 HAY.out.1 (by rw [HMX.out.2, HAY.out.2]; omega))
        have HN2 : Hid (∀ j, j < (k + 1) + 1 → stepMay mayQ (fun q : Qu => q.ch.id) s.queues j = true) := Lib.hid (fun j hj => by
          by_cases e : j = (k + 1)
          · subst e; exact hst.out
          · exact HN.out j (by omega))
        clear hst
        go_wp2_with fail
        exact ⟨⟨(k + 1) + 1, by omega, by simp, HN2, HGn⟩, by simp [intOf]; omega⟩
    ·obtain rfl : k = s.queues.length := by omega
     have hltd : decide ((s.queues.length : Int) < (s.queues.length : Int)) = false := by simp
     have HEQ := Lib.hid (mayL_yes HN.out)
     have HE2 : Hid (mayS s = true) := Lib.hid (by
       rw [HE.out, HEP.out, HEQ.out]
       simp
       omega)
     have HG0 := Lib.hid HG.out
     go_wp2_with fail
     go_ret
     exact ⟨ret_b HE2.out.symm, ((Chg.refl Non w).alloc _).then_non HG0.out⟩
end
section
open Go.RowKit
end
section
open Go.RowKit
section
variable {α β : Type} {p : α → β → Bool} {l : List α} {m : List β}
end
theorem sz_of {vs : List Value} {o : Array Value} {n : Nat} (h : vs.length = n) (ho : o.size = n) : o.size = vs.toArray.size := by simp [h, ho]
theorem all_one {vs : List Value} (h : ∀ u ∈ vs, u.oneCell' = true) : vs.toArray.all (·.oneCell') = true := by
 rw [List.all_toArray, List.all_eq_true]
 exact h
end
section
open Go.RowKit
def Puts {α : Type} (R : World → α → List Value → Prop) (V : List Value → Value) (l : List α) (wt : α → List UInt8) (N : Nat → Prop) (p bx : Nat) (K : FuncId) : Prop :=
 ∀ (W : World) (a : α) (vs : List Value) (f : List UInt8), a ∈ l → R W a vs → IsWN N W p f 0 → W.cell? ⟨bx, 0, none⟩ = some (.pointer (some ⟨p, 0, none⟩)) → f.length + (wt a).length ≤ 65536 →
  Calls Tryz.prog K #[V vs, .pointer (some ⟨bx, 0, none⟩)] W fun e W' => e = .returned (.tuple #[]) ∧ IsWN N W' p (f ++ wt a) 0 ∧ Chg (Nt N) W W'
theorem flat_snoc {α : Type} {wt : α → List UInt8} {l : List α} {k : Nat} {a : α} (h : l[k]? = some a) : (l.take (k + 1)).flatMap wt = (l.take k).flatMap wt ++ wt a := by
 obtain ⟨hk, rfl⟩ := List.getElem?_eq_some_iff.1 h
 rw [List.take_succ_eq_append_getElem hk, List.flatMap_append]
 simp
theorem flat_take_le {α : Type} (wt : α → List UInt8) (l : List α) (k : Nat) : ((l.take k).flatMap wt).length ≤ (l.flatMap wt).length := by
 have h : l.flatMap wt = (l.take k).flatMap wt ++ (l.drop k).flatMap wt := by rw [← List.flatMap_append, List.take_append_drop]
 rw [h, List.length_append]; omega
theorem wInt_len8 (n : Int) : (wInt n).length = 8 := be_length _ _
set_option maxRecDepth 100000 in
theorem listMsg {α : Type} (R : World → α → List Value → Prop) (I N : Nat → Prop) (hk : ∀ (S : Nat → Prop) (W W' : World) (a : α) (vs : List Value), Chg S W W' → (∀ b, I b → ¬ S b) → R W a vs → R W' a vs)
  (ho : ∀ W a vs, R W a vs → ∀ u ∈ vs, u.oneCell' = true) (wt : α → List UInt8) (p bx : Nat) (A : Option Addr) (l : List α) (c : Nat) (f : List UInt8) (w : World) (hI : ∀ b, I b → N b) (hbN : N bx)
  (hr : RdL R I 1 w A l) (hf : Puts R oneV l wt N p bx 76) (hc : l.length ≤ c) (hcm : c ≤ maxLen) (h1000 : l.length ≤ 1000) (hbx : w.cell? ⟨bx, 0, none⟩ = some (.pointer (some ⟨p, 0, none⟩)))
  (hW : IsWN N w p f 0) (hroom : f.length + 8 + (l.flatMap wt).length ≤ 65536) :
  Calls Tryz.prog 75 #[.pointer (some ⟨p, 0, none⟩), .slice A l.length c, .func (.func 76) #[] #[.pointer (some ⟨bx, 0, none⟩)]] w fun e w' =>
   e = .returned (.tuple #[]) ∧ IsWN N w' p (f ++ (wInt (l.length : Int) ++ l.flatMap wt)) 0 ∧ Chg (Nt N) w w' := by
 unfold maxLen at hcm
 have HW := Lib.hid (WInt_N N p f (l.length : Int) w hW (by omega))
 have HR := Lib.hid hr
 have HF := Lib.hid hf
 have HRM := Lib.hid hroom
 have HBX := Lib.hid hbx
 have HE : Hid (be (u64 (l.length : Int)) 8 = wInt (l.length : Int)) := Lib.hid rfl
 clear hr hf hroom hW hbx
 go_enter Tryz.func75, Tryz.ntmps75
 go_wp2_with fail
 refine HW.out.mono ?_
 rintro e w1 ⟨rfl, hW1, hg1⟩
 rw [HE.out] at hW1
 have HW1 := Lib.hid hW1
 have HG1 := Lib.hid hg1
 clear hW1 hg1
 go_wp2_with fail
 go_loopw [14] (fun iv wr => ∃ k : Nat, k ≤ l.length ∧ iv = .int .i64 k ∧ Hid (IsWN N wr p (f ++ (wInt (l.length : Int) ++ (l.take k).flatMap wt)) 0) ∧ Hid (Chg (Nt N) w wr)) (fun iv _ => l.length - (intOf iv).toNat)
 case atStart => exact ⟨0, Nat.zero_le _, rfl, Lib.hid (by simpa using HW1.out), HG1⟩
 case round =>
  obtain ⟨k, hk2, rfl, HX, HG⟩ := hrel
  have hnN : ∀ b, I b → ¬ Nt N b := fun b hb h => h (hI b hb)
  by_cases hlt : k < l.length
  ·obtain ⟨a, ha⟩ : ∃ a, l[k]? = some a := ⟨_, List.getElem?_eq_getElem hlt⟩
   obtain ⟨b, o, vs, rfl, hIb, hlen, hcell0, hR⟩ := HR.out k a ha
   have hcell := range_keepS hcell0 HG.out (hnN b hIb)
   have hR2 := hk _ _ _ _ _ HG.out hnN hR
   have hbx := HG.out.cell_some HBX.out (fun h => h hbN)
   have hbl := lt_of_cell hbx
   have hroom2 : (f ++ (wInt (l.length : Int) ++ (l.take k).flatMap wt)).length + (wt a).length ≤ 65536 := by
    have h1 := flat_take_le wt l (k + 1)
    rw [flat_snoc ha, List.length_append] at h1
    have h2 := HRM.out
    rw [List.length_append, List.length_append, wInt_len8]
    omega
   have HK := Lib.hid (fun W (hg : Chg Non wr W) => HF.out W a vs _ (List.mem_of_getElem? ha) (hk _ _ _ _ _ hg (fun _ _ e => e) hR2) (isWN_chg HX.out hg) (hg.cell_some hbx (fun e => e)) hroom2)
   have hltd : decide ((k : Int) < (l.length : Int)) = true := by simpa using hlt
   have HS := Lib.hid (flat_snoc (wt := wt) ha)
   have HO1 := Lib.hid (all_one (ho _ _ _ hR))
   have HL := Lib.hid hlen
   clear ha hR hR2 hcell0 hroom2 hbx
   simp only [Nat.mul_one] at hcell
   obtain ⟨v, rfl⟩ : ∃ v, vs = [v] := by
    match vs, hlen with
    | [v], _ => exact ⟨v, rfl⟩
   have k0 : wr.cell? ⟨b, o + k, none⟩ = some v := by have := hcell 0 v rfl; simpa using this
   clear hcell hlen
   go_wp2_with fail
   refine (HK.out _ (Chg.refl _ _)).mono ?_
   rintro e u ⟨rfl, hWu, hgu⟩
   have HWu := Lib.hid (show IsWN N u p (f ++ (wInt (l.length : Int) ++ (l.take (k + 1)).flatMap wt)) 0 by rw [HS.out]; simpa [List.append_assoc] using hWu)
   have HGu := Lib.hid (HG.out.trans_same hgu)
   clear hWu hgu
   go_wp2_with fail
   exact ⟨⟨k + 1, by omega, by simp, HWu, HGu⟩, by simp [intOf]; omega⟩
  ·obtain rfl : k = l.length := by omega
   have hltd : decide ((l.length : Int) < (l.length : Int)) = false := by simp
   have HXe := Lib.hid (show IsWN N wr p (f ++ (wInt (l.length : Int) ++ l.flatMap wt)) 0 by have := HX.out; rwa [List.take_length] at this)
   clear HX
   go_wp2_with fail
   go_end0
   exact ⟨rfl, HXe.out, HG.out⟩
set_option maxRecDepth 100000 in
theorem listPart {α : Type} (R : World → α → List Value → Prop) (I N : Nat → Prop) (hk : ∀ (S : Nat → Prop) (W W' : World) (a : α) (vs : List Value), Chg S W W' → (∀ b, I b → ¬ S b) → R W a vs → R W' a vs)
  (ho : ∀ W a vs, R W a vs → ∀ u ∈ vs, u.oneCell' = true) (wt : α → List UInt8) (p bx : Nat) (A : Option Addr) (l : List α) (c : Nat) (f : List UInt8) (w : World) (hI : ∀ b, I b → N b) (hbN : N bx)
  (hr : RdL R I 14 w A l) (hf : Puts R aggV l wt N p bx 69) (hc : l.length ≤ c) (hcm : c ≤ maxLen) (h1000 : l.length ≤ 1000) (hbx : w.cell? ⟨bx, 0, none⟩ = some (.pointer (some ⟨p, 0, none⟩)))
  (hW : IsWN N w p f 0) (hroom : f.length + 8 + (l.flatMap wt).length ≤ 65536) :
  Calls Tryz.prog 68 #[.pointer (some ⟨p, 0, none⟩), .slice A l.length c, .func (.func 69) #[] #[.pointer (some ⟨bx, 0, none⟩)]] w fun e w' =>
   e = .returned (.tuple #[]) ∧ IsWN N w' p (f ++ (wInt (l.length : Int) ++ l.flatMap wt)) 0 ∧ Chg (Nt N) w w' := by
 unfold maxLen at hcm
 have HW := Lib.hid (WInt_N N p f (l.length : Int) w hW (by omega))
 have HR := Lib.hid hr
 have HF := Lib.hid hf
 have HRM := Lib.hid hroom
 have HBX := Lib.hid hbx
 have HE : Hid (be (u64 (l.length : Int)) 8 = wInt (l.length : Int)) := Lib.hid rfl
 clear hr hf hroom hW hbx
 go_enter Tryz.func68, Tryz.ntmps68
 go_wp2_with fail
 refine HW.out.mono ?_
 rintro e w1 ⟨rfl, hW1, hg1⟩
 rw [HE.out] at hW1
 have HW1 := Lib.hid hW1
 have HG1 := Lib.hid hg1
 clear hW1 hg1
 go_wp2_with fail
 go_loopw [14] (fun iv wr => ∃ k : Nat, k ≤ l.length ∧ iv = .int .i64 k ∧ Hid (IsWN N wr p (f ++ (wInt (l.length : Int) ++ (l.take k).flatMap wt)) 0) ∧ Hid (Chg (Nt N) w wr)) (fun iv _ => l.length - (intOf iv).toNat)
 case atStart => exact ⟨0, Nat.zero_le _, rfl, Lib.hid (by simpa using HW1.out), HG1⟩
 case round =>
  obtain ⟨k, hk2, rfl, HX, HG⟩ := hrel
  have hnN : ∀ b, I b → ¬ Nt N b := fun b hb h => h (hI b hb)
  by_cases hlt : k < l.length
  ·obtain ⟨a, ha⟩ : ∃ a, l[k]? = some a := ⟨_, List.getElem?_eq_getElem hlt⟩
   obtain ⟨b, o, vs, rfl, hIb, hlen, hcell0, hR⟩ := HR.out k a ha
   have hcell := range_keepS hcell0 HG.out (hnN b hIb)
   have hR2 := hk _ _ _ _ _ HG.out hnN hR
   have hbx := HG.out.cell_some HBX.out (fun h => h hbN)
   have hbl := lt_of_cell hbx
   have hroom2 : (f ++ (wInt (l.length : Int) ++ (l.take k).flatMap wt)).length + (wt a).length ≤ 65536 := by
    have h1 := flat_take_le wt l (k + 1)
    rw [flat_snoc ha, List.length_append] at h1
    have h2 := HRM.out
    rw [List.length_append, List.length_append, wInt_len8]
    omega
   have HK := Lib.hid (fun W (hg : Chg Non wr W) => HF.out W a vs _ (List.mem_of_getElem? ha) (hk _ _ _ _ _ hg (fun _ _ e => e) hR2) (isWN_chg HX.out hg) (hg.cell_some hbx (fun e => e)) hroom2)
   have hltd : decide ((k : Int) < (l.length : Int)) = true := by simpa using hlt
   have HS := Lib.hid (flat_snoc (wt := wt) ha)
   have HO1 := Lib.hid (all_one (ho _ _ _ hR))
   have HL := Lib.hid hlen
   clear ha hR hR2 hcell0 hroom2 hbx
   have HC := Lib.hid hcell
   clear hcell hlen
   go_wp2_with (first
     | (refine sel (some 17) (.load 104 (.tmp 16)) ?_; refine wpList_load_mid rfl 104 (.tmp 16) rfl b (o + k * 14) rfl vs _ HC.out Tryz.underlying104 rfl (by rw [HL.out]; kernel_rfl) ?_)
     | (refine sel none (.store 104 (.tmp 7) (.tmp 17)) ?_
        refine wpList_store_rowA rfl 104 (.tmp 7) (.tmp 17) rfl wr.heap.size vs.toArray rfl rfl 104 _ (blk_new _ _) (by rw [List.size_toArray, HL.out]; kernel_rfl) (sz_of HL.out rfl) HO1.out ?_
        intro W1 hgW1 hbW1)
     | (refine sel (some 19) (.load 104 (.tmp 7)) ?_; refine wpList_load_row rfl 104 (.tmp 7) rfl wr.heap.size rfl 104 vs.toArray (0, 0) _ hbW1 Tryz.underlying104 rfl (by rw [List.size_toArray, HL.out]; kernel_rfl) ?_))
   have hgw : Chg Non wr W1 := ((Chg.refl Non wr).alloc _).then_new hgW1 (fun x e => by omega)
   refine (HK.out W1 hgw).mono ?_
   rintro e u ⟨rfl, hWu, hgu⟩
   have HWu := Lib.hid (show IsWN N u p (f ++ (wInt (l.length : Int) ++ (l.take (k + 1)).flatMap wt)) 0 by rw [HS.out]; simpa [List.append_assoc] using hWu)
   have HGu := Lib.hid (HG.out.trans_same (hgw.non_then hgu))
   clear hWu hgu hgw hgW1 hbW1
   go_wp2_with fail
   exact ⟨⟨k + 1, by omega, by simp, HWu, HGu⟩, by simp [intOf]; omega⟩
  ·obtain rfl : k = l.length := by omega
   have hltd : decide ((l.length : Int) < (l.length : Int)) = false := by simp
   have HXe := Lib.hid (show IsWN N wr p (f ++ (wInt (l.length : Int) ++ l.flatMap wt)) 0 by have := HX.out; rwa [List.take_length] at this)
   clear HX
   go_wp2_with fail
   go_end0
   exact ⟨rfl, HXe.out, HG.out⟩
set_option maxRecDepth 100000 in
theorem listQueue {α : Type} (R : World → α → List Value → Prop) (I N : Nat → Prop) (hk : ∀ (S : Nat → Prop) (W W' : World) (a : α) (vs : List Value), Chg S W W' → (∀ b, I b → ¬ S b) → R W a vs → R W' a vs)
  (ho : ∀ W a vs, R W a vs → ∀ u ∈ vs, u.oneCell' = true) (wt : α → List UInt8) (p bx : Nat) (A : Option Addr) (l : List α) (c : Nat) (f : List UInt8) (w : World) (hI : ∀ b, I b → N b) (hbN : N bx)
  (hr : RdL R I 6 w A l) (hf : Puts R aggV l wt N p bx 74) (hc : l.length ≤ c) (hcm : c ≤ maxLen) (h1000 : l.length ≤ 1000) (hbx : w.cell? ⟨bx, 0, none⟩ = some (.pointer (some ⟨p, 0, none⟩)))
  (hW : IsWN N w p f 0) (hroom : f.length + 8 + (l.flatMap wt).length ≤ 65536) :
  Calls Tryz.prog 73 #[.pointer (some ⟨p, 0, none⟩), .slice A l.length c, .func (.func 74) #[] #[.pointer (some ⟨bx, 0, none⟩)]] w fun e w' =>
   e = .returned (.tuple #[]) ∧ IsWN N w' p (f ++ (wInt (l.length : Int) ++ l.flatMap wt)) 0 ∧ Chg (Nt N) w w' := by
 unfold maxLen at hcm
 have HW := Lib.hid (WInt_N N p f (l.length : Int) w hW (by omega))
 have HR := Lib.hid hr
 have HF := Lib.hid hf
 have HRM := Lib.hid hroom
 have HBX := Lib.hid hbx
 have HE : Hid (be (u64 (l.length : Int)) 8 = wInt (l.length : Int)) := Lib.hid rfl
 clear hr hf hroom hW hbx
 go_enter Tryz.func73, Tryz.ntmps73
 go_wp2_with fail
 refine HW.out.mono ?_
 rintro e w1 ⟨rfl, hW1, hg1⟩
 rw [HE.out] at hW1
 have HW1 := Lib.hid hW1
 have HG1 := Lib.hid hg1
 clear hW1 hg1
 go_wp2_with fail
 go_loopw [14] (fun iv wr => ∃ k : Nat, k ≤ l.length ∧ iv = .int .i64 k ∧ Hid (IsWN N wr p (f ++ (wInt (l.length : Int) ++ (l.take k).flatMap wt)) 0) ∧ Hid (Chg (Nt N) w wr)) (fun iv _ => l.length - (intOf iv).toNat)
 case atStart => exact ⟨0, Nat.zero_le _, rfl, Lib.hid (by simpa using HW1.out), HG1⟩
 case round =>
  obtain ⟨k, hk2, rfl, HX, HG⟩ := hrel
  have hnN : ∀ b, I b → ¬ Nt N b := fun b hb h => h (hI b hb)
  by_cases hlt : k < l.length
  ·obtain ⟨a, ha⟩ : ∃ a, l[k]? = some a := ⟨_, List.getElem?_eq_getElem hlt⟩
   obtain ⟨b, o, vs, rfl, hIb, hlen, hcell0, hR⟩ := HR.out k a ha
   have hcell := range_keepS hcell0 HG.out (hnN b hIb)
   have hR2 := hk _ _ _ _ _ HG.out hnN hR
   have hbx := HG.out.cell_some HBX.out (fun h => h hbN)
   have hbl := lt_of_cell hbx
   have hroom2 : (f ++ (wInt (l.length : Int) ++ (l.take k).flatMap wt)).length + (wt a).length ≤ 65536 := by
    have h1 := flat_take_le wt l (k + 1)
    rw [flat_snoc ha, List.length_append] at h1
    have h2 := HRM.out
    rw [List.length_append, List.length_append, wInt_len8]
    omega
   have HK := Lib.hid (fun W (hg : Chg Non wr W) => HF.out W a vs _ (List.mem_of_getElem? ha) (hk _ _ _ _ _ hg (fun _ _ e => e) hR2) (isWN_chg HX.out hg) (hg.cell_some hbx (fun e => e)) hroom2)
   have hltd : decide ((k : Int) < (l.length : Int)) = true := by simpa using hlt
   have HS := Lib.hid (flat_snoc (wt := wt) ha)
   have HO1 := Lib.hid (all_one (ho _ _ _ hR))
   have HL := Lib.hid hlen
   clear ha hR hR2 hcell0 hroom2 hbx
   have HC := Lib.hid hcell
   clear hcell hlen
   go_wp2_with (first
     | (refine sel (some 17) (.load 110 (.tmp 16)) ?_; refine wpList_load_mid rfl 110 (.tmp 16) rfl b (o + k * 6) rfl vs _ HC.out Tryz.underlying110 rfl (by rw [HL.out]; kernel_rfl) ?_)
     | (refine sel none (.store 110 (.tmp 7) (.tmp 17)) ?_
        refine wpList_store_rowA rfl 110 (.tmp 7) (.tmp 17) rfl wr.heap.size vs.toArray rfl rfl 110 _ (blk_new _ _) (by rw [List.size_toArray, HL.out]; kernel_rfl) (sz_of HL.out rfl) HO1.out ?_
        intro W1 hgW1 hbW1)
     | (refine sel (some 19) (.load 110 (.tmp 7)) ?_; refine wpList_load_row rfl 110 (.tmp 7) rfl wr.heap.size rfl 110 vs.toArray (0, 0) _ hbW1 Tryz.underlying110 rfl (by rw [List.size_toArray, HL.out]; kernel_rfl) ?_))
   have hgw : Chg Non wr W1 := ((Chg.refl Non wr).alloc _).then_new hgW1 (fun x e => by omega)
   refine (HK.out W1 hgw).mono ?_
   rintro e u ⟨rfl, hWu, hgu⟩
   have HWu := Lib.hid (show IsWN N u p (f ++ (wInt (l.length : Int) ++ (l.take (k + 1)).flatMap wt)) 0 by rw [HS.out]; simpa [List.append_assoc] using hWu)
   have HGu := Lib.hid (HG.out.trans_same (hgw.non_then hgu))
   clear hWu hgu hgw hgW1 hbW1
   go_wp2_with fail
   exact ⟨⟨k + 1, by omega, by simp, HWu, HGu⟩, by simp [intOf]; omega⟩
  ·obtain rfl : k = l.length := by omega
   have hltd : decide ((l.length : Int) < (l.length : Int)) = false := by simp
   have HXe := Lib.hid (show IsWN N wr p (f ++ (wInt (l.length : Int) ++ l.flatMap wt)) 0 by have := HX.out; rwa [List.take_length] at this)
   clear HX
   go_wp2_with fail
   go_end0
   exact ⟨rfl, HXe.out, HG.out⟩
end
section
open Go.RowKit
deriving instance DecidableEq for Ch
theorem ptV_one {I : Nat → Prop} : ∀ W a vs, ptV I W a vs → ∀ u ∈ vs, u.oneCell' = true := by
 rintro W a vs ⟨m, rfl, ⟨A, c, rfl, _⟩, _⟩ u hu
 have := partC_one a (.slice A a.mem.length c) rfl
 rw [partC, List.all_toArray, List.all_eq_true] at this
 exact this u hu
theorem quV_one {I : Nat → Prop} : ∀ W a vs, quV I W a vs → ∀ u ∈ vs, u.oneCell' = true := by
 rintro W a vs ⟨m, rfl, ⟨A, c, rfl, _⟩, _⟩ u hu
 simp only [Qu.L, List.mem_cons, List.not_mem_nil, or_false] at hu
 rcases hu with rfl | rfl | rfl | rfl | rfl | rfl <;> rfl
theorem msgV_one {I : Nat → Prop} : ∀ W a vs, msgV I W a vs → ∀ u ∈ vs, u.oneCell' = true := by
 rintro W a vs ⟨m, rfl, ⟨A, c, rfl, _⟩, _⟩ u hu
 simp only [List.mem_cons, List.not_mem_nil, or_false] at hu
 subst hu
 rfl
end
end Go.Proofs.YtkgnlobabknkcaaGreat
