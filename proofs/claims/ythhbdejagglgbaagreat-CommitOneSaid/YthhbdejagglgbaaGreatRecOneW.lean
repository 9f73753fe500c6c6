/- CommitOne: the walk. -/
import Derived.Test.YthhbdejagglgbaaGreatRecOne
import Derived.Test.YthhbdejagglgbaaGreatHeld
namespace Go.Proofs.YthhbdejagglgbaaGreat
open Go.RowKit
set_option linter.unusedVariables false

set_option maxRecDepth 100000 in
set_option maxHeartbeats 4000000 in
theorem one_walk (f : Int) (B : Option Addr) (l : List Rec) (c : Nat) (r : Rec) (at_ : Int) (A1 : Option Addr) (st : List UInt8) (cs1 : Nat) (w : World) (hB : RdR w B l) (hok : ∀ r ∈ l, r.Bd) (hr : r.Bd) (hst : Rd w A1 st) (hat2 : at_ ≤ 9223372036854775807) :
    Calls Tryz.prog 7 #[.int .i64 f, .slice B l.length c, .agg (recA r), .int .i64 at_, .slice A1 st.length cs1] w fun e w' => e = .returned (.bool true) ∧ Chg Non w w' := by
  have HAw := Lib.hid cawake_ok
  have HRo := Lib.hid (fun (W : World) (h : RdR W B l) => rows_all f B l c W h (fun r hr => hok r hr))
  have HB := Lib.hid hB
  have HOK := Lib.hid hok
  have HST := Lib.hid hst
  have HRB := Lib.hid hr
  have HSR := Lib.hid (recA_size r hr.1)
  have HOR := Lib.hid (recA_one r)
  have HR0 := Lib.hid (recA_0 r)
  have hren := fun n => recA_renum r n
  obtain ⟨XR0, hXR0⟩ : ∃ X, recA r = X := ⟨_, rfl⟩
  rw [hXR0] at HSR HOR HR0
  simp only [hXR0] at hren
  rw [hXR0]
  have HRN := Lib.hid hren
  clear hB hok hst hr hren
  go_enter Tryz.func7, Tryz.ntmps7
  go_wp2_with fail
  refine (HAw.out _).mono ?_
  rintro e u ⟨rfl, hg⟩
  have hGu : Chg Non w u := ((Chg.refl Non w).alloc _).then_non hg
  have HBU := Lib.hid (HB.out.non hGu)
  have HGU := Lib.hid hGu
  have H7u := Lib.hid ((hg.block w.heap.size (by simp) (fun e => e)).trans (heap_alloc_new _ _))
  clear hg hGu
  go_wp2_with fail
  refine (HRo.out _ HBU.out).mono ?_
  rintro e u2 (⟨rfl, hg⟩ | ⟨h1, h2, h3, pd, ps, pm, v, rfl, hI⟩)
  · have HG2 := Lib.hid (HGU.out.then_non hg)
    clear hg
    go_wp2_with fail
    go_ret
    exact ⟨rfl, HG2.out⟩
  · obtain ⟨A, cc, rfl, hrd⟩ := rows_reads HOK.out (Nat.le_refl _) hI.2.1
    have hap := hI.2.2.1
    have hKC := hI.1
    clear hI
    have hcu := hKC.chg
    have HG2 := Lib.hid (HGU.out.then_non hcu)
    by_cases hl : l.length = 0
    · clear hKC hrd
      have hb : ((l.length : Int) == 0) = true := by rw [beq_iff_eq]; omega
      go_wp2_with fail
      go_ret
      exact ⟨rfl, HG2.out⟩
    have hb : ((l.length : Int) == 0) = false := by rw [beq_eq_false_iff_ne]; omega
    obtain ⟨k, hk⟩ : ∃ k, l.length = k + 1 := ⟨l.length - 1, by omega⟩
    obtain ⟨bA, rfl, hrL⟩ := hrd k (by omega)
    have HKC := Lib.hid hKC
    have HAP := Lib.hid hap
    have HCU := Lib.hid hcu
    clear hrd hKC hap hcu
    by_cases c1 : 5 < (st.length : Int)
    · have c1d : decide (5 < (st.length : Int)) = true := by simpa using c1
      go_wp2_with fail
      go_ret
      exact ⟨rfl, HG2.out⟩
    have c1d : decide (5 < (st.length : Int)) = false := by simpa using c1
    by_cases c2 : at_ < 1
    · have c2d : decide (at_ < 1) = true := by simpa using c2
      go_wp2_with fail
      go_ret
      exact ⟨rfl, HG2.out⟩
    have c2d : decide (at_ < 1) = false := by simpa using c2
    -- the facts
    obtain ⟨q, hq⟩ : ∃ q, f + (k : Int) = q := ⟨_, rfl⟩
    have hxs : (rN f l k).seqn = q := hq
    have hq1 : IntKind.i64.wrap (q + 1) = q + 1 := Go.IntWalk.i64_in _ (by omega)
    have hq2 : wrap64 (q + 1) = q + 1 := by unfold wrap64; omega
    obtain ⟨rr, hrr⟩ : ∃ x : Rec, { r with seqn := q + 1 } = x := ⟨_, rfl⟩
    have hrs : rr.seqn = f + k + 1 := by rw [← hrr, hq]
    have hrh : rr.hash.length = 32 := by rw [← hrr]; exact HRB.out.1
    have hrb : rr.Bd := by
      refine ⟨hrh, ⟨by omega, by omega⟩, ?_, ?_⟩
      · rw [← hrr]; exact HRB.out.2.2.1
      · rw [← hrr]; exact HRB.out.2.2.2
    have hrb2 : rr.seqn ≤ 9223372036854775807 := by omega
    have hxb := rN_bd HOK.out h1 h2 (show k < l.length by omega) h3
    have hren := HRN.out (q + 1)
    rw [hrr] at hren
    have eXR := eq_diff _ _ hxb hrb (one_diff f l k rr hrs)
    have eXX := eq_same _ hxb
    have eRR := eq_same _ hrb
    have HTN := Lib.hid (next_tell f l k rr h1 hrs)
    have HTO := Lib.hid (rows_tell f l k h1)
    have HSX := Lib.hid (recA_size (rN f l k) hxb.1)
    have HOX := Lib.hid (recA_one (rN f l k))
    have HSP := Lib.hid (recA_size (prevR f l k) (prevR_ok HOK.out (by omega)))
    have HOP := Lib.hid (recA_one (prevR f l k))
    have HSN := Lib.hid (recA_size rr hrh)
    have HON := Lib.hid (recA_one rr)
    have HX0 := Lib.hid (recA_0 (rN f l k))
    have hmay := fun W => May_any rr W
    have hput := fun W h hm => keptCA_put (w0 := w) (w := W) (pd := pd) (ps := ps) (pm := pm) (n := 3) (a := (stAt f l (k + 1)).1) (b := (stAt f l (k + 1)).2) (at_ := at_) (l := st) h rr hm hrh hrb2 (by omega) hat2 (by omega)
    rw [hxs] at HX0
    have hgo : ∀ (W : World) (a b : Rec), OneSt w W pd ps pm true a b → cTell a b = (rr, rN f l k, 0) → Calls Tryz.prog 9 #[.pointer (some ⟨pd, 0, none⟩)] W fun e w' => e = .returned (.tuple #[.agg (recA rr), .agg (recA (rN f l k)), .int .i64 0]) ∧ Chg Non W w' := fun W a b h ht => by
      have := oneSt_get h
      rw [ht] at this
      exact this
    have hgo2 : ∀ (W : World) (a b : Rec), OneSt w W pd ps pm true a b → cTell a b = (rN f l k, prevR f l k, 0) → Calls Tryz.prog 9 #[.pointer (some ⟨pd, 0, none⟩)] W fun e w' => e = .returned (.tuple #[.agg (recA (rN f l k)), .agg (recA (prevR f l k)), .int .i64 0]) ∧ Chg Non W w' := fun W a b h ht => by
      have := oneSt_get h
      rw [ht] at this
      exact this
    obtain ⟨X, hX⟩ : ∃ X, recA (rN f l k) = X := ⟨_, rfl⟩
    obtain ⟨XP, hXP⟩ : ∃ X, recA (prevR f l k) = X := ⟨_, rfl⟩
    obtain ⟨XR, hXR⟩ : ∃ X, recA rr = X := ⟨_, rfl⟩
    simp only [hX, hXP, hXR] at hrL hren eXR eXX eRR HSX HOX HSP HOP HSN HON HX0 hmay hput hgo hgo2
    have HRL := Lib.hid hrL
    have HREN := Lib.hid hren
    have HMay := Lib.hid hmay
    have HPut := Lib.hid hput
    have HGo := Lib.hid hgo
    have HGo2 := Lib.hid hgo2
    have HQ := Lib.hid hxs
    clear hrL hren hmay hput hgo hgo2 hX hXP hXR hrr hxs hrs hrh hrb hrb2 hxb
    have H7 := Lib.hid ((HCU.out.block w.heap.size (Array.getElem?_eq_some_iff.1 H7u.out).1 (fun e => e)).trans H7u.out)
    have hw1 : IntKind.i64.wrap (((k + 1 : Nat) : Int) - 1) = (k : Int) := by rw [Go.IntWalk.i64_in _ (by omega)]; omega
    have hw3 : IntKind.i64.wrap (k : Int) = (k : Int) := Go.IntWalk.i64_in _ (by omega)
    have hb2 : (((k + 1 : Nat) : Int) == 0) = false := by rw [beq_eq_false_iff_ne]; omega
    rw [hk]
    have HK := Lib.hid hk
    clear hk
    have hsz0 := HGU.out.size
    have hszu : w.heap.size < u2.heap.size := (Array.getElem?_eq_some_iff.1 H7.out).1
    go_wp2_with (first
      | (refine sel (some 49) (.load 25 (.tmp 48)) ?_
         refine wpList_load_rec rfl (.tmp 48) rfl bA (k * 36) rfl X HRL.out HSX.out ?_)
      | (refine sel none (.store 25 (.tmp 14) (.tmp 49)) ?_
         refine wpList_store_rowA rfl 25 (.tmp 14) (.tmp 49) rfl u2.heap.size X rfl rfl 25 _ (heap_alloc_new _ _) (by rw [HSX.out]; exact info_rec) (by rw [HSX.out]; rfl) HOX.out ?_
         intro v6 hg6 hb6
         have hgn : Chg Non u2 v6 := ((Chg.refl Non u2).alloc _).then_new hg6 (fun x e => by omega)
         have kx : v6.cell? ⟨u2.heap.size, 0, none⟩ = some (.int .i64 q) := by rw [cell_of_row _ _ _ _ _ _ hb6]; exact HX0.out
         have hb7 := (hgn.block w.heap.size hszu (fun e => e)).trans H7.out
         have kc : v6.cell? ⟨w.heap.size, 0, none⟩ = some (.int .i64 r.seqn) := by rw [cell_of_row _ _ _ _ _ _ hb7]; exact HR0.out
         have kf : v6.frozen? ⟨w.heap.size, 0, none⟩ = false := frozen_of_row _ _ _ _ _ hb7
         have hg7 : Chg (fun x => x = w.heap.size) v6 (v6.setCell ⟨w.heap.size, 0, none⟩ (.int .i64 (q + 1))) := (Chg.refl (fun x => x = w.heap.size) _).setCell (p := ⟨w.heap.size, 0, none⟩) (.inl rfl) _
         have HB7 : Hid ((v6.setCell ⟨w.heap.size, 0, none⟩ (.int .i64 (q + 1))).heap[w.heap.size]? = some (.cells XR 25 (0, 0))) := Lib.hid (by rw [heap_setCell_same _ _ _ _ _ _ hb7, HREN.out])
         have HB14 := Lib.hid ((hg7.block u2.heap.size (Array.getElem?_eq_some_iff.1 hb6).1 (by omega)).trans hb6)
         have HCH := Lib.hid ((HG2.out.then_non hgn).then_new hg7 (fun x e => by omega))
         have HGN := Lib.hid hgn
         have HG7 := Lib.hid hg7
         clear hg6 hb6 hgn hb7 hg7)
      | (refine sel (some 54) (.load 25 (.tmp 7)) ?_
         refine wpList_load_rec rfl (.tmp 7) rfl w.heap.size 0 rfl XR (range_block HB7.out) HSN.out ?_))
    refine (HMay.out _).mono ?_
    rintro e u8 ⟨rfl, hg8⟩
    have HCH8 := Lib.hid (HCH.out.then_non hg8)
    have h7lt := (Array.getElem?_eq_some_iff.1 HB7.out).1
    have h14lt := (Array.getElem?_eq_some_iff.1 HB14.out).1
    have H78 := Lib.hid ((hg8.block w.heap.size h7lt (fun e => e)).trans HB7.out)
    have H148 := Lib.hid ((hg8.block u2.heap.size h14lt (fun e => e)).trans HB14.out)
    by_cases hm : rr.may = true
    case neg =>
      have hm' : rr.may = false := by simpa using hm
      go_wp2_with fail
      go_ret
      exact ⟨rfl, HCH8.out⟩
    have h7u := (Array.getElem?_eq_some_iff.1 H7u.out).1
    have hK8 : KeptC w u8 pd ps pm 3 (stAt f l (k + 1)).1 (stAt f l (k + 1)).2 := by
      have hkc := HKC.out
      rw [HK.out] at hkc
      obtain ⟨D, d1, d2, d4, d5, d6, d7⟩ := hkc
      exact ⟨D, ((d1.non HGN.out).keep HG7.out (fun x hx e => by subst e; omega) (fun A' c' _ b' o' _ hne => absurd d2.stay hne)).non hg8, d2, by omega, by omega, by omega, HCH8.out⟩
    have hlt : w.heap.size < pd ∧ w.heap.size < ps ∧ w.heap.size < pm ∧ pd < u2.heap.size ∧ ps < u2.heap.size ∧ pm < u2.heap.size := by
      obtain ⟨D, d1, d2, d4, d5, d6, d7⟩ := HKC.out
      have := d1.lt
      omega
    have HArm := Lib.hid (keptC_arm hK8 at_ A1 st cs1 HST.out (by omega) (by omega))
    have HM := Lib.hid hm
    have hnb : ¬ DS pd ps pm w.heap.size := by unfold DS; omega
    have hnb2 : ¬ DS pd ps pm u2.heap.size := by unfold DS; omega
    have HNB := Lib.hid hnb
    have HNB2 := Lib.hid hnb2
    clear hK8 hg8 hnb hnb2 kx kc kf
    go_wp2_with fail
    refine HArm.out.mono ?_
    rintro e u9 ⟨rfl, k9, hg9⟩
    have H79 := Lib.hid ((hg9.block w.heap.size (Array.getElem?_eq_some_iff.1 H78.out).1 HNB.out).trans H78.out)
    have H149 := Lib.hid ((hg9.block u2.heap.size (Array.getElem?_eq_some_iff.1 H148.out).1 HNB2.out).trans H148.out)
    have HP9 := Lib.hid (HPut.out _ k9 HM.out)
    clear k9 hg9
    go_wp2_with (first
      | (refine sel (some 62) (.load 25 (.tmp 7)) ?_
         refine wpList_load_rec rfl (.tmp 7) rfl w.heap.size 0 rfl XR (range_block H79.out) HSN.out ?_))
    refine HP9.out.mono ?_
    rintro e uA ⟨h3c, hgA⟩
    have H7A := Lib.hid ((hgA.block w.heap.size (Array.getElem?_eq_some_iff.1 H79.out).1 HNB.out).trans H79.out)
    have H14A := Lib.hid ((hgA.block u2.heap.size (Array.getElem?_eq_some_iff.1 H149.out).1 HNB2.out).trans H149.out)
    clear hgA
    rcases h3c with ⟨hat, rfl, hS⟩ | ⟨hat, rfl, hS⟩ | ⟨hat, rfl, hS⟩
    · have hatd : decide (2 < at_) = true := by simpa using hat
      have HS := Lib.hid hS
      have HU := Lib.hid (oneSt_up hS)
      clear hS
      go_wp2_with fail
      refine HU.out.mono ?_
      rintro e uB ⟨rfl, rfl⟩
      have H7U := H7A
      have H14U := H14A
      have HGet := Lib.hid (HGo.out _ _ _ HS.out HTN.out)
      go_wp2_with (first
        | (go_at_call 9
           refine HGet.out.mono ?_
           rintro e u6 ⟨rfl, hg⟩
           have HG6 := Lib.hid hg
           clear hg)
        | (refine sel none (.store 25 (.tmp 16) (.tmp 72)) ?_
           refine wpList_store_rowA rfl 25 (.tmp 16) (.tmp 72) rfl u6.heap.size XR rfl rfl 25 _ (heap_alloc2_old _ _ _) (by rw [HSN.out]; exact info_rec) (by rw [HSN.out]; rfl) HON.out ?_
           intro va hg1 hb1
           have HTa : Hid (Two u6.heap.size (u6.heap.size + 1) XR recZ va) := Lib.hid ⟨hb1, (hg1.block (u6.heap.size + 1) (by simp) (by omega)).trans (heap_alloc2_new _ _ _)⟩
           have HGa := Lib.hid ((((Chg.refl Non u6).alloc _).alloc _).then_new hg1 (fun x e => by omega))
           clear hg1 hb1)
        | (refine sel none (.store 25 (.tmp 17) (.tmp 73)) ?_
           refine wpList_store_rowA rfl 25 (.tmp 17) (.tmp 73) rfl (u6.heap.size + 1) X rfl rfl 25 _ HTa.out.2 (by rw [HSX.out]; exact info_rec) (by rw [HSX.out, recZ_size]) HOX.out ?_
           intro vb hg2 hb2
           have HT := Lib.hid (HTa.out.put2 (by omega) hg2 hb2)
           have hgV := HG6.out.then_non (HGa.out.then_new hg2 (fun x e => by omega))
           have HV := Lib.hid hgV
           have H7V := Lib.hid ((hgV.block w.heap.size (Array.getElem?_eq_some_iff.1 H7U.out).1 (fun e => e)).trans H7U.out)
           have H14V := Lib.hid ((hgV.block u2.heap.size (Array.getElem?_eq_some_iff.1 H14U.out).1 (fun e => e)).trans H14U.out)
           clear hg2 hb2 hgV)
        | (refine sel (some 91) (.load 25 (.tmp 16)) ?_
           refine wpList_loadW (some 91) 25 (.tmp 16) u6.heap.size 0 XR _ rfl rfl (by kernel_rfl) (by kernel_rfl) HT.out.left Tryz.underlying25 rfl (by rw [HSN.out]; exact info_rec) ?_)
        | (refine sel (some 92) (.load 25 (.tmp 7)) ?_
           refine wpList_loadW (some 92) 25 (.tmp 7) w.heap.size 0 XR _ rfl rfl (by kernel_rfl) (by kernel_rfl) (range_block H7V.out) Tryz.underlying25 rfl (by rw [HSN.out]; exact info_rec) ?_)
        | (refine sel (some 95) (.load 25 (.tmp 17)) ?_
           refine wpList_loadW (some 95) 25 (.tmp 17) (u6.heap.size + 1) 0 X _ rfl rfl (by kernel_rfl) (by kernel_rfl) HT.out.right Tryz.underlying25 rfl (by rw [HSX.out]; exact info_rec) ?_)
        | (refine sel (some 96) (.load 25 (.tmp 14)) ?_
           refine wpList_loadW (some 96) 25 (.tmp 14) u2.heap.size 0 X _ rfl rfl (by kernel_rfl) (by kernel_rfl) (range_block H14V.out) Tryz.underlying25 rfl (by rw [HSX.out]; exact info_rec) ?_))
      go_ret
      exact ⟨rfl, HS.out.chg.then_non HV.out⟩
    · have hatd : decide (2 < at_) = false := by simp; omega
      have HU := Lib.hid (oneSt_up hS)
      have HSt := Lib.hid (oneSt_start hS)
      clear hS
      go_wp2_with fail
      refine HU.out.mono ?_
      rintro e uB ⟨rfl, rfl⟩
      go_wp2_with fail
      refine HSt.out.mono ?_
      rintro e uC ⟨rfl, hS, hgC⟩
      have H7U := Lib.hid ((hgC.block w.heap.size (Array.getElem?_eq_some_iff.1 H7A.out).1 HNB.out).trans H7A.out)
      have H14U := Lib.hid ((hgC.block u2.heap.size (Array.getElem?_eq_some_iff.1 H14A.out).1 HNB2.out).trans H14A.out)
      have HS := Lib.hid hS
      clear hS hgC
      have HGet := Lib.hid (HGo.out _ _ _ HS.out HTN.out)
      go_wp2_with (first
        | (go_at_call 9
           refine HGet.out.mono ?_
           rintro e u6 ⟨rfl, hg⟩
           have HG6 := Lib.hid hg
           clear hg)
        | (refine sel none (.store 25 (.tmp 16) (.tmp 72)) ?_
           refine wpList_store_rowA rfl 25 (.tmp 16) (.tmp 72) rfl u6.heap.size XR rfl rfl 25 _ (heap_alloc2_old _ _ _) (by rw [HSN.out]; exact info_rec) (by rw [HSN.out]; rfl) HON.out ?_
           intro va hg1 hb1
           have HTa : Hid (Two u6.heap.size (u6.heap.size + 1) XR recZ va) := Lib.hid ⟨hb1, (hg1.block (u6.heap.size + 1) (by simp) (by omega)).trans (heap_alloc2_new _ _ _)⟩
           have HGa := Lib.hid ((((Chg.refl Non u6).alloc _).alloc _).then_new hg1 (fun x e => by omega))
           clear hg1 hb1)
        | (refine sel none (.store 25 (.tmp 17) (.tmp 73)) ?_
           refine wpList_store_rowA rfl 25 (.tmp 17) (.tmp 73) rfl (u6.heap.size + 1) X rfl rfl 25 _ HTa.out.2 (by rw [HSX.out]; exact info_rec) (by rw [HSX.out, recZ_size]) HOX.out ?_
           intro vb hg2 hb2
           have HT := Lib.hid (HTa.out.put2 (by omega) hg2 hb2)
           have hgV := HG6.out.then_non (HGa.out.then_new hg2 (fun x e => by omega))
           have HV := Lib.hid hgV
           have H7V := Lib.hid ((hgV.block w.heap.size (Array.getElem?_eq_some_iff.1 H7U.out).1 (fun e => e)).trans H7U.out)
           have H14V := Lib.hid ((hgV.block u2.heap.size (Array.getElem?_eq_some_iff.1 H14U.out).1 (fun e => e)).trans H14U.out)
           clear hg2 hb2 hgV)
        | (refine sel (some 87) (.load 25 (.tmp 16)) ?_
           refine wpList_loadW (some 87) 25 (.tmp 16) u6.heap.size 0 XR _ rfl rfl (by kernel_rfl) (by kernel_rfl) HT.out.left Tryz.underlying25 rfl (by rw [HSN.out]; exact info_rec) ?_)
        | (refine sel (some 88) (.load 25 (.tmp 7)) ?_
           refine wpList_loadW (some 88) 25 (.tmp 7) w.heap.size 0 XR _ rfl rfl (by kernel_rfl) (by kernel_rfl) (range_block H7V.out) Tryz.underlying25 rfl (by rw [HSN.out]; exact info_rec) ?_)
        | (refine sel (some 91) (.load 25 (.tmp 16)) ?_
           refine wpList_loadW (some 91) 25 (.tmp 16) u6.heap.size 0 XR _ rfl rfl (by kernel_rfl) (by kernel_rfl) HT.out.left Tryz.underlying25 rfl (by rw [HSN.out]; exact info_rec) ?_)
        | (refine sel (some 92) (.load 25 (.tmp 7)) ?_
           refine wpList_loadW (some 92) 25 (.tmp 7) w.heap.size 0 XR _ rfl rfl (by kernel_rfl) (by kernel_rfl) (range_block H7V.out) Tryz.underlying25 rfl (by rw [HSN.out]; exact info_rec) ?_)
        | (refine sel (some 95) (.load 25 (.tmp 17)) ?_
           refine wpList_loadW (some 95) 25 (.tmp 17) (u6.heap.size + 1) 0 X _ rfl rfl (by kernel_rfl) (by kernel_rfl) HT.out.right Tryz.underlying25 rfl (by rw [HSX.out]; exact info_rec) ?_)
        | (refine sel (some 96) (.load 25 (.tmp 14)) ?_
           refine wpList_loadW (some 96) 25 (.tmp 14) u2.heap.size 0 X _ rfl rfl (by kernel_rfl) (by kernel_rfl) (range_block H14V.out) Tryz.underlying25 rfl (by rw [HSX.out]; exact info_rec) ?_))
      go_ret
      exact ⟨rfl, HS.out.chg.then_non HV.out⟩
    · have hatd : decide (2 < at_) = false := by simp; omega
      have HU := Lib.hid (oneSt_up hS)
      have HSt := Lib.hid (oneSt_start hS)
      clear hS
      go_wp2_with fail
      refine HU.out.mono ?_
      rintro e uB ⟨rfl, rfl⟩
      go_wp2_with fail
      refine HSt.out.mono ?_
      rintro e uC ⟨rfl, hS, hgC⟩
      have H7U := Lib.hid ((hgC.block w.heap.size (Array.getElem?_eq_some_iff.1 H7A.out).1 HNB.out).trans H7A.out)
      have H14U := Lib.hid ((hgC.block u2.heap.size (Array.getElem?_eq_some_iff.1 H14A.out).1 HNB2.out).trans H14A.out)
      have HS := Lib.hid hS
      clear hS hgC
      have HGet := Lib.hid (HGo2.out _ _ _ HS.out HTO.out)
      go_wp2_with (first
        | (go_at_call 9
           refine HGet.out.mono ?_
           rintro e u6 ⟨rfl, hg⟩
           have HG6 := Lib.hid hg
           clear hg)
        | (refine sel none (.store 25 (.tmp 16) (.tmp 72)) ?_
           refine wpList_store_rowA rfl 25 (.tmp 16) (.tmp 72) rfl u6.heap.size X rfl rfl 25 _ (heap_alloc2_old _ _ _) (by rw [HSX.out]; exact info_rec) (by rw [HSX.out]; rfl) HOX.out ?_
           intro va hg1 hb1
           have HTa : Hid (Two u6.heap.size (u6.heap.size + 1) X recZ va) := Lib.hid ⟨hb1, (hg1.block (u6.heap.size + 1) (by simp) (by omega)).trans (heap_alloc2_new _ _ _)⟩
           have HGa := Lib.hid ((((Chg.refl Non u6).alloc _).alloc _).then_new hg1 (fun x e => by omega))
           clear hg1 hb1)
        | (refine sel none (.store 25 (.tmp 17) (.tmp 73)) ?_
           refine wpList_store_rowA rfl 25 (.tmp 17) (.tmp 73) rfl (u6.heap.size + 1) XP rfl rfl 25 _ HTa.out.2 (by rw [HSP.out]; exact info_rec) (by rw [HSP.out, recZ_size]) HOP.out ?_
           intro vb hg2 hb2
           have HT := Lib.hid (HTa.out.put2 (by omega) hg2 hb2)
           have hgV := HG6.out.then_non (HGa.out.then_new hg2 (fun x e => by omega))
           have HV := Lib.hid hgV
           have H7V := Lib.hid ((hgV.block w.heap.size (Array.getElem?_eq_some_iff.1 H7U.out).1 (fun e => e)).trans H7U.out)
           have H14V := Lib.hid ((hgV.block u2.heap.size (Array.getElem?_eq_some_iff.1 H14U.out).1 (fun e => e)).trans H14U.out)
           clear hg2 hb2 hgV)
        | (refine sel (some 87) (.load 25 (.tmp 16)) ?_
           refine wpList_loadW (some 87) 25 (.tmp 16) u6.heap.size 0 X _ rfl rfl (by kernel_rfl) (by kernel_rfl) HT.out.left Tryz.underlying25 rfl (by rw [HSX.out]; exact info_rec) ?_)
        | (refine sel (some 88) (.load 25 (.tmp 7)) ?_
           refine wpList_loadW (some 88) 25 (.tmp 7) w.heap.size 0 XR _ rfl rfl (by kernel_rfl) (by kernel_rfl) (range_block H7V.out) Tryz.underlying25 rfl (by rw [HSN.out]; exact info_rec) ?_)
        | (refine sel (some 99) (.load 25 (.tmp 16)) ?_
           refine wpList_loadW (some 99) 25 (.tmp 16) u6.heap.size 0 X _ rfl rfl (by kernel_rfl) (by kernel_rfl) HT.out.left Tryz.underlying25 rfl (by rw [HSX.out]; exact info_rec) ?_)
        | (refine sel (some 100) (.load 25 (.tmp 14)) ?_
           refine wpList_loadW (some 100) 25 (.tmp 14) u2.heap.size 0 X _ rfl rfl (by kernel_rfl) (by kernel_rfl) (range_block H14V.out) Tryz.underlying25 rfl (by rw [HSX.out]; exact info_rec) ?_))
      go_ret
      exact ⟨rfl, HS.out.chg.then_non HV.out⟩
end Go.Proofs.YthhbdejagglgbaaGreat
