/- CommitOther: the walk. -/
import Derived.Test.YthhbdejagglgbaaGreatRecOther
import Derived.Test.YthhbdejagglgbaaGreatHeld
namespace Go.Proofs.YthhbdejagglgbaaGreat
open Go.RowKit
set_option linter.unusedVariables false

set_option maxRecDepth 100000 in
set_option maxHeartbeats 4000000 in
theorem other_walk (f : Int) (B : Option Addr) (l : List Rec) (c : Nat) (at_ : Int) (over : UInt8) (w : World) (hB : RdR w B l) (hok : ∀ r ∈ l, r.Bd) :
    Calls Tryz.prog 6 #[.int .i64 f, .slice B l.length c, .int .i64 at_, .int .u8 over.toNat] w fun e w' => e = .returned (.bool true) ∧ Chg Non w w' := by
  have HAw := Lib.hid cawake_ok
  have HRo := Lib.hid (fun (W : World) (h : RdR W B l) => rows_all f B l c W h (fun r hr => hok r hr))
  have HB := Lib.hid hB
  have HOK := Lib.hid hok
  clear hB hok
  go_enter Tryz.func6, Tryz.ntmps6
  go_wp2_with fail
  refine (HAw.out _).mono ?_
  rintro e u ⟨rfl, hg⟩
  have HBU := Lib.hid (HB.out.non hg)
  have HG := Lib.hid hg
  clear hg
  go_wp2_with fail
  refine (HRo.out _ HBU.out).mono ?_
  rintro e u2 (⟨rfl, hg⟩ | ⟨h1, h2, h3, pd, ps, pm, v, rfl, hI⟩)
  · have HG2 := Lib.hid (HG.out.then_non hg)
    clear hg
    go_wp2_with fail
    go_ret
    exact ⟨rfl, HG2.out⟩
  · obtain ⟨A, cc, rfl, hrd⟩ := rows_reads HOK.out (Nat.le_refl _) hI.2.1
    have hap := hI.2.2.1
    have hKC := hI.1
    clear hI
    have HG2 := Lib.hid (HG.out.then_non hKC.chg)
    by_cases hl : l.length = 0
    · clear hKC hrd
      have hb : ((l.length : Int) == 0) = true := by rw [beq_iff_eq]; omega
      go_wp2_with fail
      go_ret
      exact ⟨rfl, HG2.out⟩
    have hb : ((l.length : Int) == 0) = false := by rw [beq_eq_false_iff_ne]; omega
    have hk := HOK
    obtain ⟨k, hk⟩ : ∃ k, l.length = k + 1 := ⟨l.length - 1, by omega⟩
    obtain ⟨bA, rfl, hrL⟩ := hrd k (by omega)
    have HRD := Lib.hid hrd
    have HKC := Lib.hid hKC
    have HAP := Lib.hid hap
    have HRL := Lib.hid hrL
    clear hrd hKC hap hrL
    by_cases c1 : at_ < 0
    · have c1d : decide (at_ < 0) = true := by simpa using c1
      go_wp2_with fail
      go_ret
      exact ⟨rfl, HG2.out⟩
    have c1d : decide (at_ < 0) = false := by simpa using c1
    by_cases c2 : 63 < at_
    · have c2d : decide (63 < at_) = true := by simpa using c2
      go_wp2_with fail
      go_ret
      exact ⟨rfl, HG2.out⟩
    have c2d : decide (63 < at_) = false := by simpa using c2
    by_cases c3 : over = 0
    · subst c3
      go_wp2_with fail
      go_ret
      exact ⟨rfl, HG2.out⟩
    have c3d : ((over.toNat : Int) == 0) = false := by
      rw [beq_eq_false_iff_ne]
      intro e
      apply c3
      apply UInt8.toNat_inj.1
      simpa using e
    have hKC := HKC.out
    rw [hk] at hKC
    obtain ⟨D, d1, d2, d4, d5, d6, d7⟩ := hKC
    obtain ⟨q, hq⟩ : ∃ q, f + (k : Int) = q := ⟨_, rfl⟩
    obtain ⟨i, hi⟩ : ∃ i : Nat, (i : Int) = q % 2 := ⟨(q % 2).toNat, by omega⟩
    have hrem : q.tmod 2 = (i : Int) := by rw [Int.tmod_eq_emod_of_nonneg (by omega), hi]
    have hcq : u2.cell? ⟨bA, k * 36, none⟩ = some (.int .i64 q) := by
      have := HRL.out 0 (.int .i64 q) (by rw [Array.getElem?_toList, recA_0]; rw [← hq]; rfl)
      exact this
    have hrd := other_rd f l k i h1 (by rw [hi, hq]) d2
    have htell := fun s hs => other_tell f l k i h1 (by rw [hi, hq]) d2 s hs
    have hi3 : i < D.sec.length := by rw [d2.len]; omega
    have HR := Lib.hid (Read_any pd ps pm D i u2 d1 d2.up hi3)
    obtain ⟨s, hs⟩ : ∃ s, D.at_ i = s := ⟨_, rfl⟩
    rw [hs] at HR hrd
    have hlen := (recRd_ok hrd).1
    have HWr := Lib.hid (fun (L : List UInt8) (hL : L.length = 64) => cwrite_calm d2 i (by omega) L hL)
    have HRd := Lib.hid hrd
    have HTe := Lib.hid htell
    have HD1 := Lib.hid d1
    have HD2 := Lib.hid d2
    have HD7 := Lib.hid d7
    clear d1 d2 d7 hrd htell
    unfold RetB2 at HR
    rw [hlen] at HR
    have hw1 : IntKind.i64.wrap (((k + 1 : Nat) : Int) - 1) = (k : Int) := by rw [Go.IntWalk.i64_in _ (by omega)]; omega
    have hw3 : IntKind.i64.wrap (k : Int) = (k : Int) := Go.IntWalk.i64_in _ (by omega)
    have hw6 : IntKind.i64.wrap (i : Int) = (i : Int) := Go.IntWalk.i64_in _ (by omega)
    have hb2 : (((k + 1 : Nat) : Int) == 0) = false := by rw [beq_eq_false_iff_ne]; omega
    rw [hk]
    have HK := Lib.hid hk
    have HI := Lib.hid hi
    clear hk hi
    go_wp2_with fail
    refine HR.out.mono ?_
    rintro e u3 ⟨A', c', rfl, hc', hm', ho, hg3⟩
    have HG3 := Lib.hid hg3
    obtain ⟨j0, rfl⟩ : ∃ j0 : Nat, at_ = j0 := ⟨at_.toNat, by omega⟩
    have hj0 : j0 < s.length := by omega
    obtain ⟨b, o, rfl, hbig, hcell, hfz⟩ := ho j0 s[j0] (List.getElem?_eq_getElem hj0)
    have HO := Lib.hid ho
    clear ho hg3
    have hx : bits .xor .u8 (s[j0].toNat : Int) (over.toNat : Int) = ((s[j0] ^^^ over).toNat : Int) := by
      rw [UInt8.toNat_xor]
      exact u8_xor_nat _ _ s[j0].toNat_lt over.toNat_lt
    have hne : s[j0] ≠ s[j0] ^^^ over := fun e => c3 (cxor_other _ _ e.symm)
    obtain ⟨y, hyy⟩ : ∃ y, s[j0] ^^^ over = y := ⟨_, rfl⟩
    rw [hyy] at hx hne
    have hbad := recRd_one HRd.out j0 y hj0 hne
    have htl := HTe.out (s.set j0 y) hbad
    have hwr := HWr.out (s.set j0 y) (by simpa using hlen)
    have dl := HD1.out.lt
    have hbl := lt_of_cell hcell
    have hst := HD2.out.stay
    have hgs : Chg (fun x => x = b) u3 (u3.setCell ⟨b, o + j0, none⟩ (.int .u8 (y.toNat : Int))) := (Chg.refl (fun x => x = b) _).setCell (p := ⟨b, o + j0, none⟩) (.inl rfl) _
    have hd3 : IsD (u3.setCell ⟨b, o + j0, none⟩ (.int .u8 (y.toNat : Int))) pd ps pm D := (HD1.out.non HG3.out).keep hgs (fun x hx e => by subst e; omega) (fun A' c' _ b' o' _ hne => absurd hst hne)
    have hrdW : Rd (u3.setCell ⟨b, o + j0, none⟩ (.int .u8 (y.toNat : Int))) (some ⟨b, o, none⟩) (s.set j0 y) := by
      refine Rd.of_at fun i hi => ?_
      rw [List.length_set] at hi
      by_cases hik : j0 = i
      · subst hik
        rw [World.cell?_setCell_same _ _ _ hcell]
        simp
      · rw [World.cell?_setCell_other _ _ _ _ (by intro e; injection e with _ e _; omega)]
        obtain ⟨b', o', e, _, hc', _⟩ := HO.out i s[i] (List.getElem?_eq_getElem hi)
        injection e with e
        injection e with e1' e2' _
        subst e1' e2'
        rw [hc', List.getElem_set_ne hik]
    have HW := Lib.hid (Write_any pd ps pm D i (some ⟨b, o, none⟩) (s.set j0 y) c' _ hd3 HD2.out.sz hrdW (by
      intro b' o' e _
      injection e with e
      injection e with e _
      subst e
      omega))
    rw [List.length_set, hlen, hwr] at HW
    have HGS := Lib.hid hgs
    clear hd3 hrdW hgs hwr hbad
    go_wp2_with fail
    refine HW.out.mono ?_
    rintro e u5 ⟨rfl, hd5, hg5⟩
    have hE0 : k = 0 → (oneTell (prevR f l k)).2.2 = 160 := by rintro rfl; rfl
    have hE1 : k ≠ 0 → (oneTell (prevR f l k)).2.2 = 0 := fun h => by
      unfold oneTell prevR
      simp only
      rw [if_neg h, if_neg (rN_ne f l _ h1)]
    have hG0 : ∀ W, Chg Non u5 W → Calls Tryz.prog 9 #[.pointer (some ⟨pd, 0, none⟩)] W fun e w' => e = .returned (.tuple #[.agg (recA (prevR f l k)), .agg recZ, .int .i64 (oneTell (prevR f l k)).2.2]) ∧ Chg Non W w' := fun W hg => by
      have := cGet_up pd ps pm _ W (hd5.non hg) HD2.out.up (by show 2 ≤ D.sec.length; rw [HD2.out.len]; omega)
      rw [htl] at this
      exact this
    have hk := HK.out
    have HSP := Lib.hid (recA_size (prevR f l k) (prevR_ok HOK.out (by omega)))
    have HOP := Lib.hid (recA_one (prevR f l k))
    have eP := eq_same (prevR f l k) (prevR_bd HOK.out h1 h2 (by omega) h3)
    have eZ := eq_same Rec.zero zero_bd
    have hzz : recA Rec.zero = recZ := rfl
    rw [hzz] at eZ
    have hP1 : ∀ j, k = j + 1 → recA (prevR f l k) = recA (rN f l j) := by rintro j rfl; rfl
    obtain ⟨XP, hXP⟩ : ∃ X, recA (prevR f l k) = X := ⟨_, rfl⟩
    obtain ⟨E, hE⟩ : ∃ E, (oneTell (prevR f l k)).2.2 = E := ⟨_, rfl⟩
    simp only [hXP, hE] at HSP HOP eP hG0 hP1 hE0 hE1
    have HP1 := Lib.hid hP1
    have HKG := Lib.hid hG0
    have hAb : bA < u2.heap.size := lt_of_cell hcq
    have hsz2 := HG2.out.size
    have hsz1 := HG.out.size
    have hu5 : Chg Non w u5 := ((HG2.out.then_non HG3.out).then_new HGS.out (fun x e => by subst e; omega)).then_new hg5 (by rintro x (rfl | rfl | rfl) <;> omega)
    have HU5 := Lib.hid hu5
    have HRK := Lib.hid (fun (n : Nat) (cs : List Value) (h : u2.rangeAt bA n cs) => range_keep hg5 (range_keep HGS.out (range_non HG3.out h) (by omega)) (by have := HAP.out bA rfl; unfold DS; omega))
    clear hP1 hG0 hXP hE hg5 hd5 htl hu5 hcq hcell hfz hbig hzz hk
    by_cases hk0 : k = 0
    · have hE' := hE0 hk0
      subst hE'
      clear hE0 hE1
      have hb1 : (((k + 1 : Nat) : Int) == 1) = true := by rw [beq_iff_eq]; omega
      go_wp2_with (first
        | (go_at_call 9
           refine (HKG.out _ (Chg.refl _ _)).mono ?_
           rintro e u6 ⟨rfl, hg⟩
           have HG6 := Lib.hid hg
           clear hg)
        | (refine sel none (.store 25 (.tmp 15) (.tmp 83)) ?_
           refine wpList_store_rowA rfl 25 (.tmp 15) (.tmp 83) rfl u6.heap.size XP rfl rfl 25 _ (heap_alloc2_old _ _ _) (by rw [HSP.out]; exact info_rec) (by rw [HSP.out]; rfl) HOP.out ?_
           intro v8 hg1 hb1
           have HT8 : Hid (Two u6.heap.size (u6.heap.size + 1) XP recZ v8) := Lib.hid ⟨hb1, (hg1.block (u6.heap.size + 1) (by simp) (by omega)).trans (heap_alloc2_new _ _ _)⟩
           have HG8 := Lib.hid ((((Chg.refl Non u6).alloc _).alloc _).then_new hg1 (fun x e => by omega))
           clear hg1 hb1)
        | (refine sel none (.store 25 (.tmp 16) (.tmp 84)) ?_
           refine wpList_store_rowA rfl 25 (.tmp 16) (.tmp 84) rfl (u6.heap.size + 1) recZ rfl rfl 25 _ HT8.out.2 (by rw [recZ_size]; exact info_rec) (by rw [recZ_size]) recZ_one ?_
           intro v9 hg2 hb2
           have HT := Lib.hid ((HT8.out.put2 (by omega) hg2 hb2).non (Chg.refl Non _).drew)
           have HV9 := Lib.hid (HG6.out.then_non (HG8.out.then_new hg2 (fun x e => by omega)))
           have HV := Lib.hid HV9.out.drew
           clear hg2 hb2))
      go_ret
      exact ⟨rfl, HU5.out.then_non HV9.out⟩
    · have hE' := hE1 hk0
      subst hE'
      clear hE0 hE1
      obtain ⟨j, hj⟩ : ∃ j, k = j + 1 := ⟨k - 1, by omega⟩
      have hb1 : (((k + 1 : Nat) : Int) == 1) = false := by rw [beq_eq_false_iff_ne]; omega
      have hw4 : IntKind.i64.wrap (((k + 1 : Nat) : Int) - 2) = (j : Int) := by have := HK.out; rw [Go.IntWalk.i64_in _ (by omega)]; omega
      have hw7 : IntKind.i64.wrap ((k : Int) + 1 - 2) = (j : Int) := by have := HK.out; rw [Go.IntWalk.i64_in _ (by omega)]; omega
      have hw8 : IntKind.i64.wrap ((j : Int) + 1 + 1 - 2) = (j : Int) := by have := HK.out; rw [Go.IntWalk.i64_in _ (by omega)]; omega
      have hrj := (HRD.out j (by have := HK.out; omega))
      obtain ⟨bJ, hbJ, hrJ⟩ := hrj
      cases hbJ
      have hxj := HP1.out j hj
      rw [← hxj] at hrJ
      have HRJ0 := Lib.hid (HRK.out _ _ hrJ)
      clear hrJ hxj
      go_wp2_with (first
        | (go_at_call 9
           refine (HKG.out _ (Chg.refl _ _)).mono ?_
           rintro e u6 ⟨rfl, hg⟩
           have HG6 := Lib.hid hg
           clear hg)
        | (refine sel none (.store 25 (.tmp 15) (.tmp 83)) ?_
           refine wpList_store_rowA rfl 25 (.tmp 15) (.tmp 83) rfl u6.heap.size XP rfl rfl 25 _ (heap_alloc2_old _ _ _) (by rw [HSP.out]; exact info_rec) (by rw [HSP.out]; rfl) HOP.out ?_
           intro v8 hg1 hb1
           have HT8 : Hid (Two u6.heap.size (u6.heap.size + 1) XP recZ v8) := Lib.hid ⟨hb1, (hg1.block (u6.heap.size + 1) (by simp) (by omega)).trans (heap_alloc2_new _ _ _)⟩
           have HG8 := Lib.hid ((((Chg.refl Non u6).alloc _).alloc _).then_new hg1 (fun x e => by omega))
           clear hg1 hb1)
        | (refine sel none (.store 25 (.tmp 16) (.tmp 84)) ?_
           refine wpList_store_rowA rfl 25 (.tmp 16) (.tmp 84) rfl (u6.heap.size + 1) recZ rfl rfl 25 _ HT8.out.2 (by rw [recZ_size]; exact info_rec) (by rw [recZ_size]) recZ_one ?_
           intro v9 hg2 hb2
           have HT := Lib.hid ((HT8.out.put2 (by omega) hg2 hb2).non (Chg.refl Non _).drew)
           have HV9 := Lib.hid (HG6.out.then_non (HG8.out.then_new hg2 (fun x e => by omega)))
           have HV := Lib.hid HV9.out.drew
           clear hg2 hb2))
      have HRJ := Lib.hid (range_non HV.out HRJ0.out)
      have HFin := Lib.hid (HU5.out.then_non HV.out)
      refine wp_region_held_drew (S := Chg Non v9.drew) (by kernel_rfl) (Chg.refl _ _) (fun _ => ?_)
      refine h_pure 0 (some 91) (.int .i64 0) rfl (by kernel_rfl) (by kernel_rfl) (by kernel_rfl) (by kernel_rfl) (fun _ _ _ h => h) (by kernel_rfl) (fun w e => by go_simp) (Chg.refl _ _) ?_
      simp only [Act.put, List.setIfInBounds_toArray, List.set_cons_zero, List.set_cons_succ]
      refine h_pure 1 (some 92) (.bool true) rfl (by kernel_rfl) (by kernel_rfl) (by kernel_rfl) (by kernel_rfl) (fun _ _ _ h => h) (by kernel_rfl) (fun w e => by go_simp) (Chg.refl _ _) ?_
      simp only [Act.put, List.setIfInBounds_toArray, List.set_cons_zero, List.set_cons_succ]
      refine h_pure 2 (some 93) (.bool true) rfl (by kernel_rfl) (by kernel_rfl) (by kernel_rfl) (by kernel_rfl) (fun _ _ _ h => h) (by kernel_rfl) (fun w e => by go_simp) (Chg.refl _ _) ?_
      simp only [Act.put, List.setIfInBounds_toArray, List.set_cons_zero, List.set_cons_succ]
      refine h_load 3 (some 94) 25 (.tmp 15) u6.heap.size 0 XP _ rfl (by kernel_rfl) (by kernel_rfl) (by kernel_rfl) (by kernel_rfl) (by kernel_rfl) (fun _ _ _ h => h) (by kernel_rfl) (by kernel_rfl) (fun w h => (HT.out.non h).left) Tryz.underlying25 rfl (by rw [HSP.out]; exact info_rec) (Chg.refl _ _) ?_
      simp only [Act.put, List.setIfInBounds_toArray, List.set_cons_zero, List.set_cons_succ]
      refine h_pure 4 (some 95) (.slice (some ⟨bA, 0, none⟩) (k + 1) cc) rfl (by kernel_rfl) (by kernel_rfl) (by kernel_rfl) (by kernel_rfl) (fun _ _ _ h => h) (by kernel_rfl) (fun w e => by go_simp) (Chg.refl _ _) ?_
      simp only [Act.put, List.setIfInBounds_toArray, List.set_cons_zero, List.set_cons_succ]
      refine h_pure 5 (some 96) (.slice (some ⟨bA, 0, none⟩) (k + 1) cc) rfl (by kernel_rfl) (by kernel_rfl) (by kernel_rfl) (by kernel_rfl) (fun _ _ _ h => h) (by kernel_rfl) (fun w e => by go_simp) (Chg.refl _ _) ?_
      simp only [Act.put, List.setIfInBounds_toArray, List.set_cons_zero, List.set_cons_succ]
      refine h_pure 6 (some 97) (.int .i64 ((k + 1 : Nat) : Int)) rfl (by kernel_rfl) (by kernel_rfl) (by kernel_rfl) (by kernel_rfl) (fun _ _ _ h => h) (by kernel_rfl) (fun w e => by go_simp) (Chg.refl _ _) ?_
      simp only [Act.put, List.setIfInBounds_toArray, List.set_cons_zero, List.set_cons_succ]
      refine h_pure 7 (some 98) (.int .i64 (j : Int)) rfl (by kernel_rfl) (by kernel_rfl) (by kernel_rfl) (by kernel_rfl) (fun _ _ _ h => h) (by kernel_rfl) (fun w e => by go_simp) (Chg.refl _ _) ?_
      simp only [Act.put, List.setIfInBounds_toArray, List.set_cons_zero, List.set_cons_succ]
      refine h_pure 8 (some 99) (.pointer (some ⟨bA, j * 36, none⟩)) rfl (by kernel_rfl) (by kernel_rfl) (by kernel_rfl) (by kernel_rfl) (fun _ _ _ h => h) (by kernel_rfl) (fun w e => by go_simp; intro hh; omega) (Chg.refl _ _) ?_
      simp only [Act.put, List.setIfInBounds_toArray, List.set_cons_zero, List.set_cons_succ]
      refine h_load 9 (some 100) 25 (.tmp 99) bA (j * 36) XP _ rfl (by kernel_rfl) (by kernel_rfl) (by kernel_rfl) (by kernel_rfl) (by kernel_rfl) (fun _ _ _ h => h) (by kernel_rfl) (by kernel_rfl) (fun w h => range_non h HRJ.out) Tryz.underlying25 rfl (by rw [HSP.out]; exact info_rec) (Chg.refl _ _) ?_
      simp only [Act.put, List.setIfInBounds_toArray, List.set_cons_zero, List.set_cons_succ]
      refine h_pure 10 (some 101) (.bool true) rfl (by kernel_rfl) (by kernel_rfl) (by kernel_rfl) (by kernel_rfl) (fun _ _ _ h => h) (by kernel_rfl) (fun w e => by go_simp) (Chg.refl _ _) ?_
      simp only [Act.put, List.setIfInBounds_toArray, List.set_cons_zero, List.set_cons_succ]
      refine h_pure 11 (some 102) (.bool true) rfl (by kernel_rfl) (by kernel_rfl) (by kernel_rfl) (by kernel_rfl) (fun _ _ _ h => h) (by kernel_rfl) (fun w e => by go_simp) (Chg.refl _ _) ?_
      simp only [Act.put, List.setIfInBounds_toArray, List.set_cons_zero, List.set_cons_succ]
      refine h_pure 12 (some 103) (.bool true) rfl (by kernel_rfl) (by kernel_rfl) (by kernel_rfl) (by kernel_rfl) (fun _ _ _ h => h) (by kernel_rfl) (fun w e => by go_simp) (Chg.refl _ _) ?_
      simp only [Act.put, List.setIfInBounds_toArray, List.set_cons_zero, List.set_cons_succ]
      refine h_load 13 (some 104) 25 (.tmp 16) (u6.heap.size + 1) 0 recZ _ rfl (by kernel_rfl) (by kernel_rfl) (by kernel_rfl) (by kernel_rfl) (by kernel_rfl) (fun _ _ _ h => h) (by kernel_rfl) (by kernel_rfl) (fun w h => (HT.out.non h).right) Tryz.underlying25 rfl (by rw [recZ_size]; exact info_rec) (Chg.refl _ _) ?_
      simp only [Act.put, List.setIfInBounds_toArray, List.set_cons_zero, List.set_cons_succ]
      refine h_pure 14 (some 105) (.agg recZ) rfl (by kernel_rfl) (by kernel_rfl) (by kernel_rfl) (by kernel_rfl) (fun _ _ _ h => h) (by kernel_rfl) (fun w e => by kernel_rfl) (Chg.refl _ _) ?_
      simp only [Act.put, List.setIfInBounds_toArray, List.set_cons_zero, List.set_cons_succ]
      refine h_pure 15 (some 106) (.bool true) rfl (by kernel_rfl) (by kernel_rfl) (by kernel_rfl) (by kernel_rfl) (fun _ _ _ h => h) (by kernel_rfl) (fun w e => by go_simp) (Chg.refl _ _) ?_
      simp only [Act.put, List.setIfInBounds_toArray, List.set_cons_zero, List.set_cons_succ]
      refine h_pure 16 (some 107) (.bool true) rfl (by kernel_rfl) (by kernel_rfl) (by kernel_rfl) (by kernel_rfl) (fun _ _ _ h => h) (by kernel_rfl) (fun w e => by go_simp) (Chg.refl _ _) ?_
      simp only [Act.put, List.setIfInBounds_toArray, List.set_cons_zero, List.set_cons_succ]
      refine h_pure 17 (some 8) (.bool true) rfl (by kernel_rfl) (by kernel_rfl) (by kernel_rfl) (by kernel_rfl) (fun _ _ _ h => h) (by kernel_rfl) (fun w e => by go_simp) (Chg.refl _ _) ?_
      simp only [Act.put, List.setIfInBounds_toArray, List.set_cons_zero, List.set_cons_succ]
      refine wpAnyH_done (by kernel_rfl) ?_ _
      go_wp2_with fail
      go_ret
      exact ⟨rfl, HFin.out⟩
end Go.Proofs.YthhbdejagglgbaaGreat
