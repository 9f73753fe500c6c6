/- CheckBase, part 20 of 21: contracts of the functions that it reaches, and the laws that they need, merged and shortened (from my texts XCkW, XCkX, XSa, XSb, XWt, XPost, XOpen, XSized). -/
import Derived.Test.YtkgnlobabknkcaaGreatMgCheckBaseA
import Derived.Test.YtkgnlobabknkcaaGreatMgCheckBaseB
import Derived.Test.YtkgnlobabknkcaaGreatMgCheckBaseG
import Derived.Test.YtkgnlobabknkcaaGreatMgCheckBaseJ
import Derived.Test.YtkgnlobabknkcaaGreatMgCheckBaseS
import Derived.ProofKit
import Derived.WalkKit
import Derived.OpenShut
import Derived.ReadAgain
import Derived.SizedLaws
namespace Go.Proofs.YtkgnlobabknkcaaGreat
set_option linter.unusedVariables false
set_option linter.unusedSimpArgs false
set_option maxHeartbeats 8000000
section
open Go.RowKit Go.Shelf
attribute [local go_sem] Oper.semAt_some
set_option maxRecDepth 100000 in
theorem awake_ok (w : World) : Calls Tryz.prog 21 #[] w fun e w' => e = .returned (.bool true) ∧ Chg Non w w' := by
 have HNew := Lib.hid (New_ok 323 w (by omega) (by omega))
 obtain ⟨e1, e2, e3, ha⟩ := aw_disks
 have HSm := Lib.hid (fun n W => small_ok n W)
 have h0 := new_rest
 obtain ⟨D0, hD0⟩ : ∃ D, Dk.new 323 = D := ⟨_, rfl⟩
 have hg0 : kGet D0 = none := by rw [← hD0]; exact new_kGet
 rw [hD0] at e1 e2 e3 ha h0 HNew
 obtain ⟨y1, hy1⟩ : ∃ y, kPutR D0 1 (tagN 1) (smS 1) = y := ⟨_, rfl⟩
 rw [hy1] at e1 e2 e3 ha
 obtain ⟨D1, z1⟩ := y1
 simp only at e1 e2 e3 ha
 subst e1
 obtain ⟨y2, hy2⟩ : ∃ y, kPutR D1 2 (tagN 2) (smS 2) = y := ⟨_, rfl⟩
 rw [hy2] at e2 e3 ha
 obtain ⟨D2, z2⟩ := y2
 simp only at e2 e3 ha
 subst e2
 obtain ⟨y3, hy3⟩ : ∃ y, kPutR { D2 with left := 97, stay := [] } 3 (tagN 3) (smS 3) = y := ⟨_, rfl⟩
 rw [hy3] at e3 ha
 obtain ⟨D4, z3⟩ := y3
 simp only at e3 ha
 subst e3
 have HA := Lib.hid ha
 have H0 := Lib.hid (And.intro h0 hg0)
 have HP1 := Lib.hid (fun pd ps pm vb vd W (hD : IsD W pd ps pm D0) (hs : StaV (fun x => x < W.heap.size) W (smS 1) vb vd) => kPut_in _ pd ps pm D0 1 (tagN 1) (smS 1) vb vd W hD h0.sz (by rw [h0.len]; omega) hs (fun _ h => h) (tagN_len 1) ⟨by omega, by omega⟩)
 have HP2 := Lib.hid (fun pd ps pm vb vd W (hD : IsD W pd ps pm D1) (hs : StaV (fun x => x < W.heap.size) W (smS 2) vb vd) => kPut_in _ pd ps pm D1 2 (tagN 2) (smS 2) vb vd W hD ha.r1.sz (by rw [ha.r1.len]; omega) hs (fun _ h => h) (tagN_len 2) ⟨by omega, by omega⟩)
 have HP3 := Lib.hid (fun pd ps pm vb vd W (hD : IsD W pd ps pm { D2 with left := 97, stay := [] }) (hs : StaV (fun x => x < W.heap.size) W (smS 3) vb vd) => kPut_in _ pd ps pm { D2 with left := 97, stay := [] } 3 (tagN 3) (smS 3) vb vd W hD ⟨by simp, by simp⟩ (by show 323 ≤ D2.sec.length; rw [ha.r2.len]; omega) hs (fun _ h => h) (tagN_len 3) ⟨by omega, by omega⟩)
 have HP4 := Lib.hid (fun pd ps pm vb vd W (hD : IsD W pd ps pm { D4 with up := true }) (hs : StaV (fun x => x < W.heap.size) W (smS 1) vb vd) => kPut_in _ pd ps pm { D4 with up := true } 0 zTag (smS 1) vb vd W hD ha.sz4 (by show 323 ≤ D4.sec.length; rw [ha.len5]; omega) hs (fun _ h => h) zTag_len ⟨by omega, by omega⟩)
 rw [hy1] at HP1
 rw [hy2] at HP2
 rw [hy3] at HP3
 rw [putR_no (n := 0) (by omega)] at HP4
 simp only at HP1 HP2 HP3 HP4
 clear hy1 hy2 hy3 hD0 hg0 h0 ha
 go_enter Tryz.func21, Tryz.ntmps21
 go_wp2_with fail
 refine HNew.out.mono ?_
 rintro e u1 ⟨pd, ps, pm, rfl, hD, hp1, hp2, hp3, hg⟩
 have HD := Lib.hid hD
 have HG := Lib.hid hg
 have HPp := Lib.hid (And.intro hp1 (And.intro hp2 hp3))
 clear hD hg hp1 hp2 hp3 HNew
 go_wp2_with fail
 refine (Get_in pd ps pm D0 u1 HD.out (by rw [H0.out.1.len]; omega)).mono ?_
 rintro e u2 ⟨hf, hg⟩
 obtain rfl := getF_none H0.out.1.up (by rw [H0.out.1.len]; omega) H0.out.2 hf
 have HD2 := Lib.hid (HD.out.non hg)
 have HG2 := Lib.hid (HG.out.then_non hg)
 clear hf hg HD HG
 obtain ⟨bt, hbt⟩ : ∃ b, u2.heap.size = b := ⟨_, rfl⟩
 have hzt : ∀ o o2, ((u2.alloc o).alloc o2).heap[bt]? = some o := fun o o2 => by rw [← hbt]; exact heap_alloc2_old _ _ _
 have hzs : ∀ o o2, ((u2.alloc o).alloc o2).heap[bt + 1]? = some o2 := fun o o2 => by rw [← hbt]; exact heap_alloc2_new _ _ _
 have hgo : ∀ o o2, Chg Non u2 ((u2.alloc o).alloc o2) := fun o o2 => ((Chg.refl Non u2).alloc o).alloc o2
 go_wp2_with (first
 | (refine sel none (.store 28 (.tmp 4) (.tmp 33)) ?_
    refine wpList_store_rowA rfl 28 (.tmp 4) (.tmp 33) rfl bt (tagA zTag) rfl rfl 28 _ (hzt _ _) (by rw [tagA_size _ (by kernel_rfl)]; exact info_tag) rfl (tagA_one _) ?_
    intro W3 hg3 hb3
    have hs3 := blk_keep (hzs (.cells (tagA zTag) 28) (.cells zStC 25)) hg3 (fun e => by have e : bt + 1 = bt := e; omega)
    have hG3 := (hgo (.cells (tagA zTag) 28) (.cells zStC 25)).then_new hg3 (fun x e => by have e : x = bt := e; omega))
 | (refine sel none (.store 25 (.tmp 5) (.tmp 34)) ?_
    refine wpList_store_rowA rfl 25 (.tmp 5) (.tmp 34) rfl (bt + 1) zStC rfl rfl 25 _ hs3 info_st rfl (by kernel_rfl) ?_
    intro W4 hg4 hb4
    have HT := Lib.hid (blk_keep hb3 hg4 (fun e => by have e : bt = bt + 1 := e; omega))
    have HSt := Lib.hid hb4
    have HG4 := Lib.hid (hG3.then_new hg4 (fun x e => by have e : x = bt + 1 := e; omega))
    have cf := blk_cell hb4 0 (v := .int .i64 0) rfl
    clear hs3 hG3 hg3 hb3 hg4 hb4)
 | (refine sel (some 37) (.build 28 _) ?_; refine wpList_valA rfl (some 37) (.agg (tagA (tagN 1))) rfl (by kernel_rfl) ?_))
 refine (HSm.out 1 _).mono ?_
 rintro e v1 ⟨vb, vd, rfl, hso, hg⟩
 have HD3 := Lib.hid ((HD2.out.non HG4.out).non hg)
 have HG3 := Lib.hid ((HG2.out.then_non HG4.out).then_non hg)
 have HSv := Lib.hid hso.staV
 clear hso hg HD2 HG2 HG4 cf HT HSt hbt hzt hzs hgo
 go_wp2_with fail
 refine (HP1.out pd ps pm vb vd v1 HD3.out HSv.out).mono ?_
 rintro e v2 ⟨rfl, hD, hg⟩
 have HD4 := Lib.hid hD
 have HG4 := Lib.hid (HG3.out.then_new hg (fun x e => by have := HPp.out; rcases e with e | e | e <;> omega))
 clear hD hg HD3 HG3 HSv
 go_wp2_with (refine sel (some 41) (.build 28 _) ?_; refine wpList_valA rfl (some 41) (.agg (tagA (tagN 2))) rfl (by kernel_rfl) ?_)
 refine (HSm.out 2 _).mono ?_
 rintro e v3 ⟨vb, vd, rfl, hso, hg⟩
 have HD5 := Lib.hid (HD4.out.non hg)
 have HG5 := Lib.hid (HG4.out.then_non hg)
 have HSv := Lib.hid hso.staV
 clear hso hg HD4 HG4
 go_wp2_with fail
 refine (HP2.out pd ps pm vb vd v3 HD5.out HSv.out).mono ?_
 rintro e v4 ⟨rfl, hD, hg⟩
 have HD6 := Lib.hid hD
 have HG6 := Lib.hid (HG5.out.then_new hg (fun x e => by have := HPp.out; rcases e with e | e | e <;> omega))
 clear hD hg HD5 HG5 HSv
 go_wp2_with fail
 refine (Get_in pd ps pm D2 v4 HD6.out (by rw [HA.out.r2.len]; omega)).mono ?_
 rintro e u3 ⟨hf, hg⟩
 obtain ⟨vb, vd, rfl, hso⟩ := getF_some HA.out.r2.up (by rw [HA.out.r2.len]; omega) HA.out.g2 hf
 obtain ⟨A1, c1, rfl, _, _, _⟩ := hso.ps.rd
 obtain ⟨A2, c2, rfl, _, _, _⟩ := hso.qs.rd
 have HD7 := Lib.hid (HD6.out.non hg)
 have HG7 := Lib.hid (HG6.out.then_non hg)
 clear hf hg hso HD6 HG6
 obtain ⟨bt, hbt⟩ : ∃ b, u3.heap.size = b := ⟨_, rfl⟩
 have hzt : ∀ o o2, ((u3.alloc o).alloc o2).heap[bt]? = some o := fun o o2 => by rw [← hbt]; exact heap_alloc2_old _ _ _
 have hzs : ∀ o o2, ((u3.alloc o).alloc o2).heap[bt + 1]? = some o2 := fun o o2 => by rw [← hbt]; exact heap_alloc2_new _ _ _
 have hgo : ∀ o o2, Chg Non u3 ((u3.alloc o).alloc o2) := fun o o2 => ((Chg.refl Non u3).alloc o).alloc o2
 go_wp2_with (first
 | (refine sel none (.store 28 (.tmp 10) (.tmp 48)) ?_
    refine wpList_store_rowA rfl 28 (.tmp 10) (.tmp 48) rfl bt (tagA (tagN 2)) rfl rfl 28 _ (hzt _ _) (by rw [tagA_size _ (by kernel_rfl)]; exact info_tag) rfl (tagA_one _) ?_
    intro W3 hg3 hb3
    have hs3 := blk_keep (hzs (.cells (tagA zTag) 28) (.cells zStC 25)) hg3 (fun e => by have e : bt + 1 = bt := e; omega)
    have hG3 := (hgo (.cells (tagA zTag) 28) (.cells zStC 25)).then_new hg3 (fun x e => by have e : x = bt := e; omega))
 | (refine sel none (.store 25 (.tmp 11) (.tmp 49)) ?_
    refine wpList_store_rowA rfl 25 (.tmp 11) (.tmp 49) rfl (bt + 1) #[.int .i64 2, .slice A1 (smS 2).parts.length c1, .slice A2 (smS 2).queues.length c2] rfl rfl 25 _ hs3 info_st rfl (by kernel_rfl) ?_
    intro W4 hg4 hb4
    have HT := Lib.hid (blk_keep hb3 hg4 (fun e => by have e : bt = bt + 1 := e; omega))
    have HSt := Lib.hid hb4
    have HG4 := Lib.hid (hG3.then_new hg4 (fun x e => by have e : x = bt + 1 := e; omega))
    have cf := blk_cell hb4 0 (v := .int .i64 2) rfl
    clear hs3 hG3 hg3 hb3 hg4 hb4)
 | (refine sel (some 66) (.load 28 (.tmp 10)) ?_; refine wpList_loadW (some 66) 28 (.tmp 10) bt 0 (tagA (tagN 2)) _ rfl rfl (by kernel_rfl) rfl (blk_range HT.out) Tryz.underlying28 rfl (by rw [tagA_size _ (tagN_len 2)]; exact info_tag) ?_)
 | (refine sel (some 67) (.build 28 _) ?_; refine wpList_pureW (some 67) (.agg (tagA (tagN 2))) rfl (by kernel_rfl) (by kernel_rfl) ?_)
 | (refine sel (some 68) (.binOp .neq 28 (.tmp 66) (.tmp 67) 28) ?_; refine wpList_pureW (some 68) (.bool false) rfl (by kernel_rfl) (by kernel_rfl) ?_))
 have HD8 := Lib.hid (HD7.out.non HG4.out)
 have HG8 := Lib.hid (HG7.out.then_non HG4.out)
 clear HD7 HG7 HG4 cf HT HSt hbt hzt hzs hgo
 refine (Arm_up pd ps pm D2 97 none [] 0 _ HD8.out HA.out.r2.up (Rd.nil _ _) (by simp) (by omega)).mono ?_
 rintro e v5 ⟨rfl, hD, hg⟩
 have HD9 := Lib.hid hD
 have HG9 := Lib.hid (HG8.out.then_new hg (fun x e => by have := HPp.out; rcases e with e | e | e <;> omega))
 clear hD hg HD8 HG8
 go_wp2_with (refine sel (some 82) (.build 28 _) ?_; refine wpList_valA rfl (some 82) (.agg (tagA (tagN 3))) rfl (by kernel_rfl) ?_)
 refine (HSm.out 3 _).mono ?_
 rintro e v6 ⟨vb, vd, rfl, hso, hg⟩
 have HDa := Lib.hid (HD9.out.non hg)
 have HGa := Lib.hid (HG9.out.then_non hg)
 have HSv := Lib.hid hso.staV
 clear hso hg HD9 HG9
 go_wp2_with fail
 refine (HP3.out pd ps pm vb vd v6 HDa.out HSv.out).mono ?_
 rintro e v7 ⟨rfl, hD, hg⟩
 have HDb := Lib.hid hD
 have HGb := Lib.hid (HGa.out.then_new hg (fun x e => by have := HPp.out; rcases e with e | e | e <;> omega))
 clear hD hg HDa HGa HSv
 go_wp2_with fail
 refine (Start_any pd ps pm D4 v7 HDb.out).mono ?_
 rintro e v8 ⟨rfl, hD, hg⟩
 have hst := start_at D4 HA.out.down
 rw [hst.2] at hD
 rw [hst.1]
 have HDc := Lib.hid hD
 have HGc := Lib.hid (HGb.out.then_new hg (fun x e => by have := HPp.out; rcases e with e | e | e <;> omega))
 clear hD hg hst HDb HGb
 go_wp2_with fail
 refine (Get_in pd ps pm { D4 with up := true } v8 HDc.out (by show 0 < D4.sec.length; rw [HA.out.len5]; omega)).mono ?_
 rintro e u4 ⟨hf, hg⟩
 obtain ⟨vb, vd, rfl, hso⟩ := getF_some (D := { D4 with up := true }) rfl (by show 322 < D4.sec.length; rw [HA.out.len5]; omega) HA.out.g5 hf
 obtain ⟨A3, c3, rfl, _, _, _⟩ := hso.ps.rd
 obtain ⟨A4, c4, rfl, _, _, _⟩ := hso.qs.rd
 have HDd := Lib.hid (HDc.out.non hg)
 have HGd := Lib.hid (HGc.out.then_non hg)
 clear hf hg hso HDc HGc
 obtain ⟨bt, hbt⟩ : ∃ b, u4.heap.size = b := ⟨_, rfl⟩
 have hzt : ∀ o o2, ((u4.alloc o).alloc o2).heap[bt]? = some o := fun o o2 => by rw [← hbt]; exact heap_alloc2_old _ _ _
 have hzs : ∀ o o2, ((u4.alloc o).alloc o2).heap[bt + 1]? = some o2 := fun o o2 => by rw [← hbt]; exact heap_alloc2_new _ _ _
 have hgo : ∀ o o2, Chg Non u4 ((u4.alloc o).alloc o2) := fun o o2 => ((Chg.refl Non u4).alloc o).alloc o2
 go_wp2_with (first
 | (refine sel none (.store 28 (.tmp 16) (.tmp 91)) ?_
    refine wpList_store_rowA rfl 28 (.tmp 16) (.tmp 91) rfl bt (tagA (tagN 2)) rfl rfl 28 _ (hzt _ _) (by rw [tagA_size _ (by kernel_rfl)]; exact info_tag) rfl (tagA_one _) ?_
    intro W3 hg3 hb3
    have hs3 := blk_keep (hzs (.cells (tagA zTag) 28) (.cells zStC 25)) hg3 (fun e => by have e : bt + 1 = bt := e; omega)
    have hG3 := (hgo (.cells (tagA zTag) 28) (.cells zStC 25)).then_new hg3 (fun x e => by have e : x = bt := e; omega))
 | (refine sel none (.store 25 (.tmp 17) (.tmp 92)) ?_
    refine wpList_store_rowA rfl 25 (.tmp 17) (.tmp 92) rfl (bt + 1) #[.int .i64 2, .slice A3 (smS 2).parts.length c3, .slice A4 (smS 2).queues.length c4] rfl rfl 25 _ hs3 info_st rfl (by kernel_rfl) ?_
    intro W4 hg4 hb4
    have HT := Lib.hid (blk_keep hb3 hg4 (fun e => by have e : bt = bt + 1 := e; omega))
    have HSt := Lib.hid hb4
    have HG4 := Lib.hid (hG3.then_new hg4 (fun x e => by have e : x = bt + 1 := e; omega))
    have cf := blk_cell hb4 0 (v := .int .i64 2) rfl
    clear hs3 hG3 hg3 hb3 hg4 hb4)
 | (refine sel (some 115) (.build 28 _) ?_; refine wpList_pureW (some 115) (.agg (tagA zTag)) rfl (by kernel_rfl) (by kernel_rfl) ?_))
 refine (HSm.out 1 _).mono ?_
 rintro e v9 ⟨vb, vd, rfl, hso, hg⟩
 have HDe := Lib.hid ((HDd.out.non HG4.out).non hg)
 have HGe := Lib.hid ((HGd.out.then_non HG4.out).then_non hg)
 have HSv := Lib.hid hso.staV
 clear hso hg HDd HGd HG4 cf HT HSt hbt hzt hzs hgo
 go_wp2_with fail
 refine (HP4.out pd ps pm vb vd v9 HDe.out HSv.out).mono ?_
 rintro e va ⟨rfl, hD, hg⟩
 have HGf := Lib.hid (HGe.out.then_new hg (fun x e => by have := HPp.out; rcases e with e | e | e <;> omega))
 clear hD hg HDe HGe HSv
 go_wp2_with fail
 go_ret
 exact ⟨rfl, HGf.out⟩
end
section
open Go.RowKit
theorem put_calm {D : Dk} {n : Int} {hash : List UInt8} {s : Sta} (hr : Rest D) (hl : D.left = 0) (hy : D.stay = []) (hs : StBd s) (hm : mayS s = true) (hh : hash.length = 32) (h1 : 1 ≤ n) (h2 : n ≤ 9223372036854775807) :
  (kPutR D n hash s).2 = 0 ∧ PutOk D (kPutR D n hash s).1 n hash s ∧ Rest (kPutR D n hash s).1 ∧ (kPutR D n hash s).1.left = 0 ∧ (kPutR D n hash s).1.stay = [] := by
 rw [putR_may h1 hm]
 have hst : (kPut D (plc n) n hash s).1.stay = [] := kPut_stay (by rw [hr.len]; omega) hy
 rcases kPut_all (hash := hash) hr.up hr.cache (by rw [hr.len]; omega) hr.l0 hs hm hh h1 h2 with ⟨a, _⟩ | ⟨_, e1, p1⟩
 ·rw [hl] at a; omega
 ·exact ⟨e1, p1, p1.rest hr (hst.trans hy.symm), by rw [p1.left, hl]; rfl, hst⟩
structure BackD (D1 D2 : Dk) (n m : Int) (t1 t2 : List UInt8) (a b : Sta) : Prop where
 r1 : Rest D1
 r2 : Rest D2
 left : D2.left = 0
 stay : D2.stay = []
 k1 : kAt D2 (plc n) = some (n, t1, a)
 k2 : kAt D2 (1 - plc n) = some (m, t2, b)
 pl : plc m = 1 - plc n
theorem back_disks {n m : Int} {t1 t2 : List UInt8} {a b : Sta} (h1 : t1.length = 32) (h2 : t2.length = 32) (hn1 : 1 ≤ n) (hn2 : n ≤ 1073741824) (hm1 : 1 ≤ m) (hm2 : m ≤ 1073741824) (hne : n % 2 ≠ m % 2) (ha : mayS a = true) (hb : mayS b = true) (ba : StBd a) (bb : StBd b) :
  (kPutR (Dk.new 323) n t1 a).2 = 0 ∧ (kPutR (kPutR (Dk.new 323) n t1 a).1 m t2 b).2 = 0 ∧ BackD (kPutR (Dk.new 323) n t1 a).1 (kPutR (kPutR (Dk.new 323) n t1 a).1 m t2 b).1 n m t1 t2 a b := by
 obtain ⟨e1, p1, r1, l1, y1⟩ := put_calm (n := n) (hash := t1) (s := a) new_rest rfl rfl ba ha h1 hn1 (by omega)
 obtain ⟨D1, hD1⟩ : ∃ D, (kPutR (Dk.new 323) n t1 a).1 = D := ⟨_, rfl⟩
 rw [hD1] at p1 r1 l1 y1 ⊢
 obtain ⟨e2, p2, r2, l2, y2⟩ := put_calm (n := m) (hash := t2) (s := b) r1 l1 y1 bb hb h2 hm1 (by omega)
 have hpl : plc m = 1 - plc n := by unfold plc; omega
 have hpl2 : 1 - plc m = plc n := by unfold plc; omega
 refine ⟨e1, e2, r1, r2, l2, y2, ?_, ?_, hpl⟩
 ·have := p2.old; rw [hpl2] at this; rw [this]; exact p1.new
 ·have := p2.new; rwa [hpl] at this
theorem BackD.get {D1 D2 : Dk} {n m : Int} {t1 t2 : List UInt8} {a b : Sta} (h : BackD D1 D2 n m t1 t2 a b) (hg : m < n) : kGet D2 = some (n, t1, a) := kGet_top (plc_lt n) h.k1 (by rw [h.k2]; exact hg)
theorem BackD.get2 {D1 D2 : Dk} {n m : Int} {t1 t2 : List UInt8} {a b : Sta} (h : BackD D1 D2 n m t1 t2 a b) (hg : n < m) : kGet D2 = some (m, t2, b) := kGet_top (p := 1 - plc n) (by have := plc_lt n; omega) h.k2 (by
  have e : 1 - (1 - plc n) = plc n := by have := plc_lt n; omega
  rw [e, h.k1]; exact hg)
theorem zero_head {D : Dk} (hr : Rest D) (hl : D.left = 0) (p : Nat) (hp : p < 2) : (D.write ((131 + 96 * p : Nat) : Int) (List.replicate 64 0)).2 = 0 ∧ (D.write ((131 + 96 * p : Nat) : Int) (List.replicate 64 0)).1.up = true ∧
  (D.write ((131 + 96 * p : Nat) : Int) (List.replicate 64 0)).1.sec.length = 323 ∧ kAt (D.write ((131 + 96 * p : Nat) : Int) (List.replicate 64 0)).1 p = none ∧ kAt (D.write ((131 + 96 * p : Nat) : Int) (List.replicate 64 0)).1 (1 - p) = kAt D (1 - p) := by
 have hlen := hr.len
 have hw : D.write ((131 + 96 * p : Nat) : Int) (List.replicate 64 0) = ({ D with up := true, left := max (D.left - 1) 0, cache := upd D.cache (131 + 96 * p) (List.replicate 64 0) }, 0) := by
  have hu := hr.up
  clear hr
  obtain ⟨u, sc, ca, lf, sy⟩ := D
  simp only at hu hl hlen
  subst hu
  unfold Dk.write
  simp only
  rw [if_neg (by simp), if_neg (by omega), if_neg (by simp)]
  unfold Dk.operate
  simp only
  rw [if_neg (by omega)]
  rfl
 rw [hw]
 have hat : ∀ i, ({ D with up := true, left := max (D.left - 1) 0, cache := upd D.cache (131 + 96 * p) (List.replicate 64 0) } : Dk).at_ i = if i = 131 + 96 * p then List.replicate 64 0 else D.at_ i := fun i => by
  unfold Dk.at_
  simp only [look_upd]
  split
  ·rfl
  ·rfl
 refine ⟨rfl, rfl, hlen, kAt_zero ?_, kAt_same (fun i h1 h2 => ?_)⟩
 ·rw [hat, if_pos rfl]
 ·rw [hat, if_neg (by omega)]
theorem kGet_other {D : Dk} {p : Nat} (hp : p < 2) {x : Int × List UInt8 × Sta} (h0 : kAt D p = none) (h1 : kAt D (1 - p) = some x) : kGet D = some x := by
 have hx : (1 : Int) ≤ x.1 := (kAt_num h1).2.2.2
 refine kGet_top (p := 1 - p) (by omega) h1 ?_
 have e : 1 - (1 - p) = p := by omega
 rw [e, h0]
 show (0 : Int) < x.1
 omega
theorem BackD.zero {D1 D2 : Dk} {n m : Int} {t1 t2 : List UInt8} {a b : Sta} (h : BackD D1 D2 n m t1 t2 a b) (hg : m < n) : kGet (D2.write ((131 + 96 * plc n : Nat) : Int) (List.replicate 64 0)).1 = some (m, t2, b) := by
 obtain ⟨_, _, _, h4, h5⟩ := zero_head h.r2 h.left (plc n) (plc_lt n)
 exact kGet_other (plc_lt n) h4 (h5.trans h.k2)
theorem BackD.zero2 {D1 D2 : Dk} {n m : Int} {t1 t2 : List UInt8} {a b : Sta} (h : BackD D1 D2 n m t1 t2 a b) (hg : n < m) : kGet (D2.write ((131 + 96 * plc m : Nat) : Int) (List.replicate 64 0)).1 = some (n, t1, a) := by
 obtain ⟨_, _, _, h4, h5⟩ := zero_head h.r2 h.left (plc m) (plc_lt m)
 refine kGet_other (plc_lt m) h4 (h5.trans ?_)
 have e : 1 - plc m = plc n := by have := plc_lt n; have := h.pl; omega
 rw [e]; exact h.k1
end
section
open Go.RowKit
theorem keyLits_u32s {P : Program} {e : TypeId} {D : Nat} (he : P.underlying e = some (.int .u32)) (b : Nat) (h : b < 4294967296) : P.keyLits (D + 1) e [.int .u32 b] = some [.int .u32 (b : Int)] := by
 unfold Program.keyLits
 rw [he]
 have hw : (Lit.int .u32 (b : Int)).wf = true := WalkArith.wf_u32 (by omega)
 simp only [true_and, hw, if_true]
def rgC (p : Pt) : Array Value := #[.int .u32 (p.g 0 : Nat), .int .u32 (p.g 1 : Nat), .int .u32 (p.g 2 : Nat), .int .u32 (p.g 3 : Nat), .int .u32 (p.g 4 : Nat), .int .u32 (p.g 5 : Nat), .int .u32 (p.g 6 : Nat), .int .u32 (p.g 7 : Nat)]
def rgLits (p : Pt) : List Lit := [.int .u32 (p.g 0 : Nat), .int .u32 (p.g 1 : Nat), .int .u32 (p.g 2 : Nat), .int .u32 (p.g 3 : Nat), .int .u32 (p.g 4 : Nat), .int .u32 (p.g 5 : Nat), .int .u32 (p.g 6 : Nat), .int .u32 (p.g 7 : Nat)]
set_option maxRecDepth 100000 in
theorem keyLits_rg (p : Pt) (h : p.Bd) : Tryz.prog.keyLits 3 102 (rgC p).toList = some (rgLits p) := by
 unfold Program.keyLits
 rw [Tryz.underlying102]
 have c8 : Tryz.prog.cellsOf 102 = 8 := by kernel_rfl
 have c1 : Tryz.prog.cellsOf 76 = 1 := by kernel_rfl
 have k : ∀ i, Tryz.prog.keyLits 2 76 [.int .u32 (p.g i : Nat)] = some [.int .u32 ((p.g i : Nat) : Int)] := fun i => keyLits_u32s (D := 1) Tryz.underlying76 _ (h.rb i)
 simp [rgC, c1, c8, k, rgLits, List.range, List.range.loop]
theorem rg_formed (p : Pt) : (Value.agg (rgC p)).formed Tryz.prog 102 = true := by
 have c8 : Tryz.prog.cellsOf 102 = 8 := by kernel_rfl
 unfold Value.formed
 rw [Tryz.underlying102]
 simp [c8, rgC]
theorem eq_rg (p : Pt) (h : p.Bd) (w : World) : (binOp .eql 102 (.agg (rgC p)) (.agg (rgC p))).run Tryz.prog w = .ok (.bool true) w := by
 have := (eq_agg (P := Tryz.prog) (t := 102) (p := True) (by simp) 3 (by omega) (by kernel_rfl) (rg_formed p) (rg_formed p) (keyLits_rg p h) (keyLits_rg p h) w).1
 simpa using this
theorem PartB.rgs {W : World} {b : Nat} {p : Pt} {m : Value} (h : PartB W b p m) : W.rangeAt b 3 (rgC p).toList := by
 intro j v hv
 have hj : j < 8 := by have := (List.getElem?_eq_some_iff.1 hv).1; simpa [rgC] using this
 have hr := h.reg j hj
 rw [hr]
 have h' : j = 0 ∨ j = 1 ∨ j = 2 ∨ j = 3 ∨ j = 4 ∨ j = 5 ∨ j = 6 ∨ j = 7 := by omega
 rcases h' with rfl | rfl | rfl | rfl | rfl | rfl | rfl | rfl <;> simpa [rgC] using hv
theorem info_rg : (Tryz.prog.info? 102).map (·.size) = some 8 := by kernel_rfl
set_option maxRecDepth 100000 in
theorem r20_eq (p : Pt) (A1 A2 : Option Addr) (c1 c2 : Nat) (w : World) (hb : p.Bd) (h1 : Rd w A1 p.mem) (h2 : Rd w A2 p.mem) :
  Calls Tryz.prog 50 #[.agg (partC p (.slice A1 p.mem.length c1)), .agg (partC p (.slice A2 p.mem.length c2))] w fun e w' => e = .returned (.bool true) ∧ Chg Non w w' := by
 have h8 := hb.r8
 have hg0 : Chg Non w ((w.alloc (.cells (partC p (.slice A1 p.mem.length c1)) 104)).alloc (.cells (partC p (.slice A2 p.mem.length c2)) 104)) := ((Chg.refl Non w).alloc _).alloc _
 have hp1 : PartB ((w.alloc (.cells (partC p (.slice A1 p.mem.length c1)) 104)).alloc (.cells (partC p (.slice A2 p.mem.length c2)) 104)) w.heap.size p (.slice A1 p.mem.length c1) := ⟨al_2_0 _ _ _, h8⟩
 have hp2 : PartB ((w.alloc (.cells (partC p (.slice A1 p.mem.length c1)) 104)).alloc (.cells (partC p (.slice A2 p.mem.length c2)) 104)) (w.heap.size + 1) p (.slice A2 p.mem.length c2) := ⟨al_2_1 _ _ _, h8⟩
 have hs1 := str_of A1 p.mem c1 _ (h1.non hg0)
 have hs2 := str_of A2 p.mem c2 _ (h2.non hg0)
 obtain ⟨C1, hC1⟩ : ∃ C, partC p (.slice A1 p.mem.length c1) = C := ⟨_, rfl⟩
 obtain ⟨C2, hC2⟩ : ∃ C, partC p (.slice A2 p.mem.length c2) = C := ⟨_, rfl⟩
 have z1 : C1.size = 14 := by rw [← hC1]; exact partC_size h8 _
 have z2 : C2.size = 14 := by rw [← hC2]; exact partC_size h8 _
 rw [hC1, hC2] at hp1 hp2 hg0 hs1 hs2 ⊢
 clear hC1 hC2
 have HP1 := Lib.hid hp1
 have HP2 := Lib.hid hp2
 have HG0 := Lib.hid hg0
 have he8 := eq_rg p hb
 obtain ⟨a0, a1, a2, a3, a4, a5⟩ := hp1.cells
 obtain ⟨d0, d1, d2, d3, d4, d5⟩ := hp2.cells
 clear hp1 hp2 hg0 h1 h2
 go_enter Tryz.func50, Tryz.ntmps50
 go_wp2_with (first
   | (refine sel (some 26) (.load 102 (.tmp 25)) ?_; refine wpList_loadW (some 26) 102 (.tmp 25) w.heap.size 3 (rgC p) _ rfl rfl (by kernel_rfl) rfl HP1.out.rgs Tryz.underlying102 rfl info_rg ?_)
   | (refine sel (some 28) (.load 102 (.tmp 27)) ?_; refine wpList_loadW (some 28) 102 (.tmp 27) (w.heap.size + 1) 3 (rgC p) _ rfl rfl (by kernel_rfl) rfl HP2.out.rgs Tryz.underlying102 rfl info_rg ?_))
 go_ret
 exact ⟨by simp, HG0.out⟩
theorem neq_ch (p : Ch) (hp : p.Bd) (w : World) : (binOp .neq 107 (.agg p.C) (.agg p.C)).run Tryz.prog w = .ok (.bool false) w := by
 have := (eq_agg chLits_inj 3 (by omega) (by kernel_rfl) (ch_formed p) (ch_formed p) (keyLits_ch p hp) (keyLits_ch p hp) w).2
 simpa using this
set_option maxRecDepth 100000 in
theorem r10_eq (I1 I2 : Nat → Prop) (q : Qu) (m1 m2 : Value) (w : World) (hb : q.ch.Bd) (h1 : SlV (msgV I1) I1 1 w q.msgs m1) (h2 : SlV (msgV I2) I2 1 w q.msgs m2) (hl : q.msgs.length ≤ 140737488351232) :
  Calls Tryz.prog 51 #[.agg (q.L m1).toArray, .agg (q.L m2).toArray] w fun e w' => e = .returned (.bool true) ∧ Chg Non w w' := by
 obtain ⟨A1, c1, rfl, hc1, hm1, hr1⟩ := h1
 obtain ⟨A2, c2, rfl, hc2, hm2, hr2⟩ := h2
 have HR1 := Lib.hid (fun W (hg : Chg Non w W) => hr1.keep hg (fun _ _ e => e) (fun a vs _ h => msgV.keep h hg (fun _ _ e => e)))
 have HR2 := Lib.hid (fun W (hg : Chg Non w W) => hr2.keep hg (fun _ _ e => e) (fun a vs _ h => msgV.keep h hg (fun _ _ e => e)))
 have HE := Lib.hid (fun W => neq_ch q.ch hb W)
 obtain ⟨⟨x1, x2, x3, x4, x5⟩, ms⟩ := q
 simp only [Qu.L] at HR1 HR2 HE hc1 hc2 hl ⊢
 have hne : ∀ W, (binOp .neq 107 (.agg #[.int .i64 x1, .int .i64 x2, .int .i64 x3, .int .i64 x4, .int .i64 x5]) (.agg #[.int .i64 x1, .int .i64 x2, .int .i64 x3, .int .i64 x4, .int .i64 x5])).run Tryz.prog W = .ok (.bool false) W := fun W => HE.out W
 unfold maxLen at hm1 hm2
 clear hr1 hr2 hb HE
 go_enter Tryz.func51, Tryz.ntmps51
 go_wp2_with fail
 obtain ⟨W1, hW1⟩ : ∃ W1, (w.alloc (.cells #[.int .i64 x1, .int .i64 x2, .int .i64 x3, .int .i64 x4, .int .i64 x5, .slice A1 ms.length c1] 110)).alloc (.cells #[.int .i64 x1, .int .i64 x2, .int .i64 x3, .int .i64 x4, .int .i64 x5, .slice A2 ms.length c2] 110) = W1 := ⟨_, rfl⟩
 have HG1 : Hid (Chg Non w W1) := Lib.hid (by rw [← hW1]; exact ((Chg.refl Non w).alloc _).alloc _)
 have HB1 : Hid (W1.heap[w.heap.size]? = some (.cells #[.int .i64 x1, .int .i64 x2, .int .i64 x3, .int .i64 x4, .int .i64 x5, .slice A1 ms.length c1] 110 (0, 0))) := Lib.hid (by rw [← hW1]; exact al_2_0 _ _ _)
 have HB2 : Hid (W1.heap[w.heap.size + 1]? = some (.cells #[.int .i64 x1, .int .i64 x2, .int .i64 x3, .int .i64 x4, .int .i64 x5, .slice A2 ms.length c2] 110 (0, 0))) := Lib.hid (by rw [← hW1]; exact al_2_1 _ _ _)
 rw [hW1]
 clear hW1
 obtain ⟨b0, hb0⟩ : ∃ b, w.heap.size = b := ⟨_, rfl⟩
 rw [hb0] at HB1 HB2 ⊢
 clear hb0 hne
 go_loopw [5] (fun iv wr => ∃ k : Nat, k ≤ ms.length ∧ iv = .int .i64 k ∧ Hid (Chg Non W1 wr)) (fun iv _ => ms.length - (intOf iv).toNat)
 case atStart => exact ⟨0, Nat.zero_le _, rfl, Lib.hid (Chg.refl _ _)⟩
 case round =>
  obtain ⟨k, hk, rfl, HG⟩ := hrel
  have c5 := blk_cell (blk_keep HB1.out HG.out (fun e => e)) 5 (v := .slice A1 ms.length c1) rfl
  by_cases hlt : k < ms.length
  ·have hltd : decide ((k : Int) < (ms.length : Int)) = true := by simpa using hlt
   go_wp2_with fail
   obtain ⟨V, hV⟩ : ∃ V, V = wr.drew := ⟨_, rfl⟩
   have hgV : Chg Non W1 V := by rw [hV]; exact HG.out.drew
   have HGV := Lib.hid hgV
   obtain ⟨a, ha⟩ : ∃ a, ms[k]? = some a := ⟨_, List.getElem?_eq_getElem hlt⟩
   obtain ⟨b1, o1, vs1, rfl, _, hl1, hcell1, m1, rfl, ⟨Am, cm, rfl, hq1, hq2, hrd1, _⟩, hq3⟩ := HR1.out V (HG1.out.then_non hgV) k a ha
   obtain ⟨b2, o2, vs2, rfl, _, hl2, hcell2, m2, rfl, ⟨An, cn, rfl, hq4, hq5, hrd2, _⟩, hq6⟩ := HR2.out V (HG1.out.then_non hgV) k a ha
   have k1 := hcell1 0 _ rfl
   have k2 := hcell2 0 _ rfl
   rw [Nat.mul_one, Nat.add_zero] at k1 k2
   have K1 := Lib.hid k1
   have K2 := Lib.hid k2
   have D1 := Lib.hid (blk_cell (blk_keep HB1.out hgV (fun e => e)) 5 (v := .slice (some ⟨b1, o1, none⟩) ms.length c1) rfl)
   have D2 := Lib.hid (blk_cell (blk_keep HB2.out hgV (fun e => e)) 5 (v := .slice (some ⟨b2, o2, none⟩) ms.length c2) rfl)
   have HT1 := Lib.hid (fun W (hW : Chg Non V W) => str_of Am a cm W (hrd1.non hW))
   have HT2 := Lib.hid (fun W (hW : Chg Non V W) => str_of An a cn W (hrd2.non hW))
   clear hgV ha hl1 hcell1 hl2 hcell2 k1 k2 hrd1 hrd2 c5 hltd
   refine wp_region_held_drew (S := Chg Non V) (by kernel_rfl) (by rw [hV]; exact Chg.refl _ _) (fun hHeld => ?_)
   clear hHeld
   rw [← hV]
   clear hV
   have HS : Hid (Chg Non V V) := Lib.hid (Chg.refl _ _)
   refine hp 0 27 (.pointer (some ⟨b0, 5, none⟩)) rfl HS.out ?_
   refine hp 1 28 (.slice (some ⟨b1, o1, none⟩) ms.length c1) rfl HS.out ?_ (he := fun W hW => by have hc := hW.cell_some D1.out (fun e => e); go_simp)
   refine hp 2 29 (.int .i64 (k : Int)) rfl HS.out ?_
   refine hp 3 30 (.pointer (some ⟨b1, o1 + k, none⟩)) rfl HS.out ?_
   refine hp 4 31 (.slice Am a.length cm) rfl HS.out ?_ (he := fun W hW => by have hc := hW.cell_some K1.out (fun e => e); go_simp)
   refine hp 5 32 (.string ⟨a.toArray⟩) rfl HS.out ?_ (he := fun W hW => by have hc := HT1.out W hW; go_simp)
   refine hp 6 33 (.pointer (some ⟨b0 + 1, 5, none⟩)) rfl HS.out ?_
   refine hp 7 34 (.slice (some ⟨b2, o2, none⟩) ms.length c2) rfl HS.out ?_ (he := fun W hW => by have hc := hW.cell_some D2.out (fun e => e); go_simp)
   refine hp 8 35 (.int .i64 (k : Int)) rfl HS.out ?_
   refine hp 9 36 (.pointer (some ⟨b2, o2 + k, none⟩)) rfl HS.out ?_
   refine hp 10 37 (.slice An a.length cn) rfl HS.out ?_ (he := fun W hW => by have hc := hW.cell_some K2.out (fun e => e); go_simp)
   refine hp 11 38 (.string ⟨a.toArray⟩) rfl HS.out ?_ (he := fun W hW => by have hc := HT2.out W hW; go_simp)
   refine hp 12 39 (.bool false) rfl HS.out ?_
   refine wpAnyH_done (by kernel_rfl) ?_ _
   go_wp2_with fail
   exact ⟨⟨k + 1, by omega, by simp, HGV⟩, by simp [intOf]; omega⟩
  ·obtain rfl : k = ms.length := by omega
   have hltd : decide ((ms.length : Int) < (ms.length : Int)) = false := by simp
   go_wp2_with fail
   go_ret
   exact ⟨rfl, HG1.out.then_non HG.out⟩
end
section
open Go.RowKit
theorem info_partS : (Tryz.prog.info? 104).map (·.size) = some 14 := by kernel_rfl
set_option maxRecDepth 100000 in
theorem r21_eq (I1 I2 : Nat → Prop) (s : Sta) (vb1 vd1 vb2 vd2 : Value) (w : World) (h1 : StaV I1 w s vb1 vd1) (h2 : StaV I2 w s vb2 vd2) :
  Calls Tryz.prog 16 #[.agg #[.int .i64 s.frames, vb1, vd1], .agg #[.int .i64 s.frames, vb2, vd2]] w fun e w' => e = .returned (.bool true) ∧ Chg Non w w' := by
 obtain ⟨⟨A1p, c1p, rfl, hc1, hm1, hr1⟩, ⟨A1q, c1q, rfl, hc3, hm3, hr3⟩⟩ := h1
 obtain ⟨⟨A2p, c2p, rfl, hc2, hm2, hr2⟩, ⟨A2q, c2q, rfl, hc4, hm4, hr4⟩⟩ := h2
 have HR1p := Lib.hid (fun W (hg : Chg Non w W) => hr1.keep hg (fun _ _ e => e) (fun a vs _ h => ptV.keep h hg (fun _ _ e => e)))
 have HR2p := Lib.hid (fun W (hg : Chg Non w W) => hr2.keep hg (fun _ _ e => e) (fun a vs _ h => ptV.keep h hg (fun _ _ e => e)))
 have HR1q := Lib.hid (fun W (hg : Chg Non w W) => hr3.keep hg (fun _ _ e => e) (fun a vs _ h => quV.keep h hg (fun _ _ e => e)))
 have HR2q := Lib.hid (fun W (hg : Chg Non w W) => hr4.keep hg (fun _ _ e => e) (fun a vs _ h => quV.keep h hg (fun _ _ e => e)))
 unfold maxLen at hm1 hm2 hm3 hm4
 clear hr1 hr2 hr3 hr4
 go_enter Tryz.func16, Tryz.ntmps16
 go_wp2_with fail
 obtain ⟨W1, hW1⟩ : ∃ W1, (w.alloc (.cells #[.int .i64 s.frames, .slice A1p s.parts.length c1p, .slice A1q s.queues.length c1q] 25)).alloc (.cells #[.int .i64 s.frames, .slice A2p s.parts.length c2p, .slice A2q s.queues.length c2q] 25) = W1 := ⟨_, rfl⟩
 have HG1 : Hid (Chg Non w W1) := Lib.hid (by rw [← hW1]; exact ((Chg.refl Non w).alloc _).alloc _)
 have HB1 : Hid (W1.heap[w.heap.size]? = some (.cells #[.int .i64 s.frames, .slice A1p s.parts.length c1p, .slice A1q s.queues.length c1q] 25 (0, 0))) := Lib.hid (by rw [← hW1]; exact al_2_0 _ _ _)
 have HB2 : Hid (W1.heap[w.heap.size + 1]? = some (.cells #[.int .i64 s.frames, .slice A2p s.parts.length c2p, .slice A2q s.queues.length c2q] 25 (0, 0))) := Lib.hid (by rw [← hW1]; exact al_2_1 _ _ _)
 rw [hW1]
 clear hW1
 obtain ⟨b0, hb0⟩ : ∃ b, w.heap.size = b := ⟨_, rfl⟩
 rw [hb0] at HB1 HB2 ⊢
 clear hb0
 go_loopw [5] (fun iv wr => ∃ k : Nat, k ≤ s.parts.length ∧ iv = .int .i64 k ∧ Hid (Chg Non W1 wr)) (fun iv _ => s.parts.length - (intOf iv).toNat)
 case atStart => exact ⟨0, Nat.zero_le _, rfl, Lib.hid (Chg.refl _ _)⟩
 case round =>
  obtain ⟨k, hk, rfl, HG⟩ := hrel
  have c5 := blk_cell (blk_keep HB1.out HG.out (fun e => e)) 1 (v := .slice A1p s.parts.length c1p) rfl
  by_cases hlt : k < s.parts.length
  ·have hltd : decide ((k : Int) < (s.parts.length : Int)) = true := by simpa using hlt
   go_wp2_with fail
   obtain ⟨V, hV⟩ : ∃ V, V = wr.drew := ⟨_, rfl⟩
   have hgV : Chg Non W1 V := by rw [hV]; exact HG.out.drew
   have HGV := Lib.hid hgV
   obtain ⟨a, ha⟩ : ∃ a, s.parts[k]? = some a := ⟨_, List.getElem?_eq_getElem hlt⟩
   obtain ⟨e1, o1, vs1, rfl, _, hl1, hcell1, m1, rfl, hx1⟩ := HR1p.out V (HG1.out.then_non hgV) k a ha
   have K1 := Lib.hid hcell1
   have D1 := Lib.hid (blk_cell (blk_keep HB1.out hgV (fun e => e)) 1 (v := .slice (some ⟨e1, o1, none⟩) s.parts.length c1p) rfl)
   have X1 := Lib.hid hx1
   obtain ⟨e2, o2, vs2, rfl, _, hl2, hcell2, m2, rfl, hx2⟩ := HR2p.out V (HG1.out.then_non hgV) k a ha
   have K2 := Lib.hid hcell2
   have D2 := Lib.hid (blk_cell (blk_keep HB2.out hgV (fun e => e)) 1 (v := .slice (some ⟨e2, o2, none⟩) s.parts.length c2p) rfl)
   have X2 := Lib.hid hx2
   clear hgV ha hl1 hcell1 hl2 hcell2 hx1 hx2 c5 hltd
   refine wp_region_held_drew (S := Chg Non V) (by kernel_rfl) (by rw [hV]; exact Chg.refl _ _) (fun hHeld => ?_)
   clear hHeld
   rw [← hV]
   clear hV
   have HS : Hid (Chg Non V V) := Lib.hid (Chg.refl _ _)
   refine hp 0 37 (.pointer (some ⟨b0, 1, none⟩)) rfl HS.out ?_
   refine hp 1 38 (.slice (some ⟨e1, o1, none⟩) s.parts.length c1p) rfl HS.out ?_ (he := fun W hW => by have hc := hW.cell_some D1.out (fun e => e); go_simp)
   refine hp 2 39 (.int .i64 (k : Int)) rfl HS.out ?_
   refine hp 3 40 (.pointer (some ⟨e1, o1 + k * 14, none⟩)) rfl HS.out ?_
   refine h_load 4 (some 41) 104 (.tmp 40) e1 (o1 + k * 14) (partL a m1).toArray _ rfl (by kernel_rfl) (by kernel_rfl) (by kernel_rfl) (by kernel_rfl) (by kernel_rfl) (fun _ _ _ h => h) (by kernel_rfl) (by kernel_rfl) (fun W hW => range_keepS K1.out hW (fun e => e)) Tryz.underlying104 rfl (by rw [show (partL a _).toArray.size = 14 from partC_size (X1.out.2.1).r8 _]; exact info_partS) HS.out ?_
   try simp only [Act.put, sA, sB, sC]
   refine hp 5 42 (.pointer (some ⟨b0 + 1, 1, none⟩)) rfl HS.out ?_
   refine hp 6 43 (.slice (some ⟨e2, o2, none⟩) s.parts.length c2p) rfl HS.out ?_ (he := fun W hW => by have hc := hW.cell_some D2.out (fun e => e); go_simp)
   refine hp 7 44 (.int .i64 (k : Int)) rfl HS.out ?_
   refine hp 8 45 (.pointer (some ⟨e2, o2 + k * 14, none⟩)) rfl HS.out ?_
   refine h_load 9 (some 46) 104 (.tmp 45) e2 (o2 + k * 14) (partL a m2).toArray _ rfl (by kernel_rfl) (by kernel_rfl) (by kernel_rfl) (by kernel_rfl) (by kernel_rfl) (fun _ _ _ h => h) (by kernel_rfl) (by kernel_rfl) (fun W hW => range_keepS K2.out hW (fun e => e)) Tryz.underlying104 rfl (by rw [show (partL a _).toArray.size = 14 from partC_size (X1.out.2.1).r8 _]; exact info_partS) HS.out ?_
   try simp only [Act.put, sA, sB, sC]
   refine h_one 10 (by kernel_rfl) rfl (by kernel_rfl) ?_
   intro K hK
   go_simp
   obtain ⟨⟨Am, cm, rfl, _, _, hr1, _⟩, hbd, _⟩ := X1.out
   obtain ⟨⟨An, cn, rfl, _, _, hr2, _⟩, _, _⟩ := X2.out
   refine (r20_eq a Am An cm cn V hbd hr1 hr2).mono ?_
   rintro e u ⟨rfl, hgu⟩
   have HS2 := Lib.hid hgu
   refine hK.out _ _ HS2.out (fun _ => ?_)
   clear hK K hgu
   try simp only [Act.put, sA, sB, sC]
   refine hp 11 48 (.bool false) rfl HS2.out ?_
   refine wpAnyH_done (by kernel_rfl) ?_ _
   go_wp2_with fail
   exact ⟨⟨k + 1, by omega, by simp, Lib.hid (HGV.out.then_non HS2.out)⟩, by simp [intOf]; omega⟩
  ·obtain rfl : k = s.parts.length := by omega
   have hltd : decide ((s.parts.length : Int) < (s.parts.length : Int)) = false := by simp
   go_wp2_with fail
   have HGx := HG
   go_loopw [6] (fun iv wr => ∃ k : Nat, k ≤ s.queues.length ∧ iv = .int .i64 k ∧ Hid (Chg Non W1 wr)) (fun iv _ => s.queues.length - (intOf iv).toNat)
   case atStart => exact ⟨0, Nat.zero_le _, rfl, HG⟩
   case round =>
    obtain ⟨k, hk, rfl, HG⟩ := hrel
    have c5 := blk_cell (blk_keep HB1.out HG.out (fun e => e)) 2 (v := .slice A1q s.queues.length c1q) rfl
    by_cases hlt : k < s.queues.length
    ·have hltd : decide ((k : Int) < (s.queues.length : Int)) = true := by simpa using hlt
     go_wp2_with fail
     obtain ⟨V, hV⟩ : ∃ V, V = wr.drew := ⟨_, rfl⟩
     have hgV : Chg Non W1 V := by rw [hV]; exact HG.out.drew
     have HGV := Lib.hid hgV
     obtain ⟨a, ha⟩ : ∃ a, s.queues[k]? = some a := ⟨_, List.getElem?_eq_getElem hlt⟩
     obtain ⟨e1, o1, vs1, rfl, _, hl1, hcell1, m1, rfl, hx1⟩ := HR1q.out V (HG1.out.then_non hgV) k a ha
     have K1 := Lib.hid hcell1
     have D1 := Lib.hid (blk_cell (blk_keep HB1.out hgV (fun e => e)) 2 (v := .slice (some ⟨e1, o1, none⟩) s.queues.length c1q) rfl)
     have X1 := Lib.hid hx1
     obtain ⟨e2, o2, vs2, rfl, _, hl2, hcell2, m2, rfl, hx2⟩ := HR2q.out V (HG1.out.then_non hgV) k a ha
     have K2 := Lib.hid hcell2
     have D2 := Lib.hid (blk_cell (blk_keep HB2.out hgV (fun e => e)) 2 (v := .slice (some ⟨e2, o2, none⟩) s.queues.length c2q) rfl)
     have X2 := Lib.hid hx2
     clear hgV ha hl1 hcell1 hl2 hcell2 hx1 hx2 c5 hltd
     refine wp_region_held_drew (S := Chg Non V) (by kernel_rfl) (by rw [hV]; exact Chg.refl _ _) (fun hHeld => ?_)
     clear hHeld
     rw [← hV]
     clear hV
     have HS : Hid (Chg Non V V) := Lib.hid (Chg.refl _ _)
     refine hp 0 56 (.pointer (some ⟨b0, 2, none⟩)) rfl HS.out ?_
     refine hp 1 57 (.slice (some ⟨e1, o1, none⟩) s.queues.length c1q) rfl HS.out ?_ (he := fun W hW => by have hc := hW.cell_some D1.out (fun e => e); go_simp)
     refine hp 2 58 (.int .i64 (k : Int)) rfl HS.out ?_
     refine hp 3 59 (.pointer (some ⟨e1, o1 + k * 6, none⟩)) rfl HS.out ?_
     refine h_load 4 (some 60) 110 (.tmp 59) e1 (o1 + k * 6) (Qu.L a m1).toArray _ rfl (by kernel_rfl) (by kernel_rfl) (by kernel_rfl) (by kernel_rfl) (by kernel_rfl) (fun _ _ _ h => h) (by kernel_rfl) (by kernel_rfl) (fun W hW => range_keepS K1.out hW (fun e => e)) Tryz.underlying110 rfl (by kernel_rfl) HS.out ?_
     try simp only [Act.put, sA, sB, sC]
     refine hp 5 61 (.pointer (some ⟨b0 + 1, 2, none⟩)) rfl HS.out ?_
     refine hp 6 62 (.slice (some ⟨e2, o2, none⟩) s.queues.length c2q) rfl HS.out ?_ (he := fun W hW => by have hc := hW.cell_some D2.out (fun e => e); go_simp)
     refine hp 7 63 (.int .i64 (k : Int)) rfl HS.out ?_
     refine hp 8 64 (.pointer (some ⟨e2, o2 + k * 6, none⟩)) rfl HS.out ?_
     refine h_load 9 (some 65) 110 (.tmp 64) e2 (o2 + k * 6) (Qu.L a m2).toArray _ rfl (by kernel_rfl) (by kernel_rfl) (by kernel_rfl) (by kernel_rfl) (by kernel_rfl) (fun _ _ _ h => h) (by kernel_rfl) (by kernel_rfl) (fun W hW => range_keepS K2.out hW (fun e => e)) Tryz.underlying110 rfl (by kernel_rfl) HS.out ?_
     try simp only [Act.put, sA, sB, sC]
     refine h_one 10 (by kernel_rfl) rfl (by kernel_rfl) ?_
     intro K hK
     go_simp
     refine (r10_eq I1 I2 a m1 m2 V X1.out.2.1 X1.out.1 X2.out.1 X1.out.2.2).mono ?_
     rintro e u ⟨rfl, hgu⟩
     have HS2 := Lib.hid hgu
     refine hK.out _ _ HS2.out (fun _ => ?_)
     clear hK K hgu
     try simp only [Act.put, sA, sB, sC]
     refine hp 11 67 (.bool false) rfl HS2.out ?_
     refine wpAnyH_done (by kernel_rfl) ?_ _
     go_wp2_with fail
     exact ⟨⟨k + 1, by omega, by simp, Lib.hid (HGV.out.then_non HS2.out)⟩, by simp [intOf]; omega⟩
    ·obtain rfl : k = s.queues.length := by omega
     have hltd : decide ((s.queues.length : Int) < (s.queues.length : Int)) = false := by simp
     go_wp2_with fail
     go_ret
     exact ⟨rfl, HG1.out.then_non HG.out⟩
end
section
open Go.RowKit
set_option maxRecDepth 100000 in
theorem weight_any (I : Nat → Prop) (s : Sta) (vb vd : Value) (w : World) (h : StaV I w s vb vd) :
  Calls Tryz.prog 22 #[.agg #[.int .i64 s.frames, vb, vd]] w fun e w' => ∃ x : Int, e = .returned (.int .i64 x) ∧ Chg Non w w' := by
 obtain ⟨⟨A, c, rfl, hc, hcm, hrp⟩, ⟨A2, c2, rfl, hc2, hcm2, hrq⟩⟩ := h
 unfold maxLen at hcm hcm2
 have HP := Lib.hid hrp
 have HQ := Lib.hid hrq
 clear hrp hrq
 go_enter Tryz.func22, Tryz.ntmps22
 go_wp2_with fail
 obtain ⟨W1, hW1⟩ : ∃ W1, w.alloc (.cells #[.int .i64 s.frames, .slice A s.parts.length c, .slice A2 s.queues.length c2] 25) = W1 := ⟨_, rfl⟩
 have HG1 : Hid (Chg Non w W1) := Lib.hid (by rw [← hW1]; exact (Chg.refl Non w).alloc _)
 have hlt0 : w.heap.size < W1.heap.size := by rw [← hW1]; simp
 have HB : Hid (W1.heap[w.heap.size]? = some (.cells #[.int .i64 s.frames, .slice A s.parts.length c, .slice A2 s.queues.length c2] 25 (0, 0))) := Lib.hid (by rw [← hW1]; exact blk_new _ _)
 rw [hW1]
 clear hW1
 go_loopw [4, 3] (fun iv sv wr => ∃ (k : Nat) (x : Int), k ≤ s.parts.length ∧ iv = .int .i64 k ∧ sv = .int .i64 x ∧ Hid (Chg Non W1 wr)) (fun iv _ _ => s.parts.length - (intOf iv).toNat)
 case atStart => exact ⟨0, 500, Nat.zero_le _, rfl, rfl, Lib.hid (Chg.refl _ _)⟩
 case round =>
  obtain ⟨k, x, hk, rfl, rfl, HG⟩ := hrel
  have c1r := blk_cell (blk_keep HB.out HG.out (fun e => e)) 1 (v := .slice A s.parts.length c) rfl
  have c2r := blk_cell (blk_keep HB.out HG.out (fun e => e)) 2 (v := .slice A2 s.queues.length c2) rfl
  have hltr : w.heap.size < wr.heap.size := Nat.lt_of_lt_of_le hlt0 HG.out.size
  by_cases hlt : k < s.parts.length
  ·have hltd : decide ((k : Int) < (s.parts.length : Int)) = true := by simpa using hlt
   obtain ⟨a, ha⟩ : ∃ a, s.parts[k]? = some a := ⟨_, List.getElem?_eq_getElem hlt⟩
   obtain ⟨b, o, vs, rfl, _, hl, hcell, m, rfl, ⟨Am, cm, rfl, _⟩, hbd, hml⟩ := HP.out k a ha
   have k13 := (HG1.out.then_non HG.out).cell_some (hcell 13 (.slice Am a.mem.length cm) (by
     have h := partC_end hbd.r8 (.slice Am a.mem.length cm) 2 (by omega)
     simpa [partC] using h)) (fun e => e)
   have hbl := lt_of_cell k13
   clear ha hcell hl hbd
   go_wp2_with fail
   all_goals exact ⟨⟨k + 1, _, by omega, by simp, rfl, HG⟩, by simp [intOf]; omega⟩
  ·obtain rfl : k = s.parts.length := by omega
   have hltd : decide ((s.parts.length : Int) < (s.parts.length : Int)) = false := by simp
   have HG2 := Lib.hid (HG1.out.then_non HG.out)
   have HB2 := Lib.hid (blk_keep HB.out HG.out (fun e => e))
   clear HG
   obtain ⟨W2, hW2⟩ : ∃ W2, W2 = wr := ⟨_, rfl⟩
   subst hW2
   go_wp2_with fail
   clear c1r c2r hk hlt hltd
   go_loopw [5, 3] (fun jv sv wr => ∃ (q : Nat) (x : Int), q ≤ s.queues.length ∧ jv = .int .i64 q ∧ sv = .int .i64 x ∧ Hid (Chg Non W2 wr)) (fun jv _ _ => s.queues.length - (intOf jv).toNat)
   case atStart => exact ⟨0, x, Nat.zero_le _, rfl, rfl, Lib.hid (Chg.refl _ _)⟩
   case round =>
    obtain ⟨q, y, hq, rfl, rfl, HGq⟩ := hrel
    have c2r := blk_cell (blk_keep HB2.out HGq.out (fun e => e)) 2 (v := .slice A2 s.queues.length c2) rfl
    have hltq : w.heap.size < wr.heap.size := Nat.lt_of_lt_of_le hltr HGq.out.size
    by_cases hlt : q < s.queues.length
    ·have hltd : decide ((q : Int) < (s.queues.length : Int)) = true := by simpa using hlt
     obtain ⟨a, ha⟩ : ∃ a, s.queues[q]? = some a := ⟨_, List.getElem?_eq_getElem hlt⟩
     obtain ⟨b, o, vs, rfl, _, hl, hcell, m, rfl, ⟨Am, cm, rfl, hcm1, hcm3, hrm⟩, hbd, hml⟩ := HQ.out q a ha
     have k5 := hcell 5 (.slice Am a.msgs.length cm) rfl
     have HK5 := Lib.hid (HG2.out.cell_some k5 (fun e => e))
     have HRM := Lib.hid (hrm.keep HG2.out (fun _ _ e => e) (fun a vs _ h => msgV.keep h HG2.out (fun _ _ e => e)))
     clear ha hcell hl hbd k5 hrm
     obtain ⟨W3, hW3⟩ : ∃ W3, W3 = wr := ⟨_, rfl⟩
     subst hW3
     unfold maxLen at hcm3
     go_wp2_with fail
     go_loopw [6, 3] (fun jv sv wr => ∃ (r : Nat) (x : Int), r ≤ a.msgs.length ∧ jv = .int .i64 r ∧ sv = .int .i64 x ∧ Hid (Chg Non W2 wr)) (fun jv _ _ => a.msgs.length - (intOf jv).toNat)
     case atStart => exact ⟨0, y, Nat.zero_le _, rfl, rfl, HGq⟩
     case round =>
      obtain ⟨r, z, hr, rfl, rfl, HGr⟩ := hrel
      have c2s := blk_cell (blk_keep HB2.out HGr.out (fun e => e)) 2 (v := .slice (some ⟨b, o, none⟩) s.queues.length c2) rfl
      have hlts : w.heap.size < wr.heap.size := Nat.lt_of_lt_of_le hltr HGr.out.size
      have k5r := HGr.out.cell_some HK5.out (fun e => e)
      have hbl := lt_of_cell k5r
      by_cases hlt : r < a.msgs.length
      ·have hltd2 : decide ((r : Int) < (a.msgs.length : Int)) = true := by simpa using hlt
       obtain ⟨ms, hms⟩ : ∃ x, a.msgs[r]? = some x := ⟨_, List.getElem?_eq_getElem hlt⟩
       obtain ⟨b5, o5, vs5, rfl, _, hl5, hcell5, m5, rfl, ⟨Ax, cx, rfl, _⟩, _⟩ := HRM.out r ms hms
       have k6 := hcell5 0 _ rfl
       simp only [Nat.mul_one, Nat.add_zero] at k6
       have k6r := HGr.out.cell_some k6 (fun e => e)
       have hbl5 := lt_of_cell k6r
       clear hms hcell5 hl5 k6
       go_wp2_with fail
       all_goals first
        | exact ⟨⟨r + 1, _, by omega, by simp, rfl, HGr⟩, by simp [intOf]; omega⟩
        | (go_ret; exact ⟨⟨_, rfl⟩, HG2.out.then_non HGr.out⟩)
      ·obtain rfl : r = a.msgs.length := by omega
       have hltd2 : decide ((a.msgs.length : Int) < (a.msgs.length : Int)) = false := by simp
       go_wp2_with fail
       all_goals exact ⟨⟨q + 1, _, by omega, by simp, rfl, HGr⟩, by simp [intOf]; omega⟩
    ·obtain rfl : q = s.queues.length := by omega
     have hltd : decide ((s.queues.length : Int) < (s.queues.length : Int)) = false := by simp
     go_wp2_with fail
     go_ret
     exact ⟨_, rfl, HG2.out.then_non HGq.out⟩
end
section
open Go.ChangeShapes Go.WideShapes Go.ChangeAt Go.RowKit
theorem post_below {H : Type} {enc : TypeId × Value → H} {P : Program} {f : Func} {s : ChangeSpec} {apart fresh handsOn again : Bool} {W W' : World} {args : Array Value} {v : Value} {ds gs : List (DataW H)} {before pa pv : List MemPlace}
  (hW : DataW.Whole enc P f.params.toList s.vars apart W args.toList ds gs before)
  (hres : ∀ (b : Nat) (sp : Nat → Bool) (hd : Bool), DataW.TrodAll enc P W' b sp hd f.resultTypes.toList (v.resultList f.resultTypes.size) (s.fn H (ds ++ gs)).results [])
  (hargs : ∀ sp : Nat → Bool, (∀ p ∈ before, sp p.block = true) → DataW.TrodAll enc P W' 0 sp true f.params.toList args.toList (s.fn H (ds ++ gs)).args pa)
  (hvars : ∀ sp : Nat → Bool, (∀ p ∈ before, sp p.block = true) → DataW.TrodVars enc P W' sp s.vars (s.fn H (ds ++ gs)).vars pv)
  (hps : before = pa ++ pv) (hb : Below W.heap.size W W')
  (hok : ∀ (j : Nat) (t : TypeId) (r : Value), f.resultTypes[j]? = some t → (v.resultList f.resultTypes.size)[j]? = some r → Value.okWide P W' .any 0 t r) :
  s.post enc P f apart fresh handsOn again W args v W' := by
 have hlt := hW.lt
 have hold : ∀ p ∈ before, (fun b => decide (b < W.heap.size)) p.block = true := fun p hp => by simpa using hlt p hp
 refine ⟨ds, gs, before, [], pa, pv, hW, hres _ _ _, hargs _ hold, hvars _ hold, World.keptBut_mono (fun p hp => ⟨hp, ?_⟩) (hb.frame (· ∈ before)), fun _ => ?_⟩
 ·rw [hps, List.mem_append] at hp
  exact Or.inr hp
 ·obtain ⟨_, _, _, _, _, hz, hn⟩ := hW
  refine ⟨hok, _, _, ([] ++ pa) ++ pv, ⟨[] ++ pa, pv, trodAll_append (hargs _ (fun _ _ => rfl)) (hres _ _ _), hvars _ (fun _ _ => rfl), rfl, ?_, ?_⟩, ?_⟩
  ·intro b off hp
   have hp' : MemPlace.cell b off ∈ before := by rw [hps]; simpa using hp
   rw [hb.frozen (show b < W.heap.size from hlt _ hp')]
   exact hz b off hp'
  ·intro ha
   have := hn ha
   rw [hps] at this
   simpa using this
  ·intro p hp _
   rw [hps]
   simpa using hp
end
section
open Go.ChangeShapes Go.WideShapes Go.ChangeAt Go.RowKit
section
variable {H : Type} {enc : TypeId × Value → H} {P : Program}
theorem sameAt_below {W W' : World} (hb : Below W.heap.size W W') {p : MemPlace} (hp : p.block < W.heap.size) : W.sameAt W' p := by
 cases p with
 | cell b off => exact hb.cell (p := ⟨b, off, none⟩) hp
 | map b => exact hb.block b hp
theorem trodAll_carry {W W' : World} {base : Nat} {sp : Nat → Bool} {hd : Bool} : ∀ {ts : List TypeId} {vs : List Value} {ds : List (DataW H)} {ps : List MemPlace},
  DataW.TrodAll enc P W base sp hd ts vs ds ps → (∀ p ∈ ps, W.sameAt W' p) → DataW.TrodAll enc P W' base sp hd ts vs ds ps
 | [], [], [], _, h, _ => h
 | _ :: _, _ :: _, _ :: _, _, ⟨p, q, ⟨n, h1⟩, h2, e⟩, hs =>
  ⟨p, q, ⟨n, DataW.trod_carry n _ _ _ h1 (fun x hx => hs x (by rw [e]; exact List.mem_append_left _ hx))⟩,
    trodAll_carry h2 (fun x hx => hs x (by rw [e]; exact List.mem_append_right _ hx)), e⟩
theorem post_law {f : Func} {s : ChangeSpec} {apart fresh handsOn again : Bool} {W W' : World} {args : Array Value} {tb : TypeId} {ds gs : List (DataW H)} {before : List MemPlace}
  (K : Kids P (· < P.types.size)) (hz : ∀ t e, t < P.types.size → P.underlying t = some (.slice e) → 0 < P.cellsOf e)
  (hT : ∀ t ∈ f.params.toList, t < P.types.size) (hr : f.resultTypes = #[tb]) (hub : P.underlying tb = some .bool)
  (hW : DataW.Whole enc P f.params.toList s.vars apart W args.toList ds gs before) (hv : s.vars = [])
  (hs : (s.fn H (ds ++ gs)).results = [.lit (.bool true)]) (ha : (s.fn H (ds ++ gs)).args = ds) (hv2 : (s.fn H (ds ++ gs)).vars = []) (hb : Below W.heap.size W W') :
  s.post enc P f apart fresh handsOn again W args (.bool true) W' := by
 have hW' := hW
 have hlt := hW.lt
 obtain ⟨p, q, hA, hV, rfl, hfz, hnd⟩ := hW
 rw [hv] at hV
 obtain ⟨rfl, rfl⟩ := trodVars_none hV
 rw [List.append_nil] at hlt
 refine post_below (pa := p) (pv := []) hW' ?_ ?_ ?_ rfl hb ?_
 ·intro b sp hd
  rw [hr, hs]
  exact trodAll_cons_mk (shut_bool hub _) trodAll_mk0
 ·intro sp hsp
  rw [ha]
  exact DataW.TrodAll.respare K hz hT (trodAll_carry hA (fun x hx => sameAt_below hb (hlt x hx))) (fun x hx => hsp x (by simpa using hx))
 ·intro sp _
  rw [hv, hv2]
  rfl
 ·exact ok_one hr rfl (okWide_bool_mk hub _)
end
end
section
open Go.ChangeShapes Go.WideShapes Go.ChangeAt Go.RowKit
section
variable {H : Type} {P : Program}
theorem wt_all {e : TypeId} {d : DataW H} {n : Nat} : ∀ {l : List (DataW H)}, d ∈ l → n ∈ d.weights P e → n ∈ DataW.weightsAll P e l
 | x :: r, h, hn => by
  simp only [DataW.weightsAll, List.mem_append]
  rcases List.mem_cons.1 h with rfl | h
  ·exact .inl hn
  ·exact .inr (wt_all h hn)
def SizedD (P : Program) (t : TypeId) (d : DataW H) : Prop := ∀ n ∈ d.weights P t, n ≤ reachBytes
theorem SizedD.elem {t e : TypeId} {a b : List (DataW H)} (h : SizedD P t (.slice a b)) (hu : P.underlying t = some (.slice e)) {d : DataW H} (hd : d ∈ a) : SizedD P e d := fun n hn => by
 refine h n ?_
 simp only [DataW.weights, hu, List.mem_cons, List.mem_append]
 exact .inr (.inl (wt_all hd hn))
theorem SizedD.len {t e : TypeId} {a b : List (DataW H)} (h : SizedD P t (.slice a b)) (hu : P.underlying t = some (.slice e)) : (a.length + b.length) * P.bytesOf e ≤ reachBytes := by
 refine h _ ?_
 simp only [DataW.weights, hu, List.mem_cons, true_or]
theorem SizedD.field {t : TypeId} {fs : Array Field} {parts : List (DataW H)} (h : SizedD P t (.agg parts)) (hu : P.underlying t = some (.struct fs)) {i : Nat} {f : Field} {d : DataW H} (hi : fs[i]? = some f) (hd : parts[i]? = some d) : SizedD P f.type d := fun n hn => by
 refine h n ?_
 simp only [DataW.weights, hu]
 refine DataW.weights_mem_each (j := i) (t := f.type) ?_ hd n hn
 rw [List.getElem?_map, Array.getElem?_toList, hi]
 rfl
theorem SizedD.arg {ts : List TypeId} {ds : List (DataW H)} (h : (DataW.weightsEach P ts ds).all (· ≤ reachBytes) = true) {j : Nat} {t : TypeId} {d : DataW H} (ht : ts[j]? = some t) (hd : ds[j]? = some d) : SizedD P t d := fun n hn => by
 have := List.all_eq_true.1 h _ (DataW.weights_mem_each ht hd n hn)
 simpa using this
end
section
variable {H : Type} {enc : TypeId × Value → H} {W : World}
theorem bytes_is {P : Program} {t e : TypeId} {fuel : Nat} {cs : List Value} {x : DataW H × List MemPlace} (ht : P.underlying t = some (.slice e)) (he : P.underlying e = some (.int .u8)) (hc : P.cellsOf e = 1)
  (hf : DataW.trod enc P W 0 (fun _ => true) true fuel t cs = some x) : ∃ (B : Option Addr) (l : List UInt8) (c : Nat), cs = [.slice B l.length c] ∧ Rd W B l ∧ l.length ≤ c ∧ c ≤ maxLen ∧ (P.bytesOf e = 1 → SizedD P t x.1 → c ≤ 140737488351232) := by
 rcases open_ints ht he hc hf with ⟨h0, _⟩ | ⟨a', len', cap', zs, h0, _, hl, hm, hzl, hx, hcell, hwf⟩
 ·exact ⟨none, [], 0, h0, Rd.nil _ _, Nat.le_refl _, by simp, fun _ _ => by omega⟩
 ·simp only [if_true] at hzl
  have hnum : ∀ n ∈ zs, ((UInt8.ofNat n.toNat).toNat : Int) = n := by
   intro n hn
   obtain ⟨h1, h2⟩ := bounds_u8 (hwf n hn)
   simp only [UInt8.toNat_ofNat']
   omega
  refine ⟨some a', (zs.take len').map (fun n => UInt8.ofNat n.toNat), cap', by rw [h0]; simp [hzl, Nat.min_eq_left hl], ?_, by simp [hzl, hl, Nat.min_eq_left hl], hm, ?_⟩
  ·intro i x hx
   rw [List.getElem?_map] at hx
   obtain ⟨n, hn, rfl⟩ := Option.map_eq_some_iff.1 hx
   have hi : i < (zs.take len').length := (List.getElem?_eq_some_iff.1 hn).1
   rw [List.length_take] at hi
   have hn' : zs[i]? = some n := by rw [← hn, List.getElem?_take_of_lt (by omega)]
   obtain ⟨b, off, rfl, hc2⟩ := ints_at hcell (by omega)
   refine ⟨b, off, rfl, ?_⟩
   rw [hc2 i (by omega), List.getD, hn', Option.getD_some, hnum n (List.mem_of_getElem? hn')]
  ·intro hb hs
   rw [hx] at hs
   have := hs.len ht
   rw [hb] at this
   simp only [lits, List.length_map, List.length_take, List.length_drop, Nat.mul_one, reachBytes] at this
   omega
end
end
end Go.Proofs.YtkgnlobabknkcaaGreat
