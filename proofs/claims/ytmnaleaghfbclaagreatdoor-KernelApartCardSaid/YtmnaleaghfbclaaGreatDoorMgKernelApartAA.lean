/- KernelApart, part 27 of 27: contracts of the functions that it reaches, and the laws that they need, merged and shortened (from my texts XApW, XPost, XOpen, XSized, XCard, XIsaOpen, XKOpen, XCardS). -/
import Derived.Test.YtmnaleaghfbclaaGreatDoorMgKernelApartA
import Derived.Test.YtmnaleaghfbclaaGreatDoorMgKernelApartB
import Derived.Test.YtmnaleaghfbclaaGreatDoorMgKernelApartH
import Derived.Test.YtmnaleaghfbclaaGreatDoorMgKernelApartZ
import Derived.ProofKit
import Derived.WalkKit
import Derived.OpenShut
import Derived.ReadAgain
import Derived.SizedLaws
import Derived.HandedShaped
import Derived.Shelf.Vars
import Derived.Lib.LaidTab
import Derived.LaidMore
import Derived.Lay
import Derived.Stop.LaidErr
import Derived.Deep.Slices
namespace Go.Proofs.YtmnaleaghfbclaaGreatDoor
set_option linter.unusedVariables false
set_option linter.unusedSimpArgs false
set_option maxHeartbeats 8000000
section
open Go.RowKit
set_option maxRecDepth 100000 in
theorem KernelApart_ok (I : Nat → Prop) (w : World) (hE : Env w) (c : Cfg) (A1 A2 A3 : Option Addr) (c1 c2 c3 : Nat) (hc : CfgR I w c A1 A2 A3 c1 c2 c3) (l : List Ak) (B : Option Addr) (cl : Nat) (hl : RdL (actV I) I 4 w B l) (hlc : l.length ≤ cl) (hlm : cl ≤ maxLen)
  (o : List (List UInt8)) (Bo : Option Addr) (co : Nat) (ho : RdL (msgV I) I 1 w Bo o) (hoc : o.length ≤ co) (hom : co ≤ maxLen) (who ver : Int) (hw : I64 who) (hv : I64 ver) :
  Calls Tryz.prog 5 #[.agg #[.slice A1 c.ws.length c1, .slice A2 c.ps.length c2, .slice A3 c.cs.length c3], .slice B l.length cl, .slice Bo o.length co, .int .i64 who, .int .i64 ver] w fun e w' => e = .returned (.bool true) ∧ Chg Non w w' := by
 have hg0 : Chg Non w (w.alloc (.cells #[.slice A1 c.ws.length c1, .slice A2 c.ps.length c2, .slice A3 c.cs.length c3] 26)) := (Chg.refl Non w).alloc _
 have HE := Lib.hid (hE.non hg0)
 have HC := Lib.hid (hc.non hg0)
 have HL := Lib.hid (hl.non hg0 (fun a vs h => actV_non _ _ _ _ hg0 h))
 have HO := Lib.hid (ho.non hg0 (fun a vs h => msgV.keep h hg0 (fun _ _ e => e)))
 have hB1 := blk_new w (.cells #[.slice A1 c.ws.length c1, .slice A2 c.ps.length c2, .slice A3 c.cs.length c3] 26)
 have HG0 := Lib.hid hg0
 have hlt1 : w.heap.size < (w.alloc (.cells #[.slice A1 c.ws.length c1, .slice A2 c.ps.length c2, .slice A3 c.cs.length c3] 26)).heap.size := by simp
 clear hE hc hl ho hg0
 go_enter Tryz.func5, Tryz.ntmps5
 go_wp2_with fail
 obtain ⟨W1, hW1⟩ : ∃ W1, w.alloc (.cells #[.slice A1 c.ws.length c1, .slice A2 c.ps.length c2, .slice A3 c.cs.length c3] 26) = W1 := ⟨_, rfl⟩
 rw [hW1] at HE HC HL HO HG0 hB1 hlt1 ⊢
 clear hW1
 have HB1 := Lib.hid hB1
 clear hB1
 refine (great11_ok I W1 c A1 A2 A3 c1 c2 c3 HC.out).mono ?_
 rintro e u1 ⟨r1, rfl, hr1, hg1⟩
 have HG1 := Lib.hid hg1
 clear hg1
 cases r1 with
 | true =>
  go_wp2_with fail
  refine (awake_ok _ (HE.out.non HG1.out)).mono ?_
  rintro e v ⟨rfl, hg⟩
  go_wp2_with fail
  go_ret
  exact ⟨rfl, (HG0.out.then_non HG1.out).then_non hg⟩
 | false =>
  obtain ⟨hcw, hcp, hcc⟩ := hr1 rfl
  clear hr1
  go_wp2_with fail
  refine (great23_ok I u1 B l cl (HL.out.non HG1.out (fun a vs h => actV_non _ _ _ _ HG1.out h)) hlc hlm).mono ?_
  rintro e u2 ⟨r2, rfl, hr2, hg2⟩
  have HG2 := Lib.hid (HG1.out.then_non hg2)
  clear hg2
  cases r2 with
  | true =>
   go_wp2_with fail
   refine (awake_ok _ (HE.out.non HG2.out)).mono ?_
   rintro e v ⟨rfl, hg⟩
   go_wp2_with fail
   go_ret
   exact ⟨rfl, (HG0.out.then_non HG2.out).then_non hg⟩
  | false =>
   obtain ⟨hll, hlb⟩ := hr2 rfl
   clear hr2
   have HLB := Lib.hid hlb
   clear hlb
   have HB2 := Lib.hid (blk_keep HB1.out HG2.out (fun e => e))
   have q0 := blk_cell HB2.out 0 (v := .slice A1 c.ws.length c1) rfl
   have q1 := blk_cell HB2.out 1 (v := .slice A2 c.ps.length c2) rfl
   have q2 := blk_cell HB2.out 2 (v := .slice A3 c.cs.length c3) rfl
   have hlt2 := Nat.lt_of_lt_of_le hlt1 HG2.out.size
   go_wp2_with fail
   refine (fits_ok I u2 c A1 A2 A3 c1 c2 c3 (HC.out.non HG2.out) (by omega)).mono ?_
   rintro e u3 ⟨rfl, hg3⟩
   have HG3 := Lib.hid (HG2.out.then_non hg3)
   have HB3 := Lib.hid (blk_keep HB2.out hg3 (fun e => e))
   have hlt3 := Nat.lt_of_lt_of_le hlt2 hg3.size
   clear hg3 q0 q1 q2
   by_cases hfit : fitsB c = true
   ·rw [hfit]
    obtain ⟨hp1, hp6, hc8⟩ := fits_lens hfit
    have HF := Lib.hid hfit
    clear hfit
    have q0 := blk_cell HB3.out 0 (v := .slice A1 c.ws.length c1) rfl
    have q1 := blk_cell HB3.out 1 (v := .slice A2 c.ps.length c2) rfl
    have q2 := blk_cell HB3.out 2 (v := .slice A3 c.cs.length c3) rfl
    obtain ⟨n, hn⟩ : ∃ n, c.ps.length = n := ⟨_, rfl⟩
    have hn1 : 1 ≤ n := by omega
    have hn6 : n ≤ 6 := by omega
    obtain ⟨k, hk⟩ : ∃ k : Nat, (IntKind.u64.wrap who).tmod (n : Int) = k := ⟨((IntKind.u64.wrap who).tmod (n : Int)).toNat, by
      have h0 : 0 ≤ IntKind.u64.wrap who := by show 0 ≤ who % 18446744073709551616; omega
      have := Int.tmod_nonneg (n : Int) h0
      omega⟩
    have hkn : k < n := by
     have := Int.tmod_lt_of_pos (IntKind.u64.wrap who) (show (0 : Int) < (n : Int) by omega)
     omega
    have hwn : IntKind.u64.wrap (n : Int) = n := by show (n : Int) % 18446744073709551616 = n; omega
    have hn0 : ((n : Int) == 0) = false := by rw [beq_eq_false_iff_ne]; omega
    obtain ⟨a0, ha0⟩ : ∃ a, c.ps[k]? = some a := ⟨_, List.getElem?_eq_getElem (by omega)⟩
    obtain ⟨bp, op, mp, rfl, p0, _, _, _, _, _, hi0, _, _, _, hbp⟩ := pn_at HC.out.ps HG3.out ha0
    have HA0 := Lib.hid (List.mem_of_getElem? ha0)
    rw [hn] at q1 ⊢
    clear ha0
    have hki : (k : Int) < (n : Int) := by omega
    go_wp2_with fail
    go_quiet (fail)
    clear q0 q1 q2 p0 hki hwn hn0 hk
    subst hn
    obtain ⟨W4, hW4⟩ : ∃ W4, u3.drewN nq = W4 := ⟨_, rfl⟩
    have hg4 : Chg Non u3 W4 := by rw [← hW4]; exact (Chg.refl Non u3).drewN nq
    rw [hW4]
    clear hW4
    have HG4 := Lib.hid (HG3.out.then_non hg4)
    have HB4 := Lib.hid (blk_keep HB3.out hg4 (fun e => e))
    clear hg4
    go_wp2_with fail
    have HMd := Lib.hid (fun W hW => made_okN I W c ver A1 (some ⟨bp, op, none⟩) A3 c1 c2 c3 (HC.out.non hW) HF.out (fresh_is HF.out) hv)
    refine wp_region_held_drew (S := fun W => Chg Non W4 W) (by kernel_rfl) ((Chg.refl Non _).drew) (fun hHeld => ?_)
    clear hHeld
    refine h_load 0 (some 50) 26 (.tmp 5) w.heap.size 0 #[.slice A1 c.ws.length c1, .slice (some ⟨bp, op, none⟩) c.ps.length c2, .slice A3 c.cs.length c3] _ rfl (by kernel_rfl) (by kernel_rfl) (by kernel_rfl) (by kernel_rfl) (by kernel_rfl) (fun _ _ _ h => h) (by kernel_rfl) (by kernel_rfl) (fun W hW => range_keepS (blk_range HB4.out) hW (fun e => e)) Tryz.underlying26 rfl (by kernel_rfl) ((Chg.refl Non _).drew) ?_
    simp only [Act.put, sA, sB, sC]
    refine hp 1 51 (.int .i64 ver) rfl ((Chg.refl Non _).drew) ?_
    refine h_load 3 (some 53) 26 (.tmp 5) w.heap.size 0 #[.slice A1 c.ws.length c1, .slice (some ⟨bp, op, none⟩) c.ps.length c2, .slice A3 c.cs.length c3] _ rfl (by kernel_rfl) (by kernel_rfl) (by kernel_rfl) (by kernel_rfl) (by kernel_rfl) (fun _ _ _ h => h) (by kernel_rfl) (by kernel_rfl) (fun W hW => range_keepS (blk_range HB4.out) hW (fun e => e)) Tryz.underlying26 rfl (by kernel_rfl) ((Chg.refl Non _).drew) ?_
    simp only [Act.put, sA, sB, sC]
    refine hp 4 54 (.int .i64 ver) rfl ((Chg.refl Non _).drew) ?_
    refine h_one 2 (by kernel_rfl) rfl (by kernel_rfl) ?_
    intro K hK
    go_simp
    refine (HMd.out W4.drew (HG4.out.drew)).mono ?_
    rintro e v1 ⟨a, rfl, hk1, ho1, hm1⟩
    have HK1 := Lib.hid (And.intro hk1 (And.intro ho1 hm1))
    clear hk1 ho1 hm1
    refine hK.out _ _ (((Chg.refl Non _).drew).then_non HK1.out.2.2) (fun _ => ?_)
    clear hK K
    try simp only [Act.put, sA, sB, sC]
    refine h_one 5 (by kernel_rfl) rfl (by kernel_rfl) ?_
    intro K hK
    go_simp
    refine (HMd.out v1 ((HG4.out.drew).then_non HK1.out.2.2)).mono ?_
    rintro e v2 ⟨b, rfl, hk2, ho2, hm2⟩
    have HK2 := Lib.hid (And.intro hk2 (And.intro ho2 hm2))
    clear hk2 ho2 hm2
    refine hK.out _ _ ((((Chg.refl Non _).drew).then_non HK1.out.2.2).then_non HK2.out.2.2) (fun _ => ?_)
    clear hK K
    try simp only [Act.put, sA, sB, sC]
    refine hp 6 11 (.pointer (some ⟨a.p, 0, none⟩)) rfl ((((Chg.refl Non _).drew).then_non HK1.out.2.2).then_non HK2.out.2.2) ?_
    refine hp 7 12 (.pointer (some ⟨b.p, 0, none⟩)) rfl ((((Chg.refl Non _).drew).then_non HK1.out.2.2).then_non HK2.out.2.2) ?_
    refine wpAnyH_done (by kernel_rfl) ?_ _
    have HTW : Hid (∃ Na Nb M, TwoM W1 v2 (kFresh c ver) (kFresh c ver) a b Na Nb M) := Lib.hid (two_made HK1.out.1 HK1.out.2.1 (HG4.out.drew) HK1.out.2.2 (Chg.refl Non _) HK2.out.1 HK2.out.2.1 HK2.out.2.2)
    clear HK1 HK2 HMd HG4 HG3 HG2 HG1 HB2 HB3 HB4 hlt3 hlt2
    obtain ⟨Na, Nb, M, hT0⟩ := HTW.out
    have HT := Lib.hid hT0
    clear hT0 HTW
    go_wp2_with fail
    have hws := hi0
    have hid6 : 1 ≤ a0.id ∧ a0.id ≤ 6 := (fits_ids HF.out).2 a0 HA0.out
    have HS0 := Lib.hid (SimG.fresh HF.out ver ⟨a0, HA0.out, rfl⟩)
    obtain ⟨who2, hwho⟩ : ∃ z, a0.id = z := ⟨_, rfl⟩
    rw [hwho] at HS0 hid6 hws ⊢
    clear hwho HA0 hi0
    go_loopw [13] (fun iv wr => ∃ i : Nat, i ≤ l.length ∧ iv = .int .i64 i ∧ Hid (∃ ka kb, TwoM W1 wr ka kb a b Na Nb M ∧ SimG c who2 ka kb)) (fun iv _ => l.length - (intOf iv).toNat)
    case atStart => exact ⟨0, Nat.zero_le _, rfl, Lib.hid ⟨_, _, HT.out, HS0.out⟩⟩
    case round =>
     clear HT HS0
     obtain ⟨i, hi, rfl, HTS⟩ := hrel
     obtain ⟨ka, kb, hT, hS⟩ := HTS.out
     have HT := Lib.hid hT
     have HS := Lib.hid hS
     clear hT hS HTS
     by_cases hil : i < l.length
     ·have hid : decide ((i : Int) < (l.length : Int)) = true := by simpa using hil
      obtain ⟨x, hx⟩ : ∃ x, l[i]? = some x := ⟨_, List.getElem?_eq_getElem hil⟩
      obtain ⟨bx, ox, mx, rfl, x0, x1, x2, x3, hbv, hw8, hxp, hxl, hbx, _⟩ := act_at HL.out (Chg.refl Non W1) hx
      have x0 := HT.out.chg.cell_some x0 (fun e => e)
      have x1 := HT.out.chg.cell_some x1 (fun e => e)
      have x2 := HT.out.chg.cell_some x2 (fun e => e)
      have x3 := HT.out.chg.cell_some x3 (fun e => e)
      have hbx := Nat.lt_of_lt_of_le hbx HT.out.chg.size
      have h600 := HLB.out x (List.mem_of_getElem? hx)
      obtain ⟨xw, xp, xl, xb⟩ := x
      simp only at x0 x1 x2 x3 hbv hw8 hxp hxl h600
      obtain ⟨Ax, cx, rfl, hcx1, hcx2, hRx, _⟩ := hbv
      have HRX := Lib.hid hRx
      clear hx hRx
      go_wp2_with (refine sel none (.store 52 (.tmp 14) (.tmp 71)) ?_; refine Vm_stop ?_)
      refine HoleV.mk ?_
      refine wpList_store_rowA rfl 52 (.tmp 14) (.tmp 71) rfl wr.heap.size #[.int .u8 xw, .int .i64 xp, .int .i64 xl, .slice Ax xb.length cx] rfl rfl 52 _ (blk_new _ _) (by kernel_rfl) rfl (by simp [Value.oneCell']) ?_
      intro W5 hgW hbW
      have huW : Chg Non wr W5 := ((Chg.refl Non wr).alloc _).then_new hgW (fun x e => by omega)
      have HT5 := Lib.hid (HT.out.non huW)
      have hMx : M ≤ wr.heap.size := HT.out.m
      obtain ⟨gx, hgx⟩ : ∃ gx, wr.heap.size = gx := ⟨_, rfl⟩
      rw [hgx] at hbW hMx ⊢
      have HX5 := Lib.hid hbW
      clear hgx huW hgW hbW x0 x1 x2 x3 hbx HT
      have y3 := blk_cell HX5.out 3 (v := .slice Ax xb.length cx) rfl
      have lgx := blk_lt HX5.out
      iterate 18 go_step
      refine Code.wp_mono ?_ (turned_ok I W1 W5 c A1 (some ⟨bp, op, none⟩) A3 c1 c2 c3 HC.out (by omega) w.heap.size gx HT5.out.chg (blk_keep HB1.out HT5.out.chg (fun e => e)) o Bo co HO.out hoc hom ⟨xw, xp, xl, xb⟩ _ HX5.out Ax cx HRX.out h600 who2 i l.length cl a.p b.p (by omega) (some ⟨bx, ox, none⟩) _ rfl _ (by kernel_rfl))
      rintro e act v6 ⟨rfl, z, Am, m, cm, rfl, hgv, hRm, hml, hlm⟩
      have HT6 := Lib.hid (HT5.out.non hgv)
      have HX6 := Lib.hid (blk_keep HX5.out hgv (fun e => e))
      have HRM := Lib.hid hRm
      have HLm := Lib.hid hlm
      have lg6 := blk_lt HX6.out
      clear hgv hRm hlm HT5 HX5 y3 lgx
      have hwa := waits_le HS.out.ga.il xp
      have hwb := waits_le HS.out.gb.il xp
      simp only at HLm
      have z0 := blk_cell HX6.out 0 (v := .int .u8 xw) rfl
      have z1 := blk_cell HX6.out 1 (v := .int .i64 xp) rfl
      have z2 := blk_cell HX6.out 2 (v := .int .i64 xl) rfl
      have z3 := blk_cell HX6.out 3 (v := .slice Ax xb.length cx) rfl
      simp only [putT, Act.put, List.setIfInBounds_toArray, List.set_cons_zero, List.set_cons_succ]
      by_cases hw0 : xw % 8 = 0
      ·have e0 : ((xw : Int) % 8 == 0) = true := by rw [beq_iff_eq]; omega
       go_wp2_with fail
       refine (input_ok Na v6 ka a xp Ax xb cx HT6.out.ha HT6.out.nA hxp hwa (HRX.out.non HT6.out.chg) (by omega)).mono ?_
       rintro e v7 ⟨rfl, hk7, hg7⟩
       have HT7 := Lib.hid (HT6.out.setA hk7 hg7)
       have HX7 := Lib.hid (blk_keep HX6.out hg7 (fun e => by have := HT6.out.na _ (HT6.out.ha.sub _ e); omega))
       have lg7 := blk_lt HX7.out
       clear hk7 hg7 z0 z1 z2 z3
       have z0 := blk_cell HX7.out 0 (v := .int .u8 xw) rfl
       have z1 := blk_cell HX7.out 1 (v := .int .i64 xp) rfl
       have z2 := blk_cell HX7.out 2 (v := .int .i64 xl) rfl
       go_wp2_with fail
       refine (input_ok Nb v7 kb b xp Am m cm HT7.out.hb HT7.out.nB hxp hwb (HRM.out.non HT7.out.chg) (by omega)).mono ?_
       rintro e v8 ⟨rfl, hk8, hg8⟩
       have HT8 := Lib.hid (HT7.out.setB hk8 hg8)
       clear hk8 hg8 z0 z1 z2
       go_wp2_with fail
       exact ⟨⟨i + 1, by omega, by simp, Lib.hid ⟨_, _, HT8.out, HS.out.input xp xb m (fun e => HLm.out e)⟩⟩, by simp [intOf]; omega⟩
      by_cases hw1 : xw % 8 = 1
      ·have e0 : ((xw : Int) % 8 == 0) = false := by rw [beq_eq_false_iff_ne]; omega
       have e1 : ((xw : Int) % 8 == 1) = true := by rw [beq_iff_eq]; omega
       go_wp2_with fail
       refine (load_ok Na v6 ka a xp xl Ax xb cx HT6.out.ha HT6.out.nA (fun p hp => partOk_mem (HS.out.ga.pm p hp)) hxl (HRX.out.non HT6.out.chg) (by omega)).mono ?_
       rintro e v7 ⟨rfl, hk7, hg7⟩
       have HT7 := Lib.hid (HT6.out.setA hk7 hg7)
       have HX7 := Lib.hid (blk_keep HX6.out hg7 (fun e => by have := HT6.out.na _ (HT6.out.ha.sub _ e); omega))
       have lg7 := blk_lt HX7.out
       clear hk7 hg7 z0 z1 z2 z3
       have z0 := blk_cell HX7.out 0 (v := .int .u8 xw) rfl
       have z1 := blk_cell HX7.out 1 (v := .int .i64 xp) rfl
       have z2 := blk_cell HX7.out 2 (v := .int .i64 xl) rfl
       go_wp2_with fail
       refine (load_ok Nb v7 kb b xp xl Am m cm HT7.out.hb HT7.out.nB (fun p hp => partOk_mem (HS.out.gb.pm p hp)) hxl (HRM.out.non HT7.out.chg) (by omega)).mono ?_
       rintro e v8 ⟨rfl, hk8, hg8⟩
       have HT8 := Lib.hid (HT7.out.setB hk8 hg8)
       clear hk8 hg8 z0 z1 z2
       go_wp2_with fail
       exact ⟨⟨i + 1, by omega, by simp, Lib.hid ⟨_, _, HT8.out, HS.out.load xp xl xb m (fun e => HLm.out e)⟩⟩, by simp [intOf]; omega⟩
      have e0 : ((xw : Int) % 8 == 0) = false := by rw [beq_eq_false_iff_ne]; omega
      have e1 : ((xw : Int) % 8 == 1) = false := by rw [beq_eq_false_iff_ne]; omega
      obtain ⟨n0, hn0⟩ : ∃ n : Nat, (IntKind.u64.wrap xl).tmod 64 = n ∧ n < 64 := ⟨((IntKind.u64.wrap xl).tmod 64).toNat, by
        have h0 : 0 ≤ IntKind.u64.wrap xl := by show 0 ≤ xl % 18446744073709551616; omega
        have h1 := Int.tmod_nonneg (64 : Int) h0
        have h2 := Int.tmod_lt_of_pos (IntKind.u64.wrap xl) (show (0 : Int) < 64 by omega)
        omega⟩
      obtain ⟨hn0, hn64⟩ := hn0
      go_wp2_with fail
      clear z0 z1 z3
      go_loopw [16] (fun nv wr2 => ∃ n : Nat, n < 64 ∧ nv = .int .u64 n ∧ Hid (∃ ka kb, TwoM W1 wr2 ka kb a b Na Nb M ∧ SimG c who2 ka kb)) (fun nv _ => (intOf nv).toNat)
      case atStart => exact ⟨n0, hn64, by first | rfl | rw [hn0], Lib.hid ⟨_, _, HT6.out, HS.out⟩⟩
      case round =>
       clear HT6 HX6 HS z2 hn0 hn64
       obtain ⟨n, hn, rfl, HTS⟩ := hrel
       obtain ⟨kc, kd, hT, hS⟩ := HTS.out
       have HT6 := Lib.hid hT
       have HS := Lib.hid hS
       obtain ⟨hS8, hE8⟩ := hS.tick HF.out
       have HS8 := Lib.hid hS8
       have HE8 := Lib.hid hE8
       obtain ⟨j0, p0, hj0, hp0⟩ := hS8.found
       have HJ := Lib.hid (And.intro hj0 hp0)
       have HJb := Lib.hid (hS8.look (by omega) hid6.2 hj0 hp0)
       have HWt := Lib.hid (hS8.waits (by omega) hid6.2)
       have hga := hS.ga
       have hgb := hS.gb
       clear hT hS HTS hS8 hE8 hj0 hp0
       go_wp2_with fail
       refine (tick_ok Na _ kc a HT6.out.ha HT6.out.nA hga).mono ?_
       rintro e v7 ⟨rfl, hk7, hg7⟩
       have HT7 := Lib.hid (HT6.out.setA hk7 hg7)
       clear hk7 hg7 hga
       go_wp2_with fail
       refine (tick_ok Nb _ kd b HT7.out.hb HT7.out.nB hgb).mono ?_
       rintro e v8 ⟨rfl, hk8, hg8⟩
       have HT8 := Lib.hid (HT7.out.setB hk8 hg8)
       have HP8 : Hid (p0.r.length = 8) := Lib.hid (HT8.out.ha.bdp HJ.out.2).r8
       have HBd : Hid p0.Bd := Lib.hid (HT8.out.ha.bdp HJ.out.2)
       clear hk8 hg8 hgb
       rw [← HE8.out]
       go_wp2_with fail
       refine (look_ok Na _ kc.ticked a who2 HT8.out.ha).mono ?_
       rintro e v9 ⟨hcase, hgl⟩
       have HT9 := Lib.hid (HT8.out.non hgl)
       rcases hcase with ⟨j1, p1, m1, hj', hp', rfl, hbv⟩ | ⟨hno, _⟩
       rotate_left
       ·exfalso
        have := HJ.out.1
        omega
       obtain rfl : j0 = j1 := by have := HJ.out.1; omega
       obtain rfl : p0 = p1 := by have h1 := HJ.out.2; rw [hp'] at h1; injection h1 with h1; exact h1.symm
       obtain ⟨Ap, cp, rfl, _, _, hRl, _⟩ := hbv
       have HRp := Lib.hid hRl
       clear hgl hj' hp' hRl
       go_wp2_with (refine sel none (.store 69 (.tmp 21) (.tmp 161)) ?_; refine Vm_stop ?_)
       refine HoleV.mk ?_
       refine wpList_store_rowA rfl 69 (.tmp 21) (.tmp 161) rfl v9.heap.size (partC p0 (.slice Ap p0.mem.length cp)) rfl rfl 69 zeroPart (blk_new _ _) (by rw [partC_size HP8.out]; exact info_part) (by rw [partC_size HP8.out]; rfl) (partC_one _ _ rfl) ?_
       intro W9 hgW hbW
       have huW : Chg Non v9 W9 := ((Chg.refl Non v9).alloc _).then_new hgW (fun x e => by omega)
       have HTa := Lib.hid (HT9.out.non huW)
       have HBp := Lib.hid hbW
       have HRp := Lib.hid (HRp.out.non huW)
       obtain ⟨gp, hgp⟩ : ∃ g, v9.heap.size = g := ⟨_, rfl⟩
       rw [hgp] at HBp ⊢
       clear hgp hgW hbW huW
       go_wp2_with fail
       refine (look_ok Nb _ kd.ticked b who2 HTa.out.hb).mono ?_
       rintro e v10 ⟨hcase, hgl⟩
       have HTb := Lib.hid (HTa.out.non hgl)
       have HBp := Lib.hid (blk_keep HBp.out hgl (fun e => e))
       have HRp := Lib.hid (HRp.out.non hgl)
       rcases hcase with ⟨j2, p2, m2, hj', hp', rfl, hbv⟩ | ⟨hno, _⟩
       rotate_left
       ·exfalso
        have := HJb.out.1
        omega
       obtain rfl : j0 = j2 := by have := HJb.out.1; omega
       obtain rfl : p0 = p2 := by have h1 := HJb.out.2; rw [hp'] at h1; injection h1 with h1; exact h1.symm
       obtain ⟨Aq, cq, rfl, _, _, hRl, _⟩ := hbv
       have HRq := Lib.hid hRl
       clear hgl hj' hp' hRl
       go_wp2_with (refine sel none (.store 69 (.tmp 23) (.tmp 167)) ?_; refine Vm_stop ?_)
       refine HoleV.mk ?_
       refine wpList_store_rowA rfl 69 (.tmp 23) (.tmp 167) rfl v10.heap.size (partC p0 (.slice Aq p0.mem.length cq)) rfl rfl 69 zeroPart (blk_new _ _) (by rw [partC_size HP8.out]; exact info_part) (by rw [partC_size HP8.out]; rfl) (partC_one _ _ rfl) ?_
       intro W10 hgW hbW
       have huW : Chg Non v10 W10 := ((Chg.refl Non v10).alloc _).then_new hgW (fun x e => by omega)
       have HTc := Lib.hid (HTb.out.non huW)
       have HBq := Lib.hid hbW
       have HRq := Lib.hid (HRq.out.non huW)
       have HBp := Lib.hid (blk_keep HBp.out huW (fun e => e))
       have HRp := Lib.hid (HRp.out.non huW)
       obtain ⟨gq, hgq⟩ : ∃ g, v10.heap.size = g := ⟨_, rfl⟩
       rw [hgq] at HBq ⊢
       clear hgq hgW hbW huW
       have hpq1 := blk_lt HBp.out
       have hpq2 := blk_lt HBq.out
       go_wp2_with (first
         | (refine sel (some 186) (.load _ (.tmp 21)) ?_; refine Vm_stop ?_))
       refine HoleV.mk ?_
       refine wpList_loadW (some 186) 69 (.tmp 21) gp 0 (partC p0 (.slice Ap p0.mem.length cp)) _ rfl rfl (by kernel_rfl) rfl (row_range HBp.out) Tryz.underlying69 rfl (by rw [partC_size HP8.out]; exact info_part) ?_
       go_wp2_with (first
         | (refine sel (some 187) (.load _ (.tmp 23)) ?_; refine Vm_stop ?_))
       refine HoleV.mk ?_
       refine wpList_loadW (some 187) 69 (.tmp 23) gq 0 (partC p0 (.slice Aq p0.mem.length cq)) _ rfl rfl (by kernel_rfl) rfl (row_range HBq.out) Tryz.underlying69 rfl (by rw [partC_size HP8.out]; exact info_part) ?_
       go_wp2_with fail
       refine (Same_eq p0 Ap Aq p0.mem cp cq _ HBd.out HRp.out HRq.out).mono ?_
       rintro e v11 ⟨rfl, hg11⟩
       have HTd := Lib.hid (HTc.out.non hg11)
       clear hg11 hpq1 hpq2
       go_wp2_with fail
       refine (waits_ok Na _ kc.ticked a who2 hws HTd.out.ha).mono ?_
       rintro e v12 ⟨rfl, hg12⟩
       have HTe := Lib.hid (HTd.out.non hg12)
       clear hg12
       go_wp2_with fail
       refine (waits_ok Nb _ kd.ticked b who2 hws HTe.out.hb).mono ?_
       rintro e v13 ⟨rfl, hg13⟩
       have HTf := Lib.hid (HTe.out.non hg13)
       clear hg13
       rw [← HWt.out]
       by_cases hnz : n = 0
       ·subst hnz
        go_wp2_with fail
        exact ⟨⟨i + 1, by omega, by simp, Lib.hid ⟨_, _, HTf.out, HS8.out⟩⟩, by simp [intOf]; omega⟩
       ·have hnz0 : ((n : Int) == 0) = false := by rw [beq_eq_false_iff_ne]; omega
        go_wp2_with fail
        exact ⟨⟨n - 1, by omega, by rw [show ((n : Int) - 1) = ((n - 1 : Nat) : Int) by omega], Lib.hid ⟨_, _, HTf.out, HS8.out⟩⟩, by simp [intOf]; omega⟩
     ·have hid : decide ((i : Int) < (l.length : Int)) = false := by simpa using hil
      go_wp2_with fail
      refine (at_ok Na _ ka a HT.out.ha).mono ?_
      rintro e w5 ⟨rfl, hg5⟩
      have HT5 := Lib.hid (HT.out.non hg5)
      clear hg5
      go_wp2_with fail
      refine (at_ok Nb _ kb b HT5.out.hb).mono ?_
      rintro e w6 ⟨rfl, hg6⟩
      have HT6 := Lib.hid (HT5.out.non hg6)
      clear hg6
      rw [← HS.out.sim.k.tick]
      go_wp2_with fail
      refine (awake_ok _ (HE.out.non HT6.out.chg)).mono ?_
      rintro e v ⟨rfl, hg⟩
      go_wp2_with fail
      go_ret
      exact ⟨rfl, (HG0.out.then_non HT6.out.chg).then_non hg⟩
   ·have hfit' : fitsB c = false := by simpa using hfit
    rw [hfit']
    clear hfit hfit'
    go_wp2_with fail
    refine (awake_ok _ (HE.out.non HG3.out)).mono ?_
    rintro e v ⟨rfl, hg⟩
    go_wp2_with fail
    go_ret
    exact ⟨rfl, (HG0.out.then_non HG3.out).then_non hg⟩
end
section
open Go.ChangeShapes Go.WideShapes Go.ChangeAt Go.RowKit
theorem post_below {H : Type} {enc : TypeId × Value → H} {P : Program} {f : Func} {s : ChangeSpec} {apart fresh handsOn again : Bool} {W W' : World} {args : Array Value} {v : Value} {ds gs : List (DataW H)} {before pa pv : List MemPlace}
  (hW : DataW.Whole enc P f.params.toList s.vars apart W args.toList ds gs before)
  (hres : ∀ (b : Nat) (sp : Nat → Bool) (hd : Bool), DataW.TrodAll enc P W' b sp hd f.resultTypes.toList (v.resultList f.resultTypes.size) (s.fn H (ds ++ gs)).results [])
  (hargs : ∀ sp : Nat → Bool, (∀ p ∈ before, sp p.block = true) → DataW.TrodAll enc P W' 0 sp true f.params.toList args.toList (s.fn H (ds ++ gs)).args pa)
  (hvars : ∀ sp : Nat → Bool, (∀ p ∈ before, sp p.block = true) → DataW.TrodVars enc P W' sp s.vars (s.fn H (ds ++ gs)).vars pv)
  (hps : before = pa ++ pv) (hb : Below W.heap.size W W')
  (hok : ∀ (j : Nat) (t : TypeId) (r : Value), f.resultTypes[j]? = some t → (v.resultList f.resultTypes.size)[j]? = some r → Value.okWide P W' .any 0 t r) :
  s.post enc P f apart fresh handsOn again W args v W' := by
 have hlt := hW.lt
 have hold : ∀ p ∈ before, (fun b => decide (b < W.heap.size)) p.block = true := fun p hp => by simpa using hlt p hp
 refine ⟨ds, gs, before, [], pa, pv, hW, hres _ _ _, hargs _ hold, hvars _ hold, World.keptBut_mono (fun p hp => ⟨hp, ?_⟩) (hb.frame (· ∈ before)), fun _ => ?_⟩
 ·rw [hps, List.mem_append] at hp
  exact Or.inr hp
 ·obtain ⟨_, _, _, _, _, hz, hn⟩ := hW
  refine ⟨hok, _, _, ([] ++ pa) ++ pv, ⟨[] ++ pa, pv, trodAll_append (hargs _ (fun _ _ => rfl)) (hres _ _ _), hvars _ (fun _ _ => rfl), rfl, ?_, ?_⟩, ?_⟩
  ·intro b off hp
   have hp' : MemPlace.cell b off ∈ before := by rw [hps]; simpa using hp
   rw [hb.frozen (show b < W.heap.size from hlt _ hp')]
   exact hz b off hp'
  ·intro ha
   have := hn ha
   rw [hps] at this
   simpa using this
  ·intro p hp _
   rw [hps]
   simpa using hp
end
section
open Go.ChangeShapes Go.WideShapes Go.ChangeAt Go.RowKit
section
variable {H : Type} {enc : TypeId × Value → H} {P : Program}
theorem sameAt_below {W W' : World} (hb : Below W.heap.size W W') {p : MemPlace} (hp : p.block < W.heap.size) : W.sameAt W' p := by
 cases p with
 | cell b off => exact hb.cell (p := ⟨b, off, none⟩) hp
 | map b => exact hb.block b hp
theorem trodAll_carry {W W' : World} {base : Nat} {sp : Nat → Bool} {hd : Bool} : ∀ {ts : List TypeId} {vs : List Value} {ds : List (DataW H)} {ps : List MemPlace},
  DataW.TrodAll enc P W base sp hd ts vs ds ps → (∀ p ∈ ps, W.sameAt W' p) → DataW.TrodAll enc P W' base sp hd ts vs ds ps
 | [], [], [], _, h, _ => h
 | _ :: _, _ :: _, _ :: _, _, ⟨p, q, ⟨n, h1⟩, h2, e⟩, hs =>
  ⟨p, q, ⟨n, DataW.trod_carry n _ _ _ h1 (fun x hx => hs x (by rw [e]; exact List.mem_append_left _ hx))⟩,
    trodAll_carry h2 (fun x hx => hs x (by rw [e]; exact List.mem_append_right _ hx)), e⟩
theorem post_law {f : Func} {s : ChangeSpec} {apart fresh handsOn again : Bool} {W W' : World} {args : Array Value} {tb : TypeId} {ds gs : List (DataW H)} {before : List MemPlace}
  (K : Kids P (· < P.types.size)) (hz : ∀ t e, t < P.types.size → P.underlying t = some (.slice e) → 0 < P.cellsOf e)
  (hT : ∀ t ∈ f.params.toList, t < P.types.size) (hr : f.resultTypes = #[tb]) (hub : P.underlying tb = some .bool)
  (hW : DataW.Whole enc P f.params.toList s.vars apart W args.toList ds gs before) (hv : s.vars = [])
  (hs : (s.fn H (ds ++ gs)).results = [.lit (.bool true)]) (ha : (s.fn H (ds ++ gs)).args = ds) (hv2 : (s.fn H (ds ++ gs)).vars = []) (hb : Below W.heap.size W W') :
  s.post enc P f apart fresh handsOn again W args (.bool true) W' := by
 have hW' := hW
 have hlt := hW.lt
 obtain ⟨p, q, hA, hV, rfl, hfz, hnd⟩ := hW
 rw [hv] at hV
 obtain ⟨rfl, rfl⟩ := trodVars_none hV
 rw [List.append_nil] at hlt
 refine post_below (pa := p) (pv := []) hW' ?_ ?_ ?_ rfl hb ?_
 ·intro b sp hd
  rw [hr, hs]
  exact trodAll_cons_mk (shut_bool hub _) trodAll_mk0
 ·intro sp hsp
  rw [ha]
  exact DataW.TrodAll.respare K hz hT (trodAll_carry hA (fun x hx => sameAt_below hb (hlt x hx))) (fun x hx => hsp x (by simpa using hx))
 ·intro sp _
  rw [hv, hv2]
  rfl
 ·exact ok_one hr rfl (okWide_bool_mk hub _)
theorem open_bytes {r : Reach} {b0 : Nat} {W : World} {t e : TypeId} {v : Value} {d : DataW H} {ps : List MemPlace} (ht : P.underlying t = some (.slice e)) (he : P.underlying e = some (.int .u8)) (hc : P.cellsOf e = 1)
  (hval : Value.okWide P W r b0 t v) (h : DataW.Trod enc P W 0 (fun _ => true) true t v d ps) :
  ∃ (B : Option Addr) (l : List UInt8) (c : Nat), v = .slice B l.length c ∧ Rd W B l ∧ l.length ≤ c ∧ c ≤ maxLen := by
 obtain ⟨a, len, cap, rfl⟩ := okWide_slice ht hval
 obtain ⟨fuel, hf⟩ := h
 rcases open_ints ht he hc hf with ⟨h0, _⟩ | ⟨a', len', cap', zs, h0, _, hl, hm, hzl, _, hcell, hwf⟩
 ·simp only [Value.cells, List.cons.injEq, Value.slice.injEq, and_true] at h0
  obtain ⟨rfl, rfl, rfl⟩ := h0
  exact ⟨none, [], 0, rfl, Rd.nil _ _, Nat.le_refl _, by simp⟩
 ·simp only [Value.cells, List.cons.injEq, Value.slice.injEq, and_true] at h0
  obtain ⟨rfl, rfl, rfl⟩ := h0
  simp only [if_true] at hzl
  have hnum : ∀ n ∈ zs, ((UInt8.ofNat n.toNat).toNat : Int) = n := by
   intro n hn
   obtain ⟨h1, h2⟩ := bounds_u8 (hwf n hn)
   simp only [UInt8.toNat_ofNat']
   omega
  refine ⟨some a', (zs.take len).map (fun n => UInt8.ofNat n.toNat), cap, by simp [hzl, Nat.min_eq_left hl], ?_, by simp [hzl, hl, Nat.min_eq_left hl], hm⟩
  intro i x hx
  rw [List.getElem?_map] at hx
  obtain ⟨n, hn, rfl⟩ := Option.map_eq_some_iff.1 hx
  have hi : i < (zs.take len).length := (List.getElem?_eq_some_iff.1 hn).1
  rw [List.length_take] at hi
  have hn' : zs[i]? = some n := by rw [← hn, List.getElem?_take_of_lt (by omega)]
  obtain ⟨b, off, rfl, hc2⟩ := ints_at hcell (by omega)
  refine ⟨b, off, rfl, ?_⟩
  rw [hc2 i (by omega), List.getD, hn', Option.getD_some, hnum n (List.mem_of_getElem? hn')]
end
end
section
open Go.ChangeShapes Go.WideShapes Go.ChangeAt Go.RowKit
section
variable {H : Type} {P : Program}
theorem wt_all {e : TypeId} {d : DataW H} {n : Nat} : ∀ {l : List (DataW H)}, d ∈ l → n ∈ d.weights P e → n ∈ DataW.weightsAll P e l
 | x :: r, h, hn => by
  simp only [DataW.weightsAll, List.mem_append]
  rcases List.mem_cons.1 h with rfl | h
  ·exact .inl hn
  ·exact .inr (wt_all h hn)
def SizedD (P : Program) (t : TypeId) (d : DataW H) : Prop := ∀ n ∈ d.weights P t, n ≤ reachBytes
theorem SizedD.elem {t e : TypeId} {a b : List (DataW H)} (h : SizedD P t (.slice a b)) (hu : P.underlying t = some (.slice e)) {d : DataW H} (hd : d ∈ a) : SizedD P e d := fun n hn => by
 refine h n ?_
 simp only [DataW.weights, hu, List.mem_cons, List.mem_append]
 exact .inr (.inl (wt_all hd hn))
theorem SizedD.len {t e : TypeId} {a b : List (DataW H)} (h : SizedD P t (.slice a b)) (hu : P.underlying t = some (.slice e)) : (a.length + b.length) * P.bytesOf e ≤ reachBytes := by
 refine h _ ?_
 simp only [DataW.weights, hu, List.mem_cons, true_or]
theorem SizedD.field {t : TypeId} {fs : Array Field} {parts : List (DataW H)} (h : SizedD P t (.agg parts)) (hu : P.underlying t = some (.struct fs)) {i : Nat} {f : Field} {d : DataW H} (hi : fs[i]? = some f) (hd : parts[i]? = some d) : SizedD P f.type d := fun n hn => by
 refine h n ?_
 simp only [DataW.weights, hu]
 refine DataW.weights_mem_each (j := i) (t := f.type) ?_ hd n hn
 rw [List.getElem?_map, Array.getElem?_toList, hi]
 rfl
end
section
variable {H : Type} {enc : TypeId × Value → H} {W : World}
theorem bytes_is {P : Program} {t e : TypeId} {fuel : Nat} {cs : List Value} {x : DataW H × List MemPlace} (ht : P.underlying t = some (.slice e)) (he : P.underlying e = some (.int .u8)) (hc : P.cellsOf e = 1)
  (hf : DataW.trod enc P W 0 (fun _ => true) true fuel t cs = some x) : ∃ (B : Option Addr) (l : List UInt8) (c : Nat), cs = [.slice B l.length c] ∧ Rd W B l ∧ l.length ≤ c ∧ c ≤ maxLen ∧ (P.bytesOf e = 1 → SizedD P t x.1 → c ≤ 140737488351232) := by
 rcases open_ints ht he hc hf with ⟨h0, _⟩ | ⟨a', len', cap', zs, h0, _, hl, hm, hzl, hx, hcell, hwf⟩
 ·exact ⟨none, [], 0, h0, Rd.nil _ _, Nat.le_refl _, by simp, fun _ _ => by omega⟩
 ·simp only [if_true] at hzl
  have hnum : ∀ n ∈ zs, ((UInt8.ofNat n.toNat).toNat : Int) = n := by
   intro n hn
   obtain ⟨h1, h2⟩ := bounds_u8 (hwf n hn)
   simp only [UInt8.toNat_ofNat']
   omega
  refine ⟨some a', (zs.take len').map (fun n => UInt8.ofNat n.toNat), cap', by rw [h0]; simp [hzl, Nat.min_eq_left hl], ?_, by simp [hzl, hl, Nat.min_eq_left hl], hm, ?_⟩
  ·intro i x hx
   rw [List.getElem?_map] at hx
   obtain ⟨n, hn, rfl⟩ := Option.map_eq_some_iff.1 hx
   have hi : i < (zs.take len').length := (List.getElem?_eq_some_iff.1 hn).1
   rw [List.length_take] at hi
   have hn' : zs[i]? = some n := by rw [← hn, List.getElem?_take_of_lt (by omega)]
   obtain ⟨b, off, rfl, hc2⟩ := ints_at hcell (by omega)
   refine ⟨b, off, rfl, ?_⟩
   rw [hc2 i (by omega), List.getD, hn', Option.getD_some, hnum n (List.mem_of_getElem? hn')]
  ·intro hb hs
   rw [hx] at hs
   have := hs.len ht
   rw [hb] at this
   simp only [lits, List.length_map, List.length_take, List.length_drop, Nat.mul_one, reachBytes] at this
   omega
end
end
section
open Go.ChangeShapes Go.WideShapes Go.ChangeAt Go.RowKit
section
variable {H : Type} {enc : TypeId × Value → H}
theorem returnsIn_card {a : Assume} {C : Checked} {os : Os} {f : FuncId} {fn : Func} {s : ChangeSpec} {conds : List PathCond} {apart fresh handsOn again : Bool} {X : World → Array Value → Prop}
  (hX : ∀ (w w' : World) (args : Array Value), w.heap = w'.heap → X w args → X w' args)
  (own : ownKnob C.prog.godebug = none) (started : os.Started) (noInit : C.prog.inits.idxOf? f = none) (hfn : C.prog.funcs[f]? = some fn)
  (witness : ∃ (w : World) (tape : Tape) (i : Input), w.os = os ∧ (w.forCall tape i).Shaped C.prog ∧ i.vars = [] ∧ Input.okWide C.prog (w.forCall tape i) .any w.heap.size f i ∧
    ((s.pre enc C.prog fn conds apart (w.forCall tape i).memory i.args ∧ X (w.forCall tape i).memory i.args) ∧ sizedMet enc C.prog fn (OpenSpec.ofChange s) apart (w.forCall tape i).memory i.args) ∧ a.holds C.prog (lone (Frame.enter C.prog f i.args .normal) [] (w.forCall tape i)))
  (contract : ∀ (W : World) (base : Nat) (args : Array Value) (ds gs : List (DataW H)) (before : List MemPlace),
    (∀ (j : Nat) t v, fn.params[j]? = some t → args[j]? = some v → Value.okWide C.prog W .any base t v) →
    DataW.Whole enc C.prog fn.params.toList s.vars apart W args.toList ds gs before → W.ShapedOpen C.prog → X W args →
    Calls C.prog f args W fun e W' => ∃ v, e = .returned v ∧ s.post enc C.prog fn apart fresh handsOn again W args v W') :
  ReturnsInHanded a C os f .any (fun w args => (s.pre enc C.prog fn conds apart w args ∧ X w args) ∧ sizedMet enc C.prog fn (OpenSpec.ofChange s) apart w args) (s.post enc C.prog fn apart fresh handsOn again) := by
 refine returnsInHanded_of_calls own started noInit witness ?_
 intro w tape i _ hsh _ hok hpre hholds
 obtain ⟨_, _, _, fn', hfn', _, _, _, _, hval⟩ := hok
 have e : fn' = fn := Option.some.inj (hfn'.symm.trans hfn)
 subst e
 obtain ⟨⟨⟨ds, gs, before, hw, _⟩, hx⟩, _⟩ := hpre
 refine (contract (w.forCall tape i) w.heap.size i.args ds gs before hval (DataW.Whole.of_heap (w' := w.forCall tape i) (by rfl) hw) hsh (hX _ _ _ (by rfl) hx)).mono fun e W' ⟨v, he, hp⟩ => ?_
 subst he
 exact ChangeSpec.post_blind hp
end
theorem star : ("*errors.errorString" : String) = "*" ++ "errors.errorString" := by decide
theorem rowErr (u : TypeId) (h : Tryz.prog.typeName? 3 u = some "*errors.errorString") : u = 276 :=
 typeName_ptr_named (nm := "errors.errorString") (by rw [← star]; kernel_rfl) (by kernel_rfl) (by decide) u (by rw [← star]; exact h)
theorem env_of {w : World} (hsh : w.ShapedOpen Tryz.prog) {d r : List (String × DataW Unit)} {a : String × DataW Unit} (hL : laidMet Tryz.prog (("internal/strconv.uint64pow10", Rows.laid_internal_strconv_uint64pow10) :: a :: ("strconv.ErrRange", Rows.laid_strconv_ErrRange) :: ("strconv.ErrSyntax", Rows.laid_strconv_ErrSyntax) :: r) w) : Env w := by
 refine ⟨?_, ?_, ?_, ?_⟩
 ·exact Lib.tabIs_of_head (g := 5) (k := .u64) (zs := Lib.pow10Tab) (by kernel_rfl) (by kernel_rfl) Tryz.underlying293 Tryz.underlying57 (by kernel_rfl) (by kernel_rfl) hL
 ·obtain ⟨a0, s0, hv0, -, -, -⟩ := laid_sentinel (g := 0) hL.tail.tail.tail (by kernel_rfl) (by kernel_rfl) Tryz.underlying201 rowErr Tryz.underlying276 Tryz.underlying278 rfl rfl Tryz.underlying9 (by kernel_rfl) (by kernel_rfl)
  exact ⟨_, by have h0 := World.var?_cell (g := 0) (by kernel_rfl) hv0 0; simpa using h0, .inr ⟨_, _, rfl⟩⟩
 ·obtain ⟨a0, s0, hv0, -, -, -⟩ := laid_sentinel (g := 1) hL.tail.tail (by kernel_rfl) (by kernel_rfl) Tryz.underlying201 rowErr Tryz.underlying276 Tryz.underlying278 rfl rfl Tryz.underlying9 (by kernel_rfl) (by kernel_rfl)
  exact ⟨_, by have h0 := World.var?_cell (g := 1) (by kernel_rfl) hv0 0; simpa using h0, .inr ⟨_, _, rfl⟩⟩
 ·exact cell_of_shapedOpen_int (zero := #[.int .i64 0]) hsh (of_decide_eq_true (by kernel_rfl)) (by kernel_rfl) (by kernel_rfl) (by kernel_rfl) (by kernel_rfl) Tryz.underlying3
end
section
open Go.ChangeShapes Go.WideShapes Go.ChangeAt Go.RowKit
theorem one_of_take {cs : List Value} {k : Nat} {v : Value} (h : (cs.drop k).take 1 = [v]) : cs[k]? = some v := by
 have h1 : ((cs.drop k).take 1)[0]? = some v := by rw [h]; rfl
 rw [List.getElem?_take_of_lt (by omega), List.getElem?_drop, Nat.add_zero] at h1
 exact h1
section
variable {H : Type} {enc : TypeId × Value → H} {W : World} {base : Nat} {sp : Nat → Bool} {hd : Bool}
theorem u8_nat {k : Int} (h : (Lit.int .u8 k).wf = true) : ∃ n : Nat, k = n ∧ n < 256 := by
 obtain ⟨h1, h2⟩ := bounds_u8 h
 exact ⟨k.toNat, by omega, by omega⟩
set_option maxRecDepth 100000 in
theorem open_u8 {r0 : Reach} {b0 : Nat} {v : Value} {d : DataW H} {ps : List MemPlace} (hval : Value.okWide Tryz.prog W r0 b0 5 v) (h : DataW.Trod enc Tryz.prog W base sp hd 5 v d ps) : ∃ n : Nat, v = .int .u8 n ∧ n < 256 := by
 obtain ⟨k, rfl, _, _, hw⟩ := open_int Tryz.underlying5 hval h
 obtain ⟨n, rfl, hn⟩ := u8_nat hw
 exact ⟨n, rfl, hn⟩
set_option maxRecDepth 100000 in
theorem open_i64 {r0 : Reach} {b0 : Nat} {v : Value} {d : DataW H} {ps : List MemPlace} (hval : Value.okWide Tryz.prog W r0 b0 3 v) (h : DataW.Trod enc Tryz.prog W base sp hd 3 v d ps) : ∃ n : Int, v = .int .i64 n ∧ -9223372036854775808 ≤ n ∧ n ≤ 9223372036854775807 := by
 obtain ⟨k, rfl, _, _, hw⟩ := open_int Tryz.underlying3 hval h
 exact ⟨k, rfl, _root_.Go.bounds_i64 hw⟩
set_option maxRecDepth 100000 in
theorem open_str {r0 : Reach} {b0 : Nat} {v : Value} {d : DataW H} {ps : List MemPlace} (hval : Value.okWide Tryz.prog W r0 b0 9 v) (h : DataW.Trod enc Tryz.prog W base sp hd 9 v d ps) : ∃ l : List UInt8, v = .string ⟨l.toArray⟩ ∧ l.length ≤ maxLen := by
 obtain ⟨s, rfl, _, _, hs⟩ := Go.ChangeMaps.open_string Tryz.underlying9 hval h
 refine ⟨s.data.toList, ?_, ?_⟩
 ·simp
 ·have e : s.size = s.data.size := rfl
  rw [Array.length_toList]; omega
set_option maxRecDepth 100000 in
theorem four_cells {fuel : Nat} {cs : List Value} {x : DataW H × List MemPlace} (h : DataW.trod enc Tryz.prog W base sp hd fuel 146 cs = some x) : ∃ p q r s : Nat, cs = [.int .u8 p, .int .u8 q, .int .u8 r, .int .u8 s] ∧ Four (p, q, r, s) := by
 obtain ⟨xs, m, _, _, hl, hxl, hx⟩ := DataW.trod_array Tryz.underlying146 h
 have c4 : Tryz.prog.cellsOf 146 = 4 := by kernel_rfl
 have c1 : Tryz.prog.cellsOf 5 = 1 := by kernel_rfl
 rw [c4] at hl
 have each : ∀ i, i < 4 → ∃ b : Nat, cs[i]? = some (.int .u8 b) ∧ b < 256 := by
  intro i hi
  have hq := hx i hi
  rw [c1, Nat.mul_one, List.getElem?_eq_getElem (by omega)] at hq
  obtain ⟨k, hk, _, hw⟩ := DataW.trod_int Tryz.underlying5 hq
  obtain ⟨n, rfl, hn⟩ := u8_nat hw
  exact ⟨n, one_of_take hk, hn⟩
 obtain ⟨p, hp, hp'⟩ := each 0 (by omega)
 obtain ⟨q, hq, hq'⟩ := each 1 (by omega)
 obtain ⟨r, hr, hr'⟩ := each 2 (by omega)
 obtain ⟨s, hs, hs'⟩ := each 3 (by omega)
 refine ⟨p, q, r, s, ?_, hp', hq', hr', hs'⟩
 match cs, hl, hp, hq, hr, hs with
 | [a, b, c, d], _, h0, h1, h2, h3 =>
  simp only [List.getElem?_cons_zero, List.getElem?_cons_succ, Option.some.injEq] at h0 h1 h2 h3
  subst h0 h1 h2 h3
  rfl
theorem okWide_array {P : Program} {n : Nat} {e t : TypeId} {r0 : Reach} {b0 : Nat} {v : Value} (ht : P.underlying t = some (.array n e)) (h : Value.okWide P W r0 b0 t v) : ∃ cs, v = .agg cs ∧ cs.size = P.cellsOf t := by
 simp only [Value.okWide, ht] at h
 obtain ⟨cs, h1, h2, _⟩ := h
 exact ⟨cs, h1, h2⟩
set_option maxRecDepth 100000 in
theorem open_four {r0 : Reach} {b0 : Nat} {v : Value} {d : DataW H} {ps : List MemPlace} (hval : Value.okWide Tryz.prog W r0 b0 146 v) (h : DataW.Trod enc Tryz.prog W base sp hd 146 v d ps) : ∃ p q r s : Nat, v = .agg #[.int .u8 p, .int .u8 q, .int .u8 r, .int .u8 s] ∧ Four (p, q, r, s) := by
 obtain ⟨cs, rfl, _⟩ := okWide_array Tryz.underlying146 hval
 obtain ⟨fuel, hf⟩ := h
 obtain ⟨p, q, r, s, hc, h4⟩ := four_cells hf
 refine ⟨p, q, r, s, ?_, h4⟩
 congr 1
 exact Array.toList_inj.1 hc
end
end
section
open Go.ChangeShapes Go.WideShapes Go.ChangeAt Go.RowKit
theorem list_of {α : Type} (n : Nat) (P : Nat → α → Prop) (h : ∀ i, i < n → ∃ r, P i r) : ∃ l : List α, l.length = n ∧ ∀ i r, l[i]? = some r → P i r := by
 induction n with
 | zero => exact ⟨[], rfl, fun i r h => by simp at h⟩
 | succ n ih =>
  obtain ⟨l, hl, hp⟩ := ih (fun i hi => h i (by omega))
  obtain ⟨r, hr⟩ := h n (by omega)
  refine ⟨l ++ [r], by simp [hl], fun i x hx => ?_⟩
  by_cases hi : i < n
  ·exact hp i x (by rw [← hx, List.getElem?_append_left (by omega)])
  ·rw [List.getElem?_append_right (by omega)] at hx
   have hi0 : i - l.length = 0 := by
    have := (List.getElem?_eq_some_iff.1 hx).1
    simp at this
    omega
   rw [hi0] at hx
   simp at hx
   subst hx
   have : i = n := by omega
   rw [this]; exact hr
section
variable {H : Type} {enc : TypeId × Value → H} {W : World}
theorem row_is {P : Program} {t e : TypeId} {α : Type} (R : World → α → List Value → Prop) (sz : Nat) (h0 : 0 < sz) (ht : P.underlying t = some (.slice e)) (hc : P.cellsOf e = sz)
  (helem : ∀ (fuel : Nat) (cs : List Value) (x : DataW H × List MemPlace), DataW.trod enc P W 0 (fun _ => true) true fuel e cs = some x → SizedD P e x.1 → ∃ a : α, cs.length = sz ∧ R W a cs)
  {fuel : Nat} {cs : List Value} {x : DataW H × List MemPlace} (h : DataW.trod enc P W 0 (fun _ => true) true fuel t cs = some x) (hsz : SizedD P t x.1) :
  ∃ (A : Option Addr) (l : List α) (c : Nat), cs = [.slice A l.length c] ∧ RdL R (fun _ => True) sz W A l ∧ l.length ≤ c ∧ c ≤ maxLen := by
 rcases Go.Deep.open_slice ht h with ⟨h0, _⟩ | ⟨a', len', cap', m, n, Dd, Pl, h0', _, hl, hm, hmm, hdx, hcell⟩
 ·exact ⟨none, [], 0, h0, fun i r h => by simp at h, Nat.le_refl _, by simp⟩
 ·simp only [if_true] at hmm
  rw [hdx] at hsz
  obtain ⟨l, hll, hlp⟩ := list_of len' (fun i (r : α) => ∃ cs', W.cells? 0 (a'.add (i * sz)) sz = some cs' ∧ cs'.length = sz ∧ R W r cs') (fun i hi => by
    obtain ⟨cs', h1, h2⟩ := hcell i (by omega)
    rw [hc] at h1
    obtain ⟨r, hr, ho⟩ := helem _ _ _ h2 (hsz.elem ht (List.mem_map.2 ⟨i, List.mem_range.2 hi, rfl⟩))
    exact ⟨r, cs', h1, hr, ho⟩)
  refine ⟨some a', l, cap', by rw [hll]; exact h0', ?_, by omega, hm⟩
  intro i r hr
  have hpos : 0 < l.length := by have := (List.getElem?_eq_some_iff.1 hr).1; omega
  obtain ⟨cs', h1, hl', ho⟩ := hlp i r hr
  obtain ⟨cs0, h10, hl0, _⟩ := hlp 0 l[0] (List.getElem?_eq_getElem hpos)
  obtain ⟨_, _, hcc⟩ := World.cells?_some h1
  obtain ⟨_, _, hc0⟩ := World.cells?_some h10
  have h00 := hc0 0 (by omega)
  rw [List.getElem?_eq_getElem (by omega)] at h00
  obtain ⟨b, off, spot⟩ := a'
  have hspot : spot = none := by
   have := World.cell?_spot h00
   simpa [Addr.add] using this
  subst hspot
  refine ⟨b, off, cs', rfl, trivial, hl', fun j v hv => ?_, ho⟩
  have hj : j < sz := by have := (List.getElem?_eq_some_iff.1 hv).1; omega
  have := hcc j hj
  rw [Go.WideShapes.add_plain, Go.WideShapes.add_plain] at this
  rw [this]
  exact hv
set_option maxRecDepth 100000 in
theorem win_cells {fuel : Nat} {cs : List Value} {x : DataW H × List MemPlace} (h : DataW.trod enc Tryz.prog W 0 (fun _ => true) true fuel 49 cs = some x) (hsz : SizedD Tryz.prog 49 x.1) : ∃ a : Win, cs.length = 2 ∧ winV W a cs := by
 obtain ⟨xs, n, _, hxe, hl, hxl, hx⟩ := DataW.trod_struct Tryz.underlying49 h
 rw [hxe] at hsz
 have hl' : cs.length = 2 := hl.trans (by kernel_rfl)
 have hxl' : xs.length = 2 := hxl
 have q0 : DataW.trod enc Tryz.prog W 0 (fun _ => true) true n 3 ((cs.drop 0).take (Tryz.prog.cellsOf 3)) = xs[0]? := hx 0 _ rfl
 rw [List.getElem?_eq_getElem (by omega), show Tryz.prog.cellsOf 3 = 1 by kernel_rfl] at q0
 have q1 : DataW.trod enc Tryz.prog W 0 (fun _ => true) true n 3 ((cs.drop 1).take (Tryz.prog.cellsOf 3)) = xs[1]? := hx 1 _ rfl
 rw [List.getElem?_eq_getElem (by omega), show Tryz.prog.cellsOf 3 = 1 by kernel_rfl] at q1
 obtain ⟨f0, g0, _, b0'⟩ := DataW.trod_int Tryz.underlying3 q0
 have b0 := _root_.Go.bounds_i64 b0'
 clear b0'
 have e0 := one_of_take g0
 obtain ⟨f1, g1, _, b1'⟩ := DataW.trod_int Tryz.underlying3 q1
 have b1 := _root_.Go.bounds_i64 b1'
 clear b1'
 have e1 := one_of_take g1
 match cs, hl', e0, e1 with
 | [w0, w1], _, e0, e1 =>
  simp only [List.getElem?_cons_zero, List.getElem?_cons_succ, Option.some.injEq, Nat.reduceAdd] at e0 e1
  subst e0 e1
  exact ⟨⟨f0, f1⟩, rfl, rfl, b0, b1⟩
set_option maxRecDepth 100000 in
theorem ch_cells {fuel : Nat} {cs : List Value} {x : DataW H × List MemPlace} (h : DataW.trod enc Tryz.prog W 0 (fun _ => true) true fuel 93 cs = some x) (hsz : SizedD Tryz.prog 93 x.1) : ∃ a : Ch, cs.length = 5 ∧ chV W a cs := by
 obtain ⟨xs, n, _, hxe, hl, hxl, hx⟩ := DataW.trod_struct Tryz.underlying93 h
 rw [hxe] at hsz
 have hl' : cs.length = 5 := hl.trans (by kernel_rfl)
 have hxl' : xs.length = 5 := hxl
 have q0 : DataW.trod enc Tryz.prog W 0 (fun _ => true) true n 3 ((cs.drop 0).take (Tryz.prog.cellsOf 3)) = xs[0]? := hx 0 _ rfl
 rw [List.getElem?_eq_getElem (by omega), show Tryz.prog.cellsOf 3 = 1 by kernel_rfl] at q0
 have q1 : DataW.trod enc Tryz.prog W 0 (fun _ => true) true n 3 ((cs.drop 1).take (Tryz.prog.cellsOf 3)) = xs[1]? := hx 1 _ rfl
 rw [List.getElem?_eq_getElem (by omega), show Tryz.prog.cellsOf 3 = 1 by kernel_rfl] at q1
 have q2 : DataW.trod enc Tryz.prog W 0 (fun _ => true) true n 3 ((cs.drop 2).take (Tryz.prog.cellsOf 3)) = xs[2]? := hx 2 _ rfl
 rw [List.getElem?_eq_getElem (by omega), show Tryz.prog.cellsOf 3 = 1 by kernel_rfl] at q2
 have q3 : DataW.trod enc Tryz.prog W 0 (fun _ => true) true n 3 ((cs.drop 3).take (Tryz.prog.cellsOf 3)) = xs[3]? := hx 3 _ rfl
 rw [List.getElem?_eq_getElem (by omega), show Tryz.prog.cellsOf 3 = 1 by kernel_rfl] at q3
 have q4 : DataW.trod enc Tryz.prog W 0 (fun _ => true) true n 3 ((cs.drop 4).take (Tryz.prog.cellsOf 3)) = xs[4]? := hx 4 _ rfl
 rw [List.getElem?_eq_getElem (by omega), show Tryz.prog.cellsOf 3 = 1 by kernel_rfl] at q4
 obtain ⟨f0, g0, _, b0'⟩ := DataW.trod_int Tryz.underlying3 q0
 have b0 := _root_.Go.bounds_i64 b0'
 clear b0'
 have e0 := one_of_take g0
 obtain ⟨f1, g1, _, b1'⟩ := DataW.trod_int Tryz.underlying3 q1
 have b1 := _root_.Go.bounds_i64 b1'
 clear b1'
 have e1 := one_of_take g1
 obtain ⟨f2, g2, _, b2'⟩ := DataW.trod_int Tryz.underlying3 q2
 have b2 := _root_.Go.bounds_i64 b2'
 clear b2'
 have e2 := one_of_take g2
 obtain ⟨f3, g3, _, b3'⟩ := DataW.trod_int Tryz.underlying3 q3
 have b3 := _root_.Go.bounds_i64 b3'
 clear b3'
 have e3 := one_of_take g3
 obtain ⟨f4, g4, _, b4'⟩ := DataW.trod_int Tryz.underlying3 q4
 have b4 := _root_.Go.bounds_i64 b4'
 clear b4'
 have e4 := one_of_take g4
 match cs, hl', e0, e1, e2, e3, e4 with
 | [w0, w1, w2, w3, w4], _, e0, e1, e2, e3, e4 =>
  simp only [List.getElem?_cons_zero, List.getElem?_cons_succ, Option.some.injEq, Nat.reduceAdd] at e0 e1 e2 e3 e4
  subst e0 e1 e2 e3 e4
  exact ⟨⟨f0, f1, f2, f3, f4⟩, rfl, rfl, b0, b1, b2, b3, b4⟩
set_option maxRecDepth 100000 in
theorem pn_cells {fuel : Nat} {cs : List Value} {x : DataW H × List MemPlace} (h : DataW.trod enc Tryz.prog W 0 (fun _ => true) true fuel 83 cs = some x) (hsz : SizedD Tryz.prog 83 x.1) : ∃ a : Pn, cs.length = 5 ∧ (pnV (fun _ => True)) W a cs := by
 obtain ⟨xs, n, _, hxe, hl, hxl, hx⟩ := DataW.trod_struct Tryz.underlying83 h
 rw [hxe] at hsz
 have hl' : cs.length = 5 := hl.trans (by kernel_rfl)
 have hxl' : xs.length = 4 := hxl
 have q0 : DataW.trod enc Tryz.prog W 0 (fun _ => true) true n 3 ((cs.drop 0).take (Tryz.prog.cellsOf 3)) = xs[0]? := hx 0 _ rfl
 rw [List.getElem?_eq_getElem (by omega), show Tryz.prog.cellsOf 3 = 1 by kernel_rfl] at q0
 have q1 : DataW.trod enc Tryz.prog W 0 (fun _ => true) true n 81 ((cs.drop 1).take (Tryz.prog.cellsOf 81)) = xs[1]? := hx 1 _ rfl
 rw [List.getElem?_eq_getElem (by omega), show Tryz.prog.cellsOf 81 = 2 by kernel_rfl] at q1
 have q2 : DataW.trod enc Tryz.prog W 0 (fun _ => true) true n 4 ((cs.drop 3).take (Tryz.prog.cellsOf 4)) = xs[2]? := hx 2 _ rfl
 rw [List.getElem?_eq_getElem (by omega), show Tryz.prog.cellsOf 4 = 1 by kernel_rfl] at q2
 have q3 : DataW.trod enc Tryz.prog W 0 (fun _ => true) true n 50 ((cs.drop 4).take (Tryz.prog.cellsOf 50)) = xs[3]? := hx 3 _ rfl
 rw [List.getElem?_eq_getElem (by omega), show Tryz.prog.cellsOf 50 = 1 by kernel_rfl] at q3
 obtain ⟨f0, g0, _, b0'⟩ := DataW.trod_int Tryz.underlying3 q0
 have b0 := _root_.Go.bounds_i64 b0'
 clear b0'
 have e0 := one_of_take g0
 obtain ⟨ys, n2, _, _, hyl, hyl2, hy⟩ := DataW.trod_struct Tryz.underlying81 q1
 have hyl' : ys.length = 2 := hyl2
 have qa : DataW.trod enc Tryz.prog W 0 (fun _ => true) true n2 3 ((((cs.drop 1).take 2).drop 0).take (Tryz.prog.cellsOf 3)) = ys[0]? := hy 0 _ rfl
 have qb : DataW.trod enc Tryz.prog W 0 (fun _ => true) true n2 3 ((((cs.drop 1).take 2).drop 1).take (Tryz.prog.cellsOf 3)) = ys[1]? := hy 1 _ rfl
 rw [List.getElem?_eq_getElem (by omega), show Tryz.prog.cellsOf 3 = 1 by kernel_rfl] at qa qb
 obtain ⟨fa, ga, _, ba⟩ := DataW.trod_int Tryz.underlying3 qa
 obtain ⟨fb, gb, _, bb⟩ := DataW.trod_int Tryz.underlying3 qb
 have ba := _root_.Go.bounds_i64 ba
 have bb := _root_.Go.bounds_i64 bb
 have ea := one_of_take ga
 have eb := one_of_take gb
 rw [List.getElem?_take_of_lt (by omega), List.getElem?_drop] at ea eb
 obtain ⟨f2, g2, _⟩ := DataW.trod_bool Tryz.underlying4 q2
 have e2 := one_of_take g2
 obtain ⟨B3, f3, c3, g3, r3, u3, v3, s3'⟩ := bytes_is Tryz.underlying50 Tryz.underlying5 (by kernel_rfl) q3
 have s3 := s3' (by kernel_rfl) (hsz.field Tryz.underlying83 (i := 3) rfl (by rw [List.getElem?_map, List.getElem?_eq_getElem (by omega)]; rfl))
 clear s3'
 have e3 := one_of_take g3
 match cs, hl', e0, ea, eb, e2, e3 with
 | [w0, w1, w2, w3, w4], _, e0, ea, eb, e2, e3 =>
  simp only [List.getElem?_cons_zero, List.getElem?_cons_succ, Option.some.injEq, Nat.reduceAdd] at e0 ea eb e2 e3
  subst e0 ea eb e2 e3
  exact ⟨⟨f0, fa, fb, f2, f3⟩, rfl, _, rfl, ⟨B3, c3, rfl, u3, v3, r3, fun _ _ _ _ => trivial⟩, ⟨b0, ba, bb⟩, Nat.le_trans u3 s3⟩
set_option maxRecDepth 100000 in
theorem actk_cells {fuel : Nat} {cs : List Value} {x : DataW H × List MemPlace} (h : DataW.trod enc Tryz.prog W 0 (fun _ => true) true fuel 52 cs = some x) (hsz : SizedD Tryz.prog 52 x.1) : ∃ a : Ak, cs.length = 4 ∧ (actV (fun _ => True)) W a cs := by
 obtain ⟨xs, n, _, hxe, hl, hxl, hx⟩ := DataW.trod_struct Tryz.underlying52 h
 rw [hxe] at hsz
 have hl' : cs.length = 4 := hl.trans (by kernel_rfl)
 have hxl' : xs.length = 4 := hxl
 have q0 : DataW.trod enc Tryz.prog W 0 (fun _ => true) true n 5 ((cs.drop 0).take (Tryz.prog.cellsOf 5)) = xs[0]? := hx 0 _ rfl
 rw [List.getElem?_eq_getElem (by omega), show Tryz.prog.cellsOf 5 = 1 by kernel_rfl] at q0
 have q1 : DataW.trod enc Tryz.prog W 0 (fun _ => true) true n 3 ((cs.drop 1).take (Tryz.prog.cellsOf 3)) = xs[1]? := hx 1 _ rfl
 rw [List.getElem?_eq_getElem (by omega), show Tryz.prog.cellsOf 3 = 1 by kernel_rfl] at q1
 have q2 : DataW.trod enc Tryz.prog W 0 (fun _ => true) true n 3 ((cs.drop 2).take (Tryz.prog.cellsOf 3)) = xs[2]? := hx 2 _ rfl
 rw [List.getElem?_eq_getElem (by omega), show Tryz.prog.cellsOf 3 = 1 by kernel_rfl] at q2
 have q3 : DataW.trod enc Tryz.prog W 0 (fun _ => true) true n 50 ((cs.drop 3).take (Tryz.prog.cellsOf 50)) = xs[3]? := hx 3 _ rfl
 rw [List.getElem?_eq_getElem (by omega), show Tryz.prog.cellsOf 50 = 1 by kernel_rfl] at q3
 obtain ⟨z0, g0, _, b0'⟩ := DataW.trod_int Tryz.underlying5 q0
 obtain ⟨f0, rfl, b0⟩ := u8_nat b0'
 clear b0'
 have e0 := one_of_take g0
 obtain ⟨f1, g1, _, b1'⟩ := DataW.trod_int Tryz.underlying3 q1
 have b1 := _root_.Go.bounds_i64 b1'
 clear b1'
 have e1 := one_of_take g1
 obtain ⟨f2, g2, _, b2'⟩ := DataW.trod_int Tryz.underlying3 q2
 have b2 := _root_.Go.bounds_i64 b2'
 clear b2'
 have e2 := one_of_take g2
 obtain ⟨B3, f3, c3, g3, r3, u3, v3, s3'⟩ := bytes_is Tryz.underlying50 Tryz.underlying5 (by kernel_rfl) q3
 have s3 := s3' (by kernel_rfl) (hsz.field Tryz.underlying52 (i := 3) rfl (by rw [List.getElem?_map, List.getElem?_eq_getElem (by omega)]; rfl))
 clear s3'
 have e3 := one_of_take g3
 match cs, hl', e0, e1, e2, e3 with
 | [w0, w1, w2, w3], _, e0, e1, e2, e3 =>
  simp only [List.getElem?_cons_zero, List.getElem?_cons_succ, Option.some.injEq, Nat.reduceAdd] at e0 e1 e2 e3
  subst e0 e1 e2 e3
  exact ⟨⟨f0, f1, f2, f3⟩, rfl, _, rfl, ⟨B3, c3, rfl, u3, v3, r3, fun _ _ _ _ => trivial⟩, b0, b1, b2⟩
theorem msg_cells {fuel : Nat} {cs : List Value} {x : DataW H × List MemPlace} (h : DataW.trod enc Tryz.prog W 0 (fun _ => true) true fuel 50 cs = some x) (hsz : SizedD Tryz.prog 50 x.1) : ∃ a : List UInt8, cs.length = 1 ∧ (msgV (fun _ => True)) W a cs := by
 obtain ⟨B, l, c, rfl, r, u, v, s⟩ := bytes_is Tryz.underlying50 Tryz.underlying5 (by kernel_rfl) h
 have s := s (by kernel_rfl) hsz
 exact ⟨l, rfl, _, rfl, ⟨B, c, rfl, u, v, r, fun _ _ _ _ => trivial⟩, Nat.le_trans u s⟩
set_option maxRecDepth 100000 in
theorem open_actk {r0 : Reach} {b0 : Nat} {v : Value} {d : DataW H} {ps : List MemPlace} (hval : Value.okWide Tryz.prog W r0 b0 31 v) (h : DataW.Trod enc Tryz.prog W 0 (fun _ => true) true 31 v d ps) (hsz : SizedD Tryz.prog 31 d) :
  ∃ (B : Option Addr) (l : List Ak) (c : Nat), v = .slice B l.length c ∧ RdL (actV (fun _ => True)) (fun _ => True) 4 W B l ∧ l.length ≤ c ∧ c ≤ maxLen := by
 obtain ⟨a, len, cap, rfl⟩ := okWide_slice Tryz.underlying31 hval
 obtain ⟨fuel, hf⟩ := h
 obtain ⟨A, l, c, h1, h2, h3, h4⟩ := row_is (actV (fun _ => True)) 4 (by decide) Tryz.underlying31 (by kernel_rfl) (fun _ _ _ => actk_cells) hf hsz
 simp only [Value.cells, List.cons.injEq, and_true] at h1
 exact ⟨A, l, c, h1, h2, h3, h4⟩
set_option maxRecDepth 100000 in
theorem open_msgs {r0 : Reach} {b0 : Nat} {v : Value} {d : DataW H} {ps : List MemPlace} (hval : Value.okWide Tryz.prog W r0 b0 79 v) (h : DataW.Trod enc Tryz.prog W 0 (fun _ => true) true 79 v d ps) (hsz : SizedD Tryz.prog 79 d) :
  ∃ (B : Option Addr) (l : List (List UInt8)) (c : Nat), v = .slice B l.length c ∧ RdL (msgV (fun _ => True)) (fun _ => True) 1 W B l ∧ l.length ≤ c ∧ c ≤ maxLen := by
 obtain ⟨a, len, cap, rfl⟩ := okWide_slice Tryz.underlying79 hval
 obtain ⟨fuel, hf⟩ := h
 obtain ⟨A, l, c, h1, h2, h3, h4⟩ := row_is (msgV (fun _ => True)) 1 (by decide) Tryz.underlying79 (by kernel_rfl) (fun _ _ _ => msg_cells) hf hsz
 simp only [Value.cells, List.cons.injEq, and_true] at h1
 exact ⟨A, l, c, h1, h2, h3, h4⟩
set_option maxRecDepth 100000 in
theorem open_cfg {r0 : Reach} {b0 : Nat} {v : Value} {d : DataW H} {ps : List MemPlace} (hval : Value.okWide Tryz.prog W r0 b0 26 v) (h : DataW.Trod enc Tryz.prog W 0 (fun _ => true) true 26 v d ps) (hsz : SizedD Tryz.prog 26 d) :
  ∃ (c : Cfg) (A1 A2 A3 : Option Addr) (c1 c2 c3 : Nat), v = .agg #[.slice A1 c.ws.length c1, .slice A2 c.ps.length c2, .slice A3 c.cs.length c3] ∧ CfgR (fun _ => True) W c A1 A2 A3 c1 c2 c3 := by
 obtain ⟨cs, rfl, _⟩ := okWide_struct Tryz.underlying26 hval
 obtain ⟨fuel, hf⟩ := h
 obtain ⟨xs, n, _, hxe, hl, hxl, hx⟩ := DataW.trod_struct Tryz.underlying26 hf
 have hxe := (Prod.mk.inj hxe).1
 rw [hxe] at hsz
 have hl' : cs.toList.length = 3 := hl.trans (by kernel_rfl)
 have hxl' : xs.length = 3 := hxl
 have q0 : DataW.trod enc Tryz.prog W 0 (fun _ => true) true n 22 ((cs.toList.drop 0).take (Tryz.prog.cellsOf 22)) = xs[0]? := hx 0 _ rfl
 rw [List.getElem?_eq_getElem (by omega), show Tryz.prog.cellsOf 22 = 1 by kernel_rfl] at q0
 obtain ⟨A1, l1, c1, g0, r0, u0, v0⟩ := row_is winV 2 (by decide) Tryz.underlying22 (by kernel_rfl) (fun _ _ _ => win_cells) q0 (hsz.field Tryz.underlying26 (i := 0) rfl (by rw [List.getElem?_map, List.getElem?_eq_getElem (by omega)]; rfl))
 have e0 := one_of_take g0
 have q1 : DataW.trod enc Tryz.prog W 0 (fun _ => true) true n 23 ((cs.toList.drop 1).take (Tryz.prog.cellsOf 23)) = xs[1]? := hx 1 _ rfl
 rw [List.getElem?_eq_getElem (by omega), show Tryz.prog.cellsOf 23 = 1 by kernel_rfl] at q1
 obtain ⟨A2, l2, c2, g1, r1, u1, v1⟩ := row_is (pnV (fun _ => True)) 5 (by decide) Tryz.underlying23 (by kernel_rfl) (fun _ _ _ => pn_cells) q1 (hsz.field Tryz.underlying26 (i := 1) rfl (by rw [List.getElem?_map, List.getElem?_eq_getElem (by omega)]; rfl))
 have e1 := one_of_take g1
 have q2 : DataW.trod enc Tryz.prog W 0 (fun _ => true) true n 24 ((cs.toList.drop 2).take (Tryz.prog.cellsOf 24)) = xs[2]? := hx 2 _ rfl
 rw [List.getElem?_eq_getElem (by omega), show Tryz.prog.cellsOf 24 = 1 by kernel_rfl] at q2
 obtain ⟨A3, l3, c3, g2, r2, u2, v2⟩ := row_is chV 5 (by decide) Tryz.underlying24 (by kernel_rfl) (fun _ _ _ => ch_cells) q2 (hsz.field Tryz.underlying26 (i := 2) rfl (by rw [List.getElem?_map, List.getElem?_eq_getElem (by omega)]; rfl))
 have e2 := one_of_take g2
 refine ⟨⟨l1, l2, l3⟩, A1, A2, A3, c1, c2, c3, ?_, r0, r1, r2, ⟨u0, v0⟩, ⟨u1, v1⟩, ⟨u2, v2⟩⟩
 congr 1
 refine Array.toList_inj.1 ?_
 match hcs : cs.toList, hl', e0, e1, e2 with
 | [a, b, c], _, e0, e1, e2 =>
  simp only [List.getElem?_cons_zero, List.getElem?_cons_succ, Option.some.injEq] at e0 e1 e2
  subst e0 e1 e2
  rfl
end
end
section
open Go.ChangeShapes Go.WideShapes Go.ChangeAt Go.RowKit
section
variable {H : Type} {enc : TypeId × Value → H}
theorem returnsIn_cardS {a : Assume} {C : Checked} {os : Os} {f : FuncId} {fn : Func} {s : ChangeSpec} {conds : List PathCond} {apart fresh handsOn again : Bool} {X : World → Array Value → Prop}
  (hX : ∀ (w w' : World) (args : Array Value), w.heap = w'.heap → X w args → X w' args)
  (own : ownKnob C.prog.godebug = none) (started : os.Started) (noInit : C.prog.inits.idxOf? f = none) (hfn : C.prog.funcs[f]? = some fn)
  (witness : ∃ (w : World) (tape : Tape) (i : Input), w.os = os ∧ (w.forCall tape i).Shaped C.prog ∧ i.vars = [] ∧ Input.okWide C.prog (w.forCall tape i) .any w.heap.size f i ∧
    ((s.pre enc C.prog fn conds apart (w.forCall tape i).memory i.args ∧ X (w.forCall tape i).memory i.args) ∧ sizedMet enc C.prog fn (OpenSpec.ofChange s) apart (w.forCall tape i).memory i.args) ∧ a.holds C.prog (lone (Frame.enter C.prog f i.args .normal) [] (w.forCall tape i)))
  (contract : ∀ (W : World) (base : Nat) (args : Array Value) (ds gs : List (DataW H)) (before : List MemPlace),
    (∀ (j : Nat) t v, fn.params[j]? = some t → args[j]? = some v → Value.okWide C.prog W .any base t v) →
    DataW.Whole enc C.prog fn.params.toList s.vars apart W args.toList ds gs before → W.ShapedOpen C.prog → X W args →
    (DataW.weightsEach C.prog (fn.params.toList ++ (OpenSpec.ofChange s).bare.plain.varTypes C.prog) (ds ++ gs)).all (· ≤ reachBytes) = true →
    Calls C.prog f args W fun e W' => ∃ v, e = .returned v ∧ s.post enc C.prog fn apart fresh handsOn again W args v W') :
  ReturnsInHanded a C os f .any (fun w args => (s.pre enc C.prog fn conds apart w args ∧ X w args) ∧ sizedMet enc C.prog fn (OpenSpec.ofChange s) apart w args) (s.post enc C.prog fn apart fresh handsOn again) := by
 refine returnsInHanded_of_calls own started noInit witness ?_
 intro w tape i _ hsh _ hok hpre hholds
 obtain ⟨_, _, _, fn', hfn', _, _, _, _, hval⟩ := hok
 have e : fn' = fn := Option.some.inj (hfn'.symm.trans hfn)
 subst e
 obtain ⟨⟨_, hx⟩, _, ds, gs, before, hw, hz⟩ := hpre
 refine (contract (w.forCall tape i) w.heap.size i.args ds gs before hval (DataW.Whole.of_heap (w' := w.forCall tape i) (by rfl) hw) hsh (hX _ _ _ (by rfl) hx) hz).mono fun e W' ⟨v, he, hp⟩ => ?_
 subst he
 exact ChangeSpec.post_blind hp
end
end
end Go.Proofs.YtmnaleaghfbclaaGreatDoor
