/- KernelOwn, part 3 of 4: what it needs beside the merged texts of KernelTime (from my texts XOwW, XPost, XOpen, XSized). -/
import Derived.Test.YtmnaleaghfbclaaGreatDoorMgKernelTimeA
import Derived.Test.YtmnaleaghfbclaaGreatDoorMgKernelTimeB
import Derived.Test.YtmnaleaghfbclaaGreatDoorMgKernelTimeC
import Derived.Test.YtmnaleaghfbclaaGreatDoorMgKernelTimeD
import Derived.Test.YtmnaleaghfbclaaGreatDoorMgKernelTimeE
import Derived.Test.YtmnaleaghfbclaaGreatDoorMgKernelTimeF
import Derived.Test.YtmnaleaghfbclaaGreatDoorMgKernelTimeG
import Derived.Test.YtmnaleaghfbclaaGreatDoorMgKernelTimeH
import Derived.Test.YtmnaleaghfbclaaGreatDoorMgKernelTimeI
import Derived.Test.YtmnaleaghfbclaaGreatDoorMgKernelTimeJ
import Derived.Test.YtmnaleaghfbclaaGreatDoorMgKernelTimeK
import Derived.Test.YtmnaleaghfbclaaGreatDoorMgKernelTimeL
import Derived.Test.YtmnaleaghfbclaaGreatDoorMgKernelTimeM
import Derived.Test.YtmnaleaghfbclaaGreatDoorMgKernelTimeN
import Derived.Test.YtmnaleaghfbclaaGreatDoorMgKernelTimeO
import Derived.Test.YtmnaleaghfbclaaGreatDoorMgKernelTimeP
import Derived.Test.YtmnaleaghfbclaaGreatDoorMgKernelTimeQ
import Derived.Test.YtmnaleaghfbclaaGreatDoorMgKernelTimeS
import Derived.Test.YtmnaleaghfbclaaGreatDoorMgKernelTimeShelf
import Derived.Test.YtmnaleaghfbclaaGreatDoorMgKernelTimeT
import Derived.Test.YtmnaleaghfbclaaGreatDoorMgKernelTimeU
import Derived.Test.YtmnaleaghfbclaaGreatDoorMgKernelTimeV
import Derived.Test.YtmnaleaghfbclaaGreatDoorMgKernelTimeW
import Derived.Test.YtmnaleaghfbclaaGreatDoorMgKernelTimeX
import Derived.Test.YtmnaleaghfbclaaGreatDoorMgKernelTimeY
import Derived.Test.YtmnaleaghfbclaaGreatDoorMgKernelTimeZ
import Derived.Test.YtmnaleaghfbclaaGreatDoorMgKernelOwnA
import Derived.Test.YtmnaleaghfbclaaGreatDoorMgKernelOwnB
import Derived.ProofKit
import Derived.WalkKit
import Derived.OpenShut
import Derived.ReadAgain
import Derived.SizedLaws
namespace Go.Proofs.YtmnaleaghfbclaaGreatDoor
set_option linter.unusedVariables false
set_option linter.unusedSimpArgs false
set_option maxHeartbeats 8000000
section
open Go.RowKit
theorem next_c (k : Kn) : k.next.c = k.c := by
 unfold Kn.next
 split <;> rfl
theorem ticked_c (k : Kn) : k.ticked.c = k.c := by
 unfold Kn.ticked
 rw [next_c, (turn_same k).1]
structure OwnW (W1 W : World) (c : Cfg) (a : KAt) (k : Kn) : Prop where
 ker : KerB a.own W k a
 good : k.Good
 kc : k.c = c
 oa : ∀ x, a.own x → W1.heap.size ≤ x
 chg : Chg Non W1 W
section
variable {W1 W W' : World} {c : Cfg} {a : KAt} {k k' : Kn}
theorem OwnW.non (h : OwnW W1 W c a k) (hg : Chg Non W W') : OwnW W1 W' c a k := ⟨h.ker.non hg, h.good, h.kc, h.oa, h.chg.then_non hg⟩
theorem OwnW.set (h : OwnW W1 W c a k) (hk : KerB a.own W' k' a) (hd : k'.Good) (hc : k'.c = k.c) (hg : Chg a.own W W') : OwnW W1 W' c a k' := ⟨hk, hd, hc.trans h.kc, h.oa, h.chg.then_new hg h.oa⟩
theorem OwnW.lt (h : OwnW W1 W c a k) : ∀ b, a.own b → b < W.heap.size := h.ker.bound
end
def WaitsB (W : World) (gw : Nat) (k : Kn) (id : Nat) : Prop :=
 ∃ cs : Array Value, W.heap[gw]? = some (.cells cs 91 (0, 0)) ∧ cs.size = 7 ∧ ∀ i : Nat, 1 ≤ i → i < id → cs[i]? = some (.int .i64 ((k.waits i).length : Nat))
theorem WaitsB.set {W : World} {gw : Nat} {k : Kn} {id : Nat} (h : WaitsB W gw k id) (hid : id < 7) : WaitsB (W.setCell ⟨gw, id, none⟩ (.int .i64 ((k.waits id).length : Nat))) gw k (id + 1) := by
 obtain ⟨cs, h1, h2, h3⟩ := h
 refine ⟨_, blk_set id _ h1, by simp [h2], fun i hi1 hi2 => ?_⟩
 by_cases he : id = i
 ·subst he
  rw [Array.getElem?_setIfInBounds_self_of_lt (by omega)]
 ·rw [Array.getElem?_setIfInBounds_ne he]
  exact h3 i hi1 (by omega)
theorem WaitsB.keep {S : Nat → Prop} {W W' : World} {gw : Nat} {k : Kn} {id : Nat} (h : WaitsB W gw k id) (hg : Chg S W W') (hn : ¬ S gw) : WaitsB W' gw k id := by
 obtain ⟨cs, h1, h2, h3⟩ := h
 exact ⟨cs, blk_keep h1 hg hn, h2, h3⟩
theorem WaitsB.at_ {W : World} {gw : Nat} {k : Kn} {id : Nat} (h : WaitsB W gw k id) (i : Nat) (h1 : 1 ≤ i) (h2 : i < id) : W.cell? ⟨gw, i, none⟩ = some (.int .i64 ((k.waits i).length : Nat)) := by
 obtain ⟨cs, hb, _, h3⟩ := h
 exact blk_cell hb i (h3 i h1 h2)
theorem WaitsB.here {W : World} {gw : Nat} {k : Kn} {id : Nat} (h : WaitsB W gw k id) (hid : id < 7) : ∃ v, W.cell? ⟨gw, id, none⟩ = some v ∧ W.frozen? ⟨gw, id, none⟩ = false := by
 obtain ⟨cs, hb, h2, h3⟩ := h
 exact ⟨cs[id], blk_cell hb id (Array.getElem?_eq_getElem (by omega)), blk_free hb id⟩
set_option maxRecDepth 100000 in
theorem KernelOwn_ok (I : Nat → Prop) (w : World) (hE : Env w) (c : Cfg) (A1 A2 A3 : Option Addr) (c1 c2 c3 : Nat) (hc : CfgR I w c A1 A2 A3 c1 c2 c3) (l : List Ak) (B : Option Addr) (cl : Nat) (hl : RdL (actV I) I 4 w B l) (hlc : l.length ≤ cl) (hlm : cl ≤ maxLen) (ver : Int) (hv : I64 ver) :
  Calls Tryz.prog 6 #[.agg #[.slice A1 c.ws.length c1, .slice A2 c.ps.length c2, .slice A3 c.cs.length c3], .slice B l.length cl, .int .i64 ver] w fun e w' => e = .returned (.bool true) ∧ Chg Non w w' := by
 have hg0 : Chg Non w (w.alloc (.cells #[.slice A1 c.ws.length c1, .slice A2 c.ps.length c2, .slice A3 c.cs.length c3] 26)) := (Chg.refl Non w).alloc _
 have HE := Lib.hid (hE.non hg0)
 have HC := Lib.hid (hc.non hg0)
 have HL := Lib.hid (hl.non hg0 (fun a vs h => actV_non _ _ _ _ hg0 h))
 have hB1 := blk_new w (.cells #[.slice A1 c.ws.length c1, .slice A2 c.ps.length c2, .slice A3 c.cs.length c3] 26)
 have HG0 := Lib.hid hg0
 have hlt1 : w.heap.size < (w.alloc (.cells #[.slice A1 c.ws.length c1, .slice A2 c.ps.length c2, .slice A3 c.cs.length c3] 26)).heap.size := by simp
 clear hE hc hl hg0
 go_enter Tryz.func6, Tryz.ntmps6
 go_wp2_with fail
 obtain ⟨W1, hW1⟩ : ∃ W1, w.alloc (.cells #[.slice A1 c.ws.length c1, .slice A2 c.ps.length c2, .slice A3 c.cs.length c3] 26) = W1 := ⟨_, rfl⟩
 rw [hW1] at HE HC HL HG0 hB1 hlt1 ⊢
 clear hW1
 have HB1 := Lib.hid hB1
 clear hB1
 refine (great11_ok I W1 c A1 A2 A3 c1 c2 c3 HC.out).mono ?_
 rintro e u1 ⟨r1, rfl, hr1, hg1⟩
 have HG1 := Lib.hid hg1
 clear hg1
 cases r1 with
 | true =>
  go_wp2_with fail
  refine (awake_ok _ (HE.out.non HG1.out)).mono ?_
  rintro e v ⟨rfl, hg⟩
  go_wp2_with fail
  go_ret
  exact ⟨rfl, (HG0.out.then_non HG1.out).then_non hg⟩
 | false =>
  obtain ⟨hcw, hcp, hcc⟩ := hr1 rfl
  clear hr1
  go_wp2_with fail
  refine (great23_ok I u1 B l cl (HL.out.non HG1.out (fun a vs h => actV_non _ _ _ _ HG1.out h)) hlc hlm).mono ?_
  rintro e u2 ⟨r2, rfl, hr2, hg2⟩
  have HG2 := Lib.hid (HG1.out.then_non hg2)
  clear hg2
  cases r2 with
  | true =>
   go_wp2_with fail
   refine (awake_ok _ (HE.out.non HG2.out)).mono ?_
   rintro e v ⟨rfl, hg⟩
   go_wp2_with fail
   go_ret
   exact ⟨rfl, (HG0.out.then_non HG2.out).then_non hg⟩
  | false =>
   obtain ⟨hll, hlb⟩ := hr2 rfl
   clear hr2
   have HLB := Lib.hid hlb
   clear hlb
   have HB2 := Lib.hid (blk_keep HB1.out HG2.out (fun e => e))
   have q0 := blk_cell HB2.out 0 (v := .slice A1 c.ws.length c1) rfl
   have q1 := blk_cell HB2.out 1 (v := .slice A2 c.ps.length c2) rfl
   have q2 := blk_cell HB2.out 2 (v := .slice A3 c.cs.length c3) rfl
   have hlt2 := Nat.lt_of_lt_of_le hlt1 HG2.out.size
   go_wp2_with fail
   refine (fits_ok I u2 c A1 A2 A3 c1 c2 c3 (HC.out.non HG2.out) (by omega)).mono ?_
   rintro e u3 ⟨rfl, hg3⟩
   have HG3 := Lib.hid (HG2.out.then_non hg3)
   have HB3 := Lib.hid (blk_keep HB2.out hg3 (fun e => e))
   have hlt3 := Nat.lt_of_lt_of_le hlt2 hg3.size
   clear hg3 q0 q1 q2
   by_cases hfit : fitsB c = true
   rotate_left
   ·have hfit' : fitsB c = false := by simpa using hfit
    rw [hfit']
    clear hfit hfit'
    go_wp2_with fail
    refine (awake_ok _ (HE.out.non HG3.out)).mono ?_
    rintro e v ⟨rfl, hg⟩
    go_wp2_with fail
    go_ret
    exact ⟨rfl, (HG0.out.then_non HG3.out).then_non hg⟩
   rw [hfit]
   have HF := Lib.hid hfit
   have HMd := Lib.hid (made_ok I u3 c ver A1 A2 A3 c1 c2 c3 (HC.out.non HG3.out) hfit (fresh_is hfit) hv)
   clear hfit
   have q0 := blk_cell HB3.out 0 (v := .slice A1 c.ws.length c1) rfl
   have q1 := blk_cell HB3.out 1 (v := .slice A2 c.ps.length c2) rfl
   have q2 := blk_cell HB3.out 2 (v := .slice A3 c.cs.length c3) rfl
   go_wp2_with fail
   refine HMd.out.mono ?_
   rintro e u4 ⟨a, rfl, hk4, ho4, hg4⟩
   have HT : Hid (OwnW u3 u4 c a (kFresh c ver)) := Lib.hid ⟨hk4, fresh_good HF.out ver, rfl, ho4, hg4⟩
   have HL3 := Lib.hid (HL.out.non HG3.out (fun a vs h => actV_non _ _ _ _ HG3.out h))
   have HC3 := Lib.hid (HC.out.non HG3.out)
   have HE3 := Lib.hid (HE.out.non HG3.out)
   have HGw := Lib.hid (HG0.out.then_non HG3.out)
   obtain ⟨g0, hg0⟩ : ∃ g, w.heap.size = g := ⟨_, rfl⟩
   rw [hg0] at HB3 hlt3 ⊢
   clear hk4 ho4 hg4 q0 q1 q2 HMd HL HC HE HB1 HB2 HG1 HG2 HG3 hlt1 hlt2 hg0
   go_wp2_with fail
   go_loopw [8] (fun iv wr => ∃ i : Nat, i ≤ l.length ∧ iv = .int .i64 i ∧ Hid (∃ k, OwnW u3 wr c a k)) (fun iv _ => l.length - (intOf iv).toNat)
   case atStart => exact ⟨0, Nat.zero_le _, rfl, Lib.hid ⟨_, HT.out⟩⟩
   case round =>
    clear HT
    obtain ⟨i, hi, rfl, HTS⟩ := hrel
    obtain ⟨k, hT⟩ := HTS.out
    have HT := Lib.hid hT
    clear hT HTS
    by_cases hil : i < l.length
    ·have hid : decide ((i : Int) < (l.length : Int)) = true := by simpa using hil
     have hii : (i : Int) < (l.length : Int) := by omega
     obtain ⟨x, hx⟩ : ∃ x, l[i]? = some x := ⟨_, List.getElem?_eq_getElem hil⟩
     obtain ⟨bx, ox, mx, rfl, x0, x1, x2, x3, hbv, hw8, hxp, hxl, hbx, _⟩ := act_at HL3.out (Chg.refl Non u3) hx
     have x0 := HT.out.chg.cell_some x0 (fun e => e)
     have x1 := HT.out.chg.cell_some x1 (fun e => e)
     have x2 := HT.out.chg.cell_some x2 (fun e => e)
     have x3 := HT.out.chg.cell_some x3 (fun e => e)
     have hbo : ¬ a.own bx := fun e => by have := HT.out.oa _ e; omega
     have h600 := HLB.out x (List.mem_of_getElem? hx)
     obtain ⟨xw, xp, xl, xb⟩ := x
     simp only at x0 x1 x2 x3 hbv hw8 hxp hxl h600
     obtain ⟨Ax, cx, rfl, hcx1, hcx2, hRx, _⟩ := hbv
     have HRX := Lib.hid (hRx.non HT.out.chg)
     have hwa := waits_le HT.out.good.il xp
     clear hx hRx hbx
     by_cases hw0 : xw % 8 = 0
     ·have e0 : ((xw : Int) % 8 == 0) = true := by rw [beq_iff_eq]; omega
      go_wp2_with fail
      have HKd := Lib.hid (HT.out.ker.non ((Chg.refl Non wr).drew))
      have HRd := Lib.hid (HRX.out.non ((Chg.refl Non wr).drew))
      refine wp_region_held_drew (S := fun W => Chg a.own wr.drew W) (by kernel_rfl) (Chg.refl _ _) (fun hHeld => ?_)
      clear hHeld
      refine hp 0 50 (.pointer (some ⟨a.p, 0, none⟩)) rfl (Chg.refl _ _) ?_
      refine hp 1 51 (.slice (some ⟨bx, ox, none⟩) l.length cl) rfl (Chg.refl _ _) ?_
      refine hp 2 52 (.int .i64 (i : Nat)) rfl (Chg.refl _ _) ?_
      refine hp 3 53 (.pointer (some ⟨bx, ox + i * 4, none⟩)) rfl (Chg.refl _ _) ?_
      refine hp 4 54 (.pointer (some ⟨bx, ox + i * 4 + 1, none⟩)) rfl (Chg.refl _ _) ?_
      refine hp 5 55 (.int .i64 xp) rfl (Chg.refl _ _) ?_ (he := (fun W hW => by have hc := hW.cell_some x1 (fun e => hbo e); go_simp))
      refine hp 6 56 (.slice (some ⟨bx, ox, none⟩) l.length cl) rfl (Chg.refl _ _) ?_
      refine hp 7 57 (.int .i64 (i : Nat)) rfl (Chg.refl _ _) ?_
      refine hp 8 58 (.pointer (some ⟨bx, ox + i * 4, none⟩)) rfl (Chg.refl _ _) ?_
      refine hp 9 59 (.pointer (some ⟨bx, ox + i * 4 + 3, none⟩)) rfl (Chg.refl _ _) ?_
      refine hp 10 60 (.slice Ax xb.length cx) rfl (Chg.refl _ _) ?_ (he := (fun W hW => by have hc := hW.cell_some x3 (fun e => hbo e); go_simp))
      refine h_one 11 (by kernel_rfl) rfl (by kernel_rfl) ?_
      intro K hK
      go_simp
      refine (input_ok a.own wr.drew k a xp Ax xb cx HKd.out (fun b e => HKd.out.bound b e) hxp hwa HRd.out (by omega)).mono ?_
      rintro e v7 ⟨rfl, hk7, hg7⟩
      have HTn : Hid (OwnW u3 v7 c a (k.input xp xb)) := Lib.hid ((HT.out.non ((Chg.refl Non wr).drew)).set hk7 (HT.out.good.input xp xb) (input_same k xp xb).1 hg7)
      refine hK.out _ _ hg7 (fun _ => ?_)
      clear hK K hk7 hg7
      try simp only [Act.put, sA, sB, sC]
      refine wpAnyH_done (by kernel_rfl) ?_ _
      go_wp2_with fail
      exact ⟨⟨i + 1, by omega, by simp, Lib.hid ⟨_, HTn.out⟩⟩, by simp [intOf]; omega⟩
     by_cases hw1 : xw % 8 = 1
     ·have e0 : ((xw : Int) % 8 == 0) = false := by rw [beq_eq_false_iff_ne]; omega
      have e1 : ((xw : Int) % 8 == 1) = true := by rw [beq_iff_eq]; omega
      go_wp2_with fail
      have HKd := Lib.hid (HT.out.ker.non ((Chg.refl Non wr).drew))
      have HRd := Lib.hid (HRX.out.non ((Chg.refl Non wr).drew))
      refine wp_region_held_drew (S := fun W => Chg a.own wr.drew W) (by kernel_rfl) (Chg.refl _ _) (fun hHeld => ?_)
      clear hHeld
      refine hp 0 64 (.pointer (some ⟨a.p, 0, none⟩)) rfl (Chg.refl _ _) ?_
      refine hp 1 65 (.slice (some ⟨bx, ox, none⟩) l.length cl) rfl (Chg.refl _ _) ?_
      refine hp 2 66 (.int .i64 (i : Nat)) rfl (Chg.refl _ _) ?_
      refine hp 3 67 (.pointer (some ⟨bx, ox + i * 4, none⟩)) rfl (Chg.refl _ _) ?_
      refine hp 4 68 (.pointer (some ⟨bx, ox + i * 4 + 1, none⟩)) rfl (Chg.refl _ _) ?_
      refine hp 5 69 (.int .i64 xp) rfl (Chg.refl _ _) ?_ (he := (fun W hW => by have hc := hW.cell_some x1 (fun e => hbo e); go_simp))
      refine hp 6 70 (.slice (some ⟨bx, ox, none⟩) l.length cl) rfl (Chg.refl _ _) ?_
      refine hp 7 71 (.int .i64 (i : Nat)) rfl (Chg.refl _ _) ?_
      refine hp 8 72 (.pointer (some ⟨bx, ox + i * 4, none⟩)) rfl (Chg.refl _ _) ?_
      refine hp 9 73 (.pointer (some ⟨bx, ox + i * 4 + 2, none⟩)) rfl (Chg.refl _ _) ?_
      refine hp 10 74 (.int .i64 xl) rfl (Chg.refl _ _) ?_ (he := (fun W hW => by have hc := hW.cell_some x2 (fun e => hbo e); go_simp))
      refine hp 11 75 (.slice (some ⟨bx, ox, none⟩) l.length cl) rfl (Chg.refl _ _) ?_
      refine hp 12 76 (.int .i64 (i : Nat)) rfl (Chg.refl _ _) ?_
      refine hp 13 77 (.pointer (some ⟨bx, ox + i * 4, none⟩)) rfl (Chg.refl _ _) ?_
      refine hp 14 78 (.pointer (some ⟨bx, ox + i * 4 + 3, none⟩)) rfl (Chg.refl _ _) ?_
      refine hp 15 79 (.slice Ax xb.length cx) rfl (Chg.refl _ _) ?_ (he := (fun W hW => by have hc := hW.cell_some x3 (fun e => hbo e); go_simp))
      refine h_one 16 (by kernel_rfl) rfl (by kernel_rfl) ?_
      intro K hK
      go_simp
      refine (load_ok a.own wr.drew k a xp xl Ax xb cx HKd.out (fun b e => HKd.out.bound b e) (fun p hp => partOk_mem (HT.out.good.pm p hp)) hxl HRd.out (by omega)).mono ?_
      rintro e v7 ⟨rfl, hk7, hg7⟩
      have HTn : Hid (OwnW u3 v7 c a (k.load xp xl xb)) := Lib.hid ((HT.out.non ((Chg.refl Non wr).drew)).set hk7 (HT.out.good.load xp xl xb) (load_same k xp xl xb).1 hg7)
      refine hK.out _ _ hg7 (fun _ => ?_)
      clear hK K hk7 hg7
      try simp only [Act.put, sA, sB, sC]
      refine wpAnyH_done (by kernel_rfl) ?_ _
      go_wp2_with fail
      exact ⟨⟨i + 1, by omega, by simp, Lib.hid ⟨_, HTn.out⟩⟩, by simp [intOf]; omega⟩
     have e0 : ((xw : Int) % 8 == 0) = false := by rw [beq_eq_false_iff_ne]; omega
     have e1 : ((xw : Int) % 8 == 1) = false := by rw [beq_eq_false_iff_ne]; omega
     obtain ⟨n0, hn0⟩ : ∃ n : Nat, (IntKind.u64.wrap xl).tmod 64 = n ∧ n < 64 := ⟨((IntKind.u64.wrap xl).tmod 64).toNat, by
       have h0 : 0 ≤ IntKind.u64.wrap xl := by show 0 ≤ xl % 18446744073709551616; omega
       have h1 := Int.tmod_nonneg (64 : Int) h0
       have h2 := Int.tmod_lt_of_pos (IntKind.u64.wrap xl) (show (0 : Int) < 64 by omega)
       omega⟩
     obtain ⟨hn0, hn64⟩ := hn0
     go_wp2_with fail
     clear x0 x1 x2 x3 hbo h600 HRX hwa
     go_loopw [9] (fun nv wr => ∃ n : Nat, n < 64 ∧ nv = .int .u64 n ∧ Hid (∃ k, OwnW u3 wr c a k)) (fun nv _ => (intOf nv).toNat)
     case atStart => exact ⟨n0, hn64, by first | rfl | rw [hn0], Lib.hid ⟨_, HT.out⟩⟩
     case round =>
      clear HT hn0 hn64
      obtain ⟨nn, hnn, rfl, HTS⟩ := hrel
      obtain ⟨k2, hT⟩ := HTS.out
      have HT := Lib.hid hT
      clear HTS hT
      have HBk := Lib.hid (blk_keep HB3.out HT.out.chg (fun e => e))
      obtain ⟨V, hV⟩ : ∃ V, wr.drew = V := ⟨_, rfl⟩
      have hdr : Chg Non wr V := by rw [← hV]; exact (Chg.refl Non wr).drew
      have HTd := Lib.hid (HT.out.non hdr)
      have b0 := blk_cell (blk_keep HBk.out hdr (fun e => e)) 0 (v := .slice A1 c.ws.length c1) rfl
      obtain ⟨tk, htk⟩ : ∃ t, k2.tick = t := ⟨_, rfl⟩
      have HTk := Lib.hid htk
      have HAtK : Hid (∀ W, Chg Non V W → Calls Tryz.prog 29 #[.pointer (some ⟨a.p, 0, none⟩)] W fun e w' => e = .returned (.int .i64 tk) ∧ Chg Non W w') := Lib.hid (fun W hW => by
        rw [← htk]
        exact at_ok a.own W k2 a (HTd.out.ker.non hW))
      have HAt : Hid (∀ W, Chg Non V W → Calls Tryz.prog 36 #[.slice A1 c.ws.length c1, .int .i64 tk] W (AtP c.ws tk W)) := Lib.hid (fun W hW => by
        have hs := HT.out.good.sch
        have h0 := HT.out.good.t0
        have h1 := HT.out.good.t1
        rw [HT.out.kc] at hs h1
        rw [htk] at h0 h1
        exact schAt_ok I A1 c.ws c1 tk W ((HC3.out.non HTd.out.chg).non hW).ws HC3.out.l1.1 HC3.out.l1.2 hs h0 h1)
      clear htk hdr
      iterate 4 go_step
      apply wp_cutB (α := Nat × Nat × Win) (f := fun y x => match y with | (ob, kk, aw) => ((((((((((x.put (some 91) (.pointer (some ⟨g0, 0, none⟩))).put (some 92) (.slice A1 c.ws.length c1)).put (some 93) (.pointer (some ⟨a.p, 0, none⟩))).put (some 94) (.int .i64 tk)).put (some 95) (.tuple #[.agg #[.int .i64 (kk : Int), .int .i64 aw.part, .int .i64 (wsum (c.ws.take kk)), .int .i64 (wsum (c.ws.take kk) + aw.len - tk)], .int .i64 0])).put (some 90) (.tuple #[.agg #[.int .i64 (kk : Int), .int .i64 aw.part, .int .i64 (wsum (c.ws.take kk)), .int .i64 (wsum (c.ws.take kk) + aw.len - tk)], .int .i64 0])).put (some 96) (.agg #[.int .i64 (kk : Int), .int .i64 aw.part, .int .i64 (wsum (c.ws.take kk)), .int .i64 (wsum (c.ws.take kk) + aw.len - tk)])).put (some 97) (.int .i64 0)).put (some 10) (.pointer (some ⟨ob, 0, none⟩))).put (some 11) (.int .i64 0)))
       (R := fun y v => match y with | (ob, kk, aw) => v.heap[ob]? = some (.cells #[.int .i64 (kk : Int), .int .i64 aw.part, .int .i64 (wsum (c.ws.take kk)), .int .i64 (wsum (c.ws.take kk) + aw.len - tk)] 88 (0, 0)) ∧ SlotAt c.ws tk kk aw ∧ Chg Non V v ∧ V.heap.size ≤ ob)
      ·refine wp_region_held_drew (S := Chg Non wr.drew) (by kernel_rfl) (Chg.refl _ _) (fun hHeld => ?_)
       clear hHeld
       rw [hV]
       clear hV
       have HV := Lib.hid (Chg.refl Non V)
       refine hp 0 91 (.pointer (some ⟨g0, 0, none⟩)) rfl HV.out ?_ (hQ := fun _ _ _ h => absurd h.1 (by simp))
       refine hp 1 92 (.slice A1 c.ws.length c1) rfl HV.out ?_ (he := (fun W hW => by have hc := hW.cell_some b0 (fun e => e); go_simp)) (hQ := fun _ _ _ h => absurd h.1 (by simp))
       refine hp 2 93 (.pointer (some ⟨a.p, 0, none⟩)) rfl HV.out ?_ (hQ := fun _ _ _ h => absurd h.1 (by simp))
       refine h_two 3 8 (by kernel_rfl) rfl rfl (by kernel_rfl) (by kernel_rfl) ?_ ?_
       ·intro K hK
        go_simp
        refine (HAtK.out V HV.out).mono ?_
        rintro e u1 ⟨rfl, hg1⟩
        refine hK.out _ _ (HV.out.then_non hg1) (fun _ => ?_)
        clear hK K
        try simp only [Act.put, sA, sB, sC]
        have HV := Lib.hid (HV.out.then_non hg1)
        clear hg1
        refine h_two 4 8 (by kernel_rfl) rfl rfl (by kernel_rfl) (by kernel_rfl) ?_ ?_
        ·intro K hK
         go_simp
         refine (HAt.out u1 HV.out).mono ?_
         rintro e u2 ⟨kk, aw, hsl, rfl, hg1⟩
         have HslX := Lib.hid hsl
         refine hK.out _ _ (HV.out.then_non hg1) (fun _ => ?_)
         clear hK K
         try simp only [Act.put, sA, sB, sC]
         have HV := Lib.hid (HV.out.then_non hg1)
         clear hg1 hsl
         refine hp 5 90 (.tuple #[.agg #[.int .i64 (kk : Int), .int .i64 aw.part, .int .i64 (wsum (c.ws.take kk)), .int .i64 (wsum (c.ws.take kk) + aw.len - tk)], .int .i64 0]) rfl HV.out ?_ (hQ := fun _ _ _ h => absurd h.1 (by simp))
         refine hp 6 96 (.agg #[.int .i64 (kk : Int), .int .i64 aw.part, .int .i64 (wsum (c.ws.take kk)), .int .i64 (wsum (c.ws.take kk) + aw.len - tk)]) rfl HV.out ?_ (hQ := fun _ _ _ h => absurd h.1 (by simp))
         refine hp 7 97 (.int .i64 0) rfl HV.out ?_ (hQ := fun _ _ _ h => absurd h.1 (by simp))
         refine h_one 8 (by kernel_rfl) rfl (by kernel_rfl) ?_
         intro K hK
         go_simp
         refine hK.out _ _ (HV.out.alloc _) (fun _ => ?_)
         clear hK K
         try simp only [Act.put, sA, sB, sC]
         have HBs := Lib.hid (blk_new u2 (.cells #[.int .i64 0, .int .i64 0, .int .i64 0, .int .i64 0] 88))
         have hgq : V.heap.size ≤ u2.heap.size := HV.out.size
         have HV := Lib.hid (HV.out.alloc (.cells #[.int .i64 0, .int .i64 0, .int .i64 0, .int .i64 0] 88))
         obtain ⟨W8, hW8⟩ : ∃ X, u2.alloc (.cells #[.int .i64 0, .int .i64 0, .int .i64 0, .int .i64 0] 88) = X := ⟨_, rfl⟩
         obtain ⟨gs, hgs⟩ : ∃ g, u2.heap.size = g := ⟨_, rfl⟩
         rw [hW8] at HBs HV ⊢
         have hge : V.heap.size ≤ gs := by omega
         rw [hgs] at HBs ⊢
         clear hW8 hgs hgq
         refine h_store 9 88 (.tmp 10) (.tmp 96) gs #[.int .i64 (kk : Int), .int .i64 aw.part, .int .i64 (wsum (c.ws.take kk)), .int .i64 (wsum (c.ws.take kk) + aw.len - tk)] (by kernel_rfl) rfl (by kernel_rfl) rfl rfl rfl rfl 88 ⟨_, HBs.out, rfl⟩ (by kernel_rfl) (by simp [Value.oneCell']) (fun W hg hb => HV.out.then_new hg (fun x e => by have e : x = gs := e; omega)) ?_
         intro W9 hgW hbW
         have HBs := Lib.hid hbW
         have HV := Lib.hid (HV.out.then_new hgW (fun x e => by have e : x = gs := e; omega))
         clear hgW hbW
         refine hp 10 11 (.int .i64 0) rfl HV.out ?_ (hQ := fun _ _ _ h => absurd h.1 (by simp))
         refine wpAnyH_done (by kernel_rfl) ?_ _
         exact ⟨rfl, (gs, kk, aw), by kernel_rfl, HBs.out, HslX.out, HV.out, by first | exact hge | exact Nat.le_refl _⟩
        ·intro K hK
         go_simp
         refine hK.out _ _ (HV.out.alloc _) (fun _ => ?_)
         clear hK K
         try simp only [Act.put, sA, sB, sC]
         have HBs := Lib.hid (blk_new u1 (.cells #[.int .i64 0, .int .i64 0, .int .i64 0, .int .i64 0] 88))
         have hgq : V.heap.size ≤ u1.heap.size := HV.out.size
         have HV := Lib.hid (HV.out.alloc (.cells #[.int .i64 0, .int .i64 0, .int .i64 0, .int .i64 0] 88))
         obtain ⟨W8, hW8⟩ : ∃ X, u1.alloc (.cells #[.int .i64 0, .int .i64 0, .int .i64 0, .int .i64 0] 88) = X := ⟨_, rfl⟩
         obtain ⟨gs, hgs⟩ : ∃ g, u1.heap.size = g := ⟨_, rfl⟩
         rw [hW8] at HBs HV ⊢
         have hge : V.heap.size ≤ gs := by omega
         rw [hgs] at HBs ⊢
         clear hW8 hgs hgq
         refine h_one 4 (by kernel_rfl) rfl (by kernel_rfl) ?_
         intro K hK
         go_simp
         refine (HAt.out W8 HV.out).mono ?_
         rintro e u2 ⟨kk, aw, hsl, rfl, hg1⟩
         have HslX := Lib.hid hsl
         refine hK.out _ _ (HV.out.then_non hg1) (fun _ => ?_)
         clear hK K
         try simp only [Act.put, sA, sB, sC]
         have HV := Lib.hid (HV.out.then_non hg1)
         have HBs := Lib.hid (blk_keep HBs.out hg1 (fun e => e))
         clear hg1 hsl
         refine hp 5 90 (.tuple #[.agg #[.int .i64 (kk : Int), .int .i64 aw.part, .int .i64 (wsum (c.ws.take kk)), .int .i64 (wsum (c.ws.take kk) + aw.len - tk)], .int .i64 0]) rfl HV.out ?_ (hQ := fun _ _ _ h => absurd h.1 (by simp))
         refine hp 6 96 (.agg #[.int .i64 (kk : Int), .int .i64 aw.part, .int .i64 (wsum (c.ws.take kk)), .int .i64 (wsum (c.ws.take kk) + aw.len - tk)]) rfl HV.out ?_ (hQ := fun _ _ _ h => absurd h.1 (by simp))
         refine hp 7 97 (.int .i64 0) rfl HV.out ?_ (hQ := fun _ _ _ h => absurd h.1 (by simp))
         refine h_store 9 88 (.tmp 10) (.tmp 96) gs #[.int .i64 (kk : Int), .int .i64 aw.part, .int .i64 (wsum (c.ws.take kk)), .int .i64 (wsum (c.ws.take kk) + aw.len - tk)] (by kernel_rfl) rfl (by kernel_rfl) rfl rfl rfl rfl 88 ⟨_, HBs.out, rfl⟩ (by kernel_rfl) (by simp [Value.oneCell']) (fun W hg hb => HV.out.then_new hg (fun x e => by have e : x = gs := e; omega)) ?_
         intro W9 hgW hbW
         have HBs := Lib.hid hbW
         have HV := Lib.hid (HV.out.then_new hgW (fun x e => by have e : x = gs := e; omega))
         clear hgW hbW
         refine hp 10 11 (.int .i64 0) rfl HV.out ?_ (hQ := fun _ _ _ h => absurd h.1 (by simp))
         refine wpAnyH_done (by kernel_rfl) ?_ _
         exact ⟨rfl, (gs, kk, aw), by kernel_rfl, HBs.out, HslX.out, HV.out, by first | exact hge | exact Nat.le_refl _⟩
       ·intro K hK
        go_simp
        refine hK.out _ _ (HV.out.alloc _) (fun _ => ?_)
        clear hK K
        try simp only [Act.put, sA, sB, sC]
        have HBs := Lib.hid (blk_new V (.cells #[.int .i64 0, .int .i64 0, .int .i64 0, .int .i64 0] 88))
        have hgq : V.heap.size ≤ V.heap.size := HV.out.size
        have HV := Lib.hid (HV.out.alloc (.cells #[.int .i64 0, .int .i64 0, .int .i64 0, .int .i64 0] 88))
        obtain ⟨W8, hW8⟩ : ∃ X, V.alloc (.cells #[.int .i64 0, .int .i64 0, .int .i64 0, .int .i64 0] 88) = X := ⟨_, rfl⟩
        obtain ⟨gs, hgs⟩ : ∃ g, V.heap.size = g := ⟨_, rfl⟩
        rw [hW8] at HBs HV ⊢
        have hge : V.heap.size ≤ gs := by omega
        rw [hgs] at HBs ⊢
        clear hW8 hgs hgq
        refine h_one 3 (by kernel_rfl) rfl (by kernel_rfl) ?_
        intro K hK
        go_simp
        refine (HAtK.out W8 HV.out).mono ?_
        rintro e u1 ⟨rfl, hg1⟩
        refine hK.out _ _ (HV.out.then_non hg1) (fun _ => ?_)
        clear hK K
        try simp only [Act.put, sA, sB, sC]
        have HV := Lib.hid (HV.out.then_non hg1)
        have HBs := Lib.hid (blk_keep HBs.out hg1 (fun e => e))
        clear hg1
        refine h_one 4 (by kernel_rfl) rfl (by kernel_rfl) ?_
        intro K hK
        go_simp
        refine (HAt.out u1 HV.out).mono ?_
        rintro e u2 ⟨kk, aw, hsl, rfl, hg1⟩
        have HslX := Lib.hid hsl
        refine hK.out _ _ (HV.out.then_non hg1) (fun _ => ?_)
        clear hK K
        try simp only [Act.put, sA, sB, sC]
        have HV := Lib.hid (HV.out.then_non hg1)
        have HBs := Lib.hid (blk_keep HBs.out hg1 (fun e => e))
        clear hg1 hsl
        refine hp 5 90 (.tuple #[.agg #[.int .i64 (kk : Int), .int .i64 aw.part, .int .i64 (wsum (c.ws.take kk)), .int .i64 (wsum (c.ws.take kk) + aw.len - tk)], .int .i64 0]) rfl HV.out ?_ (hQ := fun _ _ _ h => absurd h.1 (by simp))
        refine hp 6 96 (.agg #[.int .i64 (kk : Int), .int .i64 aw.part, .int .i64 (wsum (c.ws.take kk)), .int .i64 (wsum (c.ws.take kk) + aw.len - tk)]) rfl HV.out ?_ (hQ := fun _ _ _ h => absurd h.1 (by simp))
        refine hp 7 97 (.int .i64 0) rfl HV.out ?_ (hQ := fun _ _ _ h => absurd h.1 (by simp))
        refine h_store 9 88 (.tmp 10) (.tmp 96) gs #[.int .i64 (kk : Int), .int .i64 aw.part, .int .i64 (wsum (c.ws.take kk)), .int .i64 (wsum (c.ws.take kk) + aw.len - tk)] (by kernel_rfl) rfl (by kernel_rfl) rfl rfl rfl rfl 88 ⟨_, HBs.out, rfl⟩ (by kernel_rfl) (by simp [Value.oneCell']) (fun W hg hb => HV.out.then_new hg (fun x e => by have e : x = gs := e; omega)) ?_
        intro W9 hgW hbW
        have HBs := Lib.hid hbW
        have HV := Lib.hid (HV.out.then_new hgW (fun x e => by have e : x = gs := e; omega))
        clear hgW hbW
        refine hp 10 11 (.int .i64 0) rfl HV.out ?_ (hQ := fun _ _ _ h => absurd h.1 (by simp))
        refine wpAnyH_done (by kernel_rfl) ?_ _
        exact ⟨rfl, (gs, kk, aw), by kernel_rfl, HBs.out, HslX.out, HV.out, by first | exact hge | exact Nat.le_refl _⟩
      rintro ⟨gs, kk, aw⟩ V1 hR
      simp only [Act.put, sA, sB, sC]
      obtain ⟨hbs, hsl, hgV, hge⟩ := hR
      obtain ⟨sp, hsp⟩ : ∃ x, aw.part = x := ⟨_, rfl⟩
      have HSp : Hid ((slotV k2.c.ws k2.tick).2 = sp) := Lib.hid (by
        have hall : ∀ a ∈ c.ws, winOk a = true := by
          have hs := HT.out.good.sch
          rw [HT.out.kc] at hs
          exact (schMay_bd hs).2.2.1
        rw [HT.out.kc, HTk.out, hsl.slot hall]
        exact hsp)
      have HT1 := Lib.hid (HTd.out.non hgV)
      obtain ⟨v0, hv0⟩ : ∃ x, Value.int .i64 (kk : Int) = x := ⟨_, rfl⟩
      obtain ⟨v2, hv2⟩ : ∃ x, Value.int .i64 (wsum (c.ws.take kk)) = x := ⟨_, rfl⟩
      obtain ⟨v3, hv3⟩ : ∃ x, Value.int .i64 (wsum (c.ws.take kk) + aw.len - tk) = x := ⟨_, rfl⟩
      rw [hsp, hv0, hv2, hv3] at hbs
      rw [hsp, hv0, hv2, hv3]
      clear hsp hv0 hv2 hv3 hsl HAt HAtK
      have hgsl := blk_lt hbs
      have HBs := Lib.hid hbs
      have hgs : ∀ x, a.own x → x ≠ gs := fun x e => by have := HTd.out.lt x e; omega
      clear hbs hge hgV b0 HTd hV HT
      have HSm2 : Hid k2.Small := Lib.hid ⟨HT1.out.good.small.1, HT1.out.good.small.2.1, HT1.out.good.small.2.2⟩
      go_wp2_with fail
      refine (state_ok a.own V1 k2 a HT1.out.ker HSm2.out).mono ?_
      rintro e V2 ⟨bq, dq, rfl, hsz, hg2⟩
      obtain ⟨Rz, cz, rfl, _, _, _⟩ := hsz.ps.rd
      obtain ⟨Tz, dz, rfl, _, _, _⟩ := hsz.qs.rd
      have HT2 := Lib.hid (HT1.out.non hg2)
      have HBs2 := Lib.hid (blk_keep HBs.out hg2 (fun e => e))
      have HSz2 := Lib.hid hsz
      have hlV1 := HT1.out.lt
      have HV1o := Lib.hid hlV1
      have hzz := hg2.size
      clear hg2 hsz HT1 HBs
      go_wp2_with (refine sel none (.store 30 (.tmp 12) (.tmp 99)) ?_; refine Vm_stop ?_)
      refine HoleV.mk ?_
      refine wpList_store_rowA rfl 30 (.tmp 12) (.tmp 99) rfl V2.heap.size #[.int .i64 k2.s.frames, .slice Rz k2.s.parts.length cz, .slice Tz k2.s.queues.length dz] rfl rfl 30 _ (blk_new _ _) (by kernel_rfl) rfl (by simp [Value.oneCell']) ?_
      intro W3 hgW hbW
      have huW : Chg Non V2 W3 := ((Chg.refl Non V2).alloc _).then_new hgW (fun x e => by omega)
      have HT3 := Lib.hid (HT2.out.non huW)
      have HBs3 := Lib.hid (blk_keep HBs2.out huW (fun e => e))
      have HSz3 : Hid (StaO V1.heap.size W3 k2.s (.slice Rz k2.s.parts.length cz) (.slice Tz k2.s.queues.length dz)) := Lib.hid ⟨HSz2.out.ps.non huW (fun a vs h => ptV_non _ _ _ _ huW h), HSz2.out.qs.non huW (fun a vs h => quV_non _ _ _ _ huW h)⟩
      obtain ⟨gz, hgz⟩ : ∃ g, V2.heap.size = g := ⟨_, rfl⟩
      rw [hgz] at hbW hzz ⊢
      have HBz3 := Lib.hid hbW
      have hgzl := blk_lt hbW
      have hnz : ∀ x, a.own x → x ≠ gz ∧ x < W3.heap.size := fun x e => by have := hlV1 x e; omega
      clear hgW hbW huW hgz HT2 HBs2 HSz2
      go_wp2_with fail
      obtain ⟨gw, hgw⟩ : ∃ g, W3.heap.size = g := ⟨_, rfl⟩
      have hWa : Chg Non W3 (W3.alloc (.cells #[.int .i64 0, .int .i64 0, .int .i64 0, .int .i64 0, .int .i64 0, .int .i64 0, .int .i64 0] 91)) := (Chg.refl Non W3).alloc _
      have HWb0 : Hid (WaitsB (W3.alloc (.cells #[.int .i64 0, .int .i64 0, .int .i64 0, .int .i64 0, .int .i64 0, .int .i64 0, .int .i64 0] 91)) gw k2 1) := Lib.hid ⟨_, by rw [← hgw]; exact blk_new _ _, rfl, fun i h1 h2 => by omega⟩
      obtain ⟨W4, hW4⟩ : ∃ X, W3.alloc (.cells #[.int .i64 0, .int .i64 0, .int .i64 0, .int .i64 0, .int .i64 0, .int .i64 0, .int .i64 0] 91) = X := ⟨_, rfl⟩
      rw [hW4] at hWa HWb0 ⊢
      rw [hgw] at ⊢
      have HT4 := Lib.hid (HT3.out.non hWa)
      have HKw : Hid (KerB (fun b => a.own b ∨ b = gw) W4 k2 a) := Lib.hid ((HT3.out.ker.more (N' := fun b => a.own b ∨ b = gw) (fun b e hb => e.elim id (fun e => by omega)) (fun b e => .inl e)).non hWa)
      have HBs4 := Lib.hid (blk_keep HBs3.out hWa (fun e => e))
      have HBz4 := Lib.hid (blk_keep HBz3.out hWa (fun e => e))
      have HSz4 : Hid (StaO V1.heap.size W4 k2.s (.slice Rz k2.s.parts.length cz) (.slice Tz k2.s.queues.length dz)) := Lib.hid ⟨HSz3.out.ps.non hWa (fun a vs h => ptV_non _ _ _ _ hWa h), HSz3.out.qs.non hWa (fun a vs h => quV_non _ _ _ _ hWa h)⟩
      have hw3 : gs < gw ∧ gz < gw := ⟨by have := blk_lt HBs3.out; omega, by omega⟩
      have hlW3 : ∀ x, a.own x → x < gw := fun x e => by rw [← hgw]; exact (hnz x e).2
      have HSzl : Hid ((∀ g, (Value.slice Rz k2.s.parts.length cz).ownBlock = some g → g < gw) ∧ ∀ g, (Value.slice Tz k2.s.queues.length dz).ownBlock = some g → g < gw) := Lib.hid ⟨fun g e => by have := (HSz3.out.ps.ge e).2; omega, fun g e => by have := (HSz3.out.qs.ge e).2; omega⟩
      have HSzb : Hid (StaO V1.heap.size W4 k2.s (.slice Rz k2.s.parts.length cz) (.slice Tz k2.s.queues.length dz) ∧ OwnL (ptV (fun b => Exc V1.heap.size (.slice Rz k2.s.parts.length cz) b ∧ b < gw)) V1.heap.size 69 14 W4 (.slice Rz k2.s.parts.length cz) k2.s.parts ∧ OwnL (quV (fun b => Exc V1.heap.size (.slice Tz k2.s.queues.length dz) b ∧ b < gw)) V1.heap.size 95 6 W4 (.slice Tz k2.s.queues.length dz) k2.s.queues) := Lib.hid ⟨HSz4.out, (by
        have := HSz3.out.ps.mono (fun a vs h => h.bound)
        rw [hgw] at this
        exact this.non hWa (fun a vs h => ptV_non _ _ _ _ hWa h)), (by
        have := HSz3.out.qs.mono (fun a vs h => h.bound)
        rw [hgw] at this
        exact this.non hWa (fun a vs h => quV_non _ _ _ _ hWa h))⟩
      clear hWa hW4 hgw HT3 HBs3 HBz3 HSz3 HSz4 hlV1 hnz hgzl
      go_loopw [14] (fun iv wr => ∃ id : Nat, 1 ≤ id ∧ id ≤ 7 ∧ iv = .int .i64 id ∧ Hid (Chg (fun b => b = gw) W4 wr) ∧ Hid (WaitsB wr gw k2 id)) (fun iv _ => 7 - (intOf iv).toNat)
      case atStart => exact ⟨1, by omega, by omega, rfl, Lib.hid (Chg.refl _ _), HWb0⟩
      case round =>
       clear HWb0
       obtain ⟨id, hid1, hid7, rfl, HGi, HWb⟩ := hrel
       have HKi : Hid (KerB a.own wr k2 a) := Lib.hid ((HKw.out.keep HGi.out (fun b e => .inr e) (fun b e e2 => by have := hlW3 b e; have e2 : b = gw := e2; omega)).less (fun b e => .inl e) (fun b e => e))
       by_cases hid6 : id ≤ 6
       ·have hidd : decide ((id : Int) ≤ 6) = true := by rw [decide_eq_true_eq]; omega
        have hid8 : (id : Int) < 7 := by omega
        go_wp2_with fail
        refine (waits_ok a.own wr k2 a id (by unfold I64; omega) HKi.out).mono ?_
        rintro e v5 ⟨rfl, hg5⟩
        have HWb5 := Lib.hid (HWb.out.keep hg5 (fun e => e))
        obtain ⟨vo, wc, wf⟩ := HWb5.out.here (by omega)
        have HGi5 := Lib.hid (HGi.out.trans_same hg5.of_non)
        clear hg5
        go_wp2_with fail
        have hst := chg_set v5 gw id (.int .i64 ((k2.waits (id : Nat)).length : Nat))
        exact ⟨⟨id + 1, by omega, by omega, by simp, Lib.hid (HGi5.out.trans_same hst), Lib.hid (HWb5.out.set (by omega))⟩, by simp [intOf]; omega⟩
       ·obtain rfl : id = 7 := by omega
        have hidd : decide (((7 : Nat) : Int) ≤ 6) = false := by decide
        have HT5 : Hid (OwnW u3 wr c a k2) := Lib.hid ⟨HKi.out, HT4.out.good, HT4.out.kc, HT4.out.oa, HT4.out.chg.then_new HGi.out (fun x e => by have e : x = gw := e; have := HT4.out.chg.size; have := HT4.out.oa a.p (.inl rfl); have := hlW3 a.p (.inl rfl); omega)⟩
        have HBs5 := Lib.hid (blk_keep HBs4.out HGi.out (fun e => by have e : gs = gw := e; omega))
        have HBz5 := Lib.hid (blk_keep HBz4.out HGi.out (fun e => by have e : gz = gw := e; omega))
        have HPz5 : Hid (OwnL (ptV (Exc V1.heap.size (.slice Rz k2.s.parts.length cz))) V1.heap.size 69 14 wr (.slice Rz k2.s.parts.length cz) k2.s.parts) := Lib.hid ((HSzb.out.2.1.keep HGi.out (fun g e (e2 : g = gw) => by have := HSzl.out.1 g e; omega) (fun a vs h => h.keep HGi.out (fun b e (e2 : b = gw) => by have := e.2; omega))).mono (fun a vs h => h.mono (fun b e => e.1)))
        have HQz5 : Hid (OwnL (quV (Exc V1.heap.size (.slice Tz k2.s.queues.length dz))) V1.heap.size 95 6 wr (.slice Tz k2.s.queues.length dz) k2.s.queues) := Lib.hid ((HSzb.out.2.2.keep HGi.out (fun g e (e2 : g = gw) => by have := HSzl.out.2 g e; omega) (fun a vs h => h.keep HGi.out (fun b e (e2 : b = gw) => by have := e.2; omega))).mono (fun a vs h => h.mono (fun b e => e.1)))
        have hV1o : ∀ x, a.own x → x < V1.heap.size := HV1o.out
        clear HSzb HSzl HT4 HBs4 HBz4 HGi HKi HKw
        have HTo := Lib.hid (tick_own k2)
        rw [HSp.out] at HTo
        go_wp2_with fail
        refine (tick_ok a.own wr k2 a HT5.out.ker (fun b e => HT5.out.ker.bound b e) HT5.out.good).mono ?_
        rintro e v6 ⟨rfl, hk6, hg6⟩
        have HT6 := Lib.hid (HT5.out.set hk6 HT5.out.good.ticked (ticked_c k2) hg6)
        have HBs6 := Lib.hid (blk_keep HBs5.out hg6 (fun e => hgs _ e rfl))
        have HBz6 := Lib.hid (blk_keep HBz5.out hg6 (fun e => by have := hV1o _ e; omega))
        have HPz6 := Lib.hid (HPz5.out.keep hg6 (fun g e e2 => by have := (HPz5.out.ge e).1; have := hV1o _ e2; omega) (fun a' vs h => h.keep hg6 (fun b e e2 => by have := e.1; have := hV1o _ e2; omega)))
        have HQz6 := Lib.hid (HQz5.out.keep hg6 (fun g e e2 => by have := (HQz5.out.ge e).1; have := hV1o _ e2; omega) (fun a' vs h => h.keep hg6 (fun b e e2 => by have := e.1; have := hV1o _ e2; omega)))
        have HWb6 := Lib.hid (HWb.out.keep hg6 (fun e => by have := hlW3 _ e; omega))
        obtain ⟨k3, hk3⟩ : ∃ k, k2.ticked = k := ⟨_, rfl⟩
        rw [hk3] at HT6 HTo
        have HSm3 : Hid k3.Small := Lib.hid ⟨HT6.out.good.small.1, HT6.out.good.small.2.1, HT6.out.good.small.2.2⟩
        clear hk6 hg6 HT5 HBs5 HBz5 HPz5 HQz5 HWb
        go_wp2_with fail
        refine (state_ok a.own v6 k3 a HT6.out.ker HSm3.out).mono ?_
        rintro e v7 ⟨bi, di, rfl, hsi, hg7⟩
        obtain ⟨Ri, ci, rfl, _, _, _⟩ := hsi.ps.rd
        obtain ⟨Ti, di, rfl, _, _, _⟩ := hsi.qs.rd
        have HT7 := Lib.hid (HT6.out.non hg7)
        have HBs7 := Lib.hid (blk_keep HBs6.out hg7 (fun e => e))
        have HBz7 := Lib.hid (blk_keep HBz6.out hg7 (fun e => e))
        have HPz7 := Lib.hid (HPz6.out.non hg7 (fun a vs h => ptV_non _ _ _ _ hg7 h))
        have HQz7 := Lib.hid (HQz6.out.non hg7 (fun a vs h => quV_non _ _ _ _ hg7 h))
        have HWb7 := Lib.hid (HWb6.out.keep hg7 (fun e => e))
        have HSi7 := Lib.hid hsi
        clear hg7 hsi HT6 HBs6 HBz6 HPz6 HQz6 HWb6
        go_wp2_with (refine sel none (.store 30 (.tmp 15) (.tmp 112)) ?_; refine Vm_stop ?_)
        refine HoleV.mk ?_
        refine wpList_store_rowA rfl 30 (.tmp 15) (.tmp 112) rfl v7.heap.size #[.int .i64 k3.s.frames, .slice Ri k3.s.parts.length ci, .slice Ti k3.s.queues.length di] rfl rfl 30 _ (blk_new _ _) (by kernel_rfl) rfl (by simp [Value.oneCell']) ?_
        intro W8 hgW hbW
        have huW : Chg Non v7 W8 := ((Chg.refl Non v7).alloc _).then_new hgW (fun x e => by omega)
        have HT8 := Lib.hid (HT7.out.non huW)
        have HBs8 := Lib.hid (blk_keep HBs7.out huW (fun e => e))
        have HBz8 := Lib.hid (blk_keep HBz7.out huW (fun e => e))
        have HPz8 := Lib.hid (HPz7.out.non huW (fun a vs h => ptV_non _ _ _ _ huW h))
        have HQz8 := Lib.hid (HQz7.out.non huW (fun a vs h => quV_non _ _ _ _ huW h))
        have HWb8 := Lib.hid (HWb7.out.keep huW (fun e => e))
        have HPi8 := Lib.hid (HSi7.out.ps.non huW (fun a vs h => ptV_non _ _ _ _ huW h))
        have HQi8 := Lib.hid (HSi7.out.qs.non huW (fun a vs h => quV_non _ _ _ _ huW h))
        obtain ⟨gi, hgi⟩ : ∃ g, v7.heap.size = g := ⟨_, rfl⟩
        rw [hgi] at hbW ⊢
        have HBi8 := Lib.hid hbW
        clear hgW hbW huW hgi HT7 HBs7 HBz7 HPz7 HQz7 HWb7 HSi7
        obtain ⟨n, hn⟩ : ∃ n, k2.s.parts.length = n := ⟨_, rfl⟩
        have hn3 : k3.s.parts.length = n := by rw [← HTo.out.ps.len]; exact hn
        obtain ⟨m, hm⟩ : ∃ n, k2.s.queues.length = n := ⟨_, rfl⟩
        have hm3 : k3.s.queues.length = m := by rw [← HTo.out.qs.len]; exact hm
        have HN := Lib.hid (And.intro hn (And.intro hn3 (And.intro hm hm3)))
        rw [hn] at HBz8 HPz8
        rw [hn3] at HBi8 HPi8
        rw [hm] at HBz8 HQz8
        rw [hm3] at HBi8 HQi8
        have hn6 : n ≤ 6 := by rw [← hn3]; exact HT8.out.good.pl
        have hm8 : m ≤ 8 := by rw [← hm3]; exact HT8.out.good.ql
        clear hn hn3 hm hm3
        have i1 := blk_cell HBi8.out 1 (v := .slice Ri n ci) rfl
        have i2 := blk_cell HBi8.out 2 (v := .slice Ti m di) rfl
        have z1 := blk_cell HBz8.out 1 (v := .slice Rz n cz) rfl
        have z2 := blk_cell HBz8.out 2 (v := .slice Tz m dz) rfl
        have nb1 : ((n : Int) != (n : Int)) = false := by simp
        have nb2 : ((m : Int) != (m : Int)) = false := by simp
        go_wp2_with fail
        clear nb1 nb2 i1 i2 z1 z2
        go_loopw [16] (fun jv wr => ∃ j : Nat, j ≤ n ∧ jv = .int .i64 j ∧ Hid (Chg Non W8 wr)) (fun jv _ => n - (intOf jv).toNat)
        case atStart => exact ⟨0, Nat.zero_le _, rfl, Lib.hid (Chg.refl _ _)⟩
        case round =>
         obtain ⟨j, hj, rfl, HG⟩ := hrel
         have i1 := blk_cell (blk_keep HBi8.out HG.out (fun e => e)) 1 (v := .slice Ri n ci) rfl
         by_cases hjn : j < n
         ·have hjd : decide ((j : Int) < (n : Int)) = true := by simpa using hjn
          have hji : (j : Int) < (n : Int) := by omega
          have z1 := blk_cell (blk_keep HBz8.out HG.out (fun e => e)) 1 (v := .slice Rz n cz) rfl
          have s1 := blk_cell (blk_keep HBs8.out HG.out (fun e => e)) 1 (v := .int .i64 sp) rfl
          obtain ⟨q, hq⟩ : ∃ q, k3.s.parts[j]? = some q := ⟨_, List.getElem?_eq_getElem (by rw [HN.out.2.1]; exact hjn)⟩
          obtain ⟨p, hp⟩ : ∃ p, k2.s.parts[j]? = some p := ⟨_, List.getElem?_eq_getElem (by rw [HN.out.1]; exact hjn)⟩
          obtain ⟨hpid, hpe⟩ := HTo.out.ps.at_ j p q hp hq
          obtain ⟨ri, ci', _, e1, _, _, _, _, _, heli⟩ := HPi8.out.shape (by rw [HN.out.2.1]; omega)
          obtain ⟨rfl, _, rfl⟩ : Ri = some ⟨ri, 0, none⟩ ∧ True ∧ ci = ci' := by injection e1 with e1 e2 e3; exact ⟨e1, trivial, e3⟩
          obtain ⟨rz, cz', _, e1', _, _, _, _, _, helz⟩ := HPz8.out.shape (by rw [HN.out.1]; omega)
          obtain ⟨rfl, _, rfl⟩ : Rz = some ⟨rz, 0, none⟩ ∧ True ∧ cz = cz' := by injection e1' with e1 e2 e3; exact ⟨e1, trivial, e3⟩
          clear e1 e1'
          obtain ⟨vi, _, hri, mi, rfl, ⟨Ai, cmi, rfl, _, _, hmi, _⟩, hbdi, _⟩ := heli j q hq
          obtain ⟨vz, _, hrz, mz, rfl, ⟨Az, cmz, rfl, _, _, hmz, _⟩, hbdz, _⟩ := helz j p hp
          have ic : wr.cell? ⟨ri, j * 14, none⟩ = some (.int .i64 q.id) := by
           have := HG.out.cell_some (hri 0 (.int .i64 q.id) rfl) (fun e => e)
           simpa using this
          have hok := HT8.out.good.pm q (List.mem_of_getElem? hq)
          have hqid : 1 ≤ q.id ∧ q.id ≤ 6 := by
           simp only [partOk, Bool.and_eq_true, decide_eq_true_eq] at hok
           exact hok.1.1.1
          obtain ⟨pid, hpidE⟩ : ∃ x, q.id = x := ⟨_, rfl⟩
          rw [hpidE] at ic hqid hpid
          by_cases hsp : pid = sp
          ·subst hsp
           have hbe : ((pid : Int) != pid) = false := by simp
           clear hq hp hpe heli helz hri hrz hmi hmz hbdi hbdz hok hpidE
           go_wp2_with fail
           refine Code.wp_mono ?_ (r30_same wr a.p gs gz gw gi j n ci cz ri rz hji pid pid i1 ic s1 z1 rfl _ rfl _ (by kernel_rfl))
           rintro e act v6 ⟨rfl, z, rfl, hgv⟩
           simp only [put30, Act.put, List.setIfInBounds_toArray, List.set_cons_zero, List.set_cons_succ]
           have HGn := Lib.hid (HG.out.then_non hgv)
           go_wp2_with fail
           exact ⟨⟨j + 1, by omega, by simp, HGn⟩, by simp [intOf]; omega⟩
          ·have hbe : ((pid : Int) != sp) = true := by rw [bne_iff_ne]; exact hsp
           have hqp : p = q := hpe (by rw [hpid]; exact hsp)
           subst hqp
           obtain ⟨pn, hpn⟩ : ∃ x : Nat, pid = x := ⟨pid.toNat, by omega⟩
           subst hpn
           have hww : k3.waits pn = k2.waits pn := (HTo.out.inp pn hsp).symm
           obtain ⟨wl, hwl⟩ : ∃ x, (k2.waits (pn : Int)).length = x := ⟨_, rfl⟩
           have wc : wr.cell? ⟨gw, pn, none⟩ = some (.int .i64 (wl : Nat)) := by rw [← hwl]; exact HG.out.cell_some (HWb8.out.at_ pn (by omega) (by omega)) (fun e => e)
           have HL30 := Lib.hid (fun cd hcd T hT => r30_diff wr a.p gs gz gw gi j n ci cz ri rz hji pn sp i1 ic s1 z1 hsp (by omega) wl wc p Ai Az cmi cmz (range_keepS hri HG.out (fun e => e)) (range_keepS hrz HG.out (fun e => e)) (hmi.non HG.out) (hmz.non HG.out) hbdi (fun W hW => by
             rw [← hwl, ← hww]
             exact waits_ok a.own W k3 a pn (by unfold I64; omega) (HT8.out.ker.non (HG.out.then_non hW))) cd hcd T hT)
           clear hq hp hpe heli helz hri hrz hmi hmz hbdi hbdz hok hpidE hwl hww
           go_wp2_with fail
           refine Code.wp_mono ?_ (HL30.out _ rfl _ (by kernel_rfl))
           rintro e act v6 ⟨rfl, z, rfl, hgv⟩
           simp only [put30, Act.put, List.setIfInBounds_toArray, List.set_cons_zero, List.set_cons_succ]
           have HGn := Lib.hid (HG.out.then_non hgv)
           go_wp2_with fail
           exact ⟨⟨j + 1, by omega, by simp, HGn⟩, by simp [intOf]; omega⟩
         ·obtain rfl : j = n := by omega
          have hjd : decide ((j : Int) < (j : Int)) = false := by simp
          go_wp2_with fail
          have HBi9 := Lib.hid (blk_keep HBi8.out HG.out (fun e => e))
          have HBz9 := Lib.hid (blk_keep HBz8.out HG.out (fun e => e))
          have HBs9 := Lib.hid (blk_keep HBs8.out HG.out (fun e => e))
          have HQz9 := Lib.hid (HQz8.out.non HG.out (fun a vs h => quV_non _ _ _ _ HG.out h))
          have HQi9 := Lib.hid (HQi8.out.non HG.out (fun a vs h => quV_non _ _ _ _ HG.out h))
          have HT9 := Lib.hid (HT8.out.non HG.out)
          clear HBi8 HBz8 HBs8 HQz8 HQi8 HT8 HPi8 HPz8 HWb8 HG i1 hjd
          obtain ⟨W9, hW9⟩ : ∃ X, X = wr := ⟨_, rfl⟩
          subst hW9
          go_loopw [17] (fun jv wr => ∃ j : Nat, j ≤ m ∧ jv = .int .i64 j ∧ Hid (Chg Non W9 wr)) (fun jv _ => m - (intOf jv).toNat)
          case atStart => exact ⟨0, Nat.zero_le _, rfl, Lib.hid (Chg.refl _ _)⟩
          case round =>
           obtain ⟨j, hj, rfl, HG⟩ := hrel
           have i2 := blk_cell (blk_keep HBi9.out HG.out (fun e => e)) 2 (v := .slice Ti m di) rfl
           by_cases hjn : j < m
           ·have hjd : decide ((j : Int) < (m : Int)) = true := by simpa using hjn
            have hji : (j : Int) < (m : Int) := by omega
            have z2 := blk_cell (blk_keep HBz9.out HG.out (fun e => e)) 2 (v := .slice Tz m dz) rfl
            obtain ⟨q, hq⟩ : ∃ q, k3.s.queues[j]? = some q := ⟨_, List.getElem?_eq_getElem (by rw [HN.out.2.2.2]; exact hjn)⟩
            obtain ⟨p, hp⟩ : ∃ p, k2.s.queues[j]? = some p := ⟨_, List.getElem?_eq_getElem (by rw [HN.out.2.2.1]; exact hjn)⟩
            obtain ⟨hpc, hpe⟩ := HTo.out.qs.at_ j p q hp hq
            obtain ⟨ti, di', _, e1, _, _, _, _, _, heli⟩ := HQi9.out.shape (by rw [HN.out.2.2.2]; omega)
            obtain ⟨rfl, _, rfl⟩ : Ti = some ⟨ti, 0, none⟩ ∧ True ∧ di = di' := by injection e1 with e1 e2 e3; exact ⟨e1, trivial, e3⟩
            obtain ⟨tz, dz', _, e1', _, _, _, _, _, helz⟩ := HQz9.out.shape (by rw [HN.out.2.2.1]; omega)
            obtain ⟨rfl, _, rfl⟩ : Tz = some ⟨tz, 0, none⟩ ∧ True ∧ dz = dz' := by injection e1' with e1 e2 e3; exact ⟨e1, trivial, e3⟩
            clear e1 e1'
            obtain ⟨vi, hli, hri, hqi⟩ := heli j q hq
            obtain ⟨vz, hlz, hrz, hqz⟩ := helz j p hp
            have HRc : Hid (wr.rangeAt tz (j * 6) [.int .i64 p.ch.id, .int .i64 p.ch.src, .int .i64 p.ch.dst, .int .i64 p.ch.cap, .int .i64 p.ch.size]) := Lib.hid (by
              obtain ⟨mm, rfl, _⟩ := hqz
              intro k v hk
              refine HG.out.cell_some (hrz k v ?_) (fun e => e)
              rcases k with _ | _ | _ | _ | _ | k
              · exact hk
              · exact hk
              · exact hk
              · exact hk
              · exact hk
              · simp at hk)
            clear hpc
            go_wp2_with (first
              | (refine sel (some 195) (.load 93 (.tmp 194)) ?_; refine wpList_load_mid rfl 93 (.tmp 194) rfl tz (j * 6) rfl [.int .i64 p.ch.id, .int .i64 p.ch.src, .int .i64 p.ch.dst, .int .i64 p.ch.cap, .int .i64 p.ch.size] _ HRc.out Tryz.underlying93 rfl (by kernel_rfl) ?_)
              | (refine sel none (.store 93 (.tmp 18) (.tmp 195)) ?_; refine Vm_stop ?_))
            refine HoleV.mk ?_
            refine wpList_store_rowA rfl 93 (.tmp 18) (.tmp 195) rfl wr.heap.size #[.int .i64 p.ch.id, .int .i64 p.ch.src, .int .i64 p.ch.dst, .int .i64 p.ch.cap, .int .i64 p.ch.size] rfl rfl 93 _ (blk_new _ _) (by kernel_rfl) rfl (by simp [Value.oneCell']) ?_
            intro W5 hgW hbW
            have huW : Chg Non wr W5 := ((Chg.refl Non wr).alloc _).then_new hgW (fun x e => by omega)
            have HG5 := Lib.hid (HG.out.then_non huW)
            obtain ⟨gc, hgc⟩ : ∃ g, wr.heap.size = g := ⟨_, rfl⟩
            rw [hgc] at hbW ⊢
            have c1f := blk_cell hbW 1 (v := .int .i64 p.ch.src) rfl
            have c2f := blk_cell hbW 2 (v := .int .i64 p.ch.dst) rfl
            have s1 := blk_cell (blk_keep HBs9.out HG5.out (fun e => e)) 1 (v := .int .i64 sp) rfl
            have i2 := blk_cell (blk_keep HBi9.out HG5.out (fun e => e)) 2 (v := .slice (some ⟨ti, 0, none⟩) m di) rfl
            have z2 := blk_cell (blk_keep HBz9.out HG5.out (fun e => e)) 2 (v := .slice (some ⟨tz, 0, none⟩) m dz) rfl
            have hqi5 := range_keepS hri HG5.out (fun e => e)
            have hqz5 := range_keepS hrz HG5.out (fun e => e)
            have hvi5 := quV_non _ _ _ _ HG5.out hqi
            have hvz5 := quV_non _ _ _ _ HG5.out hqz
            have HPe : Hid (p.ch.src ≠ sp → p.ch.dst ≠ sp → p = q) := Lib.hid hpe
            obtain ⟨qs, hqs⟩ : ∃ x, p.ch.src = x := ⟨_, rfl⟩
            obtain ⟨qd, hqd⟩ : ∃ x, p.ch.dst = x := ⟨_, rfl⟩
            rw [hqs, hqd] at HPe
            rw [hqs] at c1f
            rw [hqd] at c2f
            have HL36 : Hid (∀ cd, subW [true, true, true, true, false, true, false, false, true, false, false, true, true, false, false, false, false, true, true, true, true, true, true, true, true, false, true, false, false, true, false, false, true, false] Tryz.f6.body = some cd → ∀ T : Array Value, T = sl36 (fun j => T.getD j undef) gs gz gi gc j → cd.wp Tryz.prog (P36 W5 ⟨T, []⟩) ⟨T, []⟩ W5) := Lib.hid (fun cd hcd T hT => by
              by_cases hs' : qs = sp
              · exact r36_a W5 gs gz gi gc j qs qd sp c1f c2f s1 hs' cd hcd T hT
              · by_cases hd' : qd = sp
                · exact r36_b W5 gs gz gi gc j qs qd sp c1f c2f s1 hs' hd' cd hcd T hT
                · obtain rfl : p = q := HPe.out hs' hd'
                  exact r36_c W5 gs gz gi gc j qs qd sp c1f c2f s1 hs' hd' m di dz ti tz hji i2 z2 vi vz hli hlz hqi5 hqz5 (fun W hW => chSame_eq _ _ W p vi vz (quV_non _ _ _ _ hW hvi5) (quV_non _ _ _ _ hW hvz5)) cd hcd T hT)
            clear hgW hbW huW hgc hq hp hpe heli helz hri hrz hli hlz hqi hqz HRc hqs hqd HG hqi5 hqz5 hvi5 hvz5 HPe
            go_wp2_with fail
            refine Code.wp_mono ?_ (HL36.out _ rfl _ (by kernel_rfl))
            rintro e act v6 ⟨rfl, z, rfl, hgv⟩
            simp only [put36, Act.put, List.setIfInBounds_toArray, List.set_cons_zero, List.set_cons_succ]
            have HGn := Lib.hid (HG5.out.then_non hgv)
            go_wp2_with fail
            exact ⟨⟨j + 1, by omega, by simp, HGn⟩, by simp [intOf]; omega⟩
           ·obtain rfl : j = m := by omega
            have hjd : decide ((j : Int) < (j : Int)) = false := by simp
            have HTn := Lib.hid (HT9.out.non HG.out)
            by_cases hnz : nn = 0
            ·subst hnz
             go_wp2_with fail
             exact ⟨⟨i + 1, by omega, by simp, Lib.hid ⟨_, HTn.out⟩⟩, by simp [intOf]; omega⟩
            ·have hnz0 : ((nn : Int) == 0) = false := by rw [beq_eq_false_iff_ne]; omega
             go_wp2_with fail
             exact ⟨⟨nn - 1, by omega, by rw [show ((nn : Int) - 1) = ((nn - 1 : Nat) : Int) by omega], Lib.hid ⟨_, HTn.out⟩⟩, by simp [intOf]; omega⟩
    ·have hid : decide ((i : Int) < (l.length : Int)) = false := by simpa using hil
     have HGf := Lib.hid (HGw.out.then_non HT.out.chg)
     have HGu := Lib.hid HT.out.chg
     clear HT
     go_wp2_with fail
     refine (awake_ok _ (HE3.out.non HGu.out)).mono ?_
     rintro e v ⟨rfl, hg⟩
     go_wp2_with fail
     go_ret
     exact ⟨rfl, HGf.out.then_non hg⟩
end
section
open Go.ChangeShapes Go.WideShapes Go.ChangeAt Go.RowKit
theorem post_below {H : Type} {enc : TypeId × Value → H} {P : Program} {f : Func} {s : ChangeSpec} {apart fresh handsOn again : Bool} {W W' : World} {args : Array Value} {v : Value} {ds gs : List (DataW H)} {before pa pv : List MemPlace}
  (hW : DataW.Whole enc P f.params.toList s.vars apart W args.toList ds gs before)
  (hres : ∀ (b : Nat) (sp : Nat → Bool) (hd : Bool), DataW.TrodAll enc P W' b sp hd f.resultTypes.toList (v.resultList f.resultTypes.size) (s.fn H (ds ++ gs)).results [])
  (hargs : ∀ sp : Nat → Bool, (∀ p ∈ before, sp p.block = true) → DataW.TrodAll enc P W' 0 sp true f.params.toList args.toList (s.fn H (ds ++ gs)).args pa)
  (hvars : ∀ sp : Nat → Bool, (∀ p ∈ before, sp p.block = true) → DataW.TrodVars enc P W' sp s.vars (s.fn H (ds ++ gs)).vars pv)
  (hps : before = pa ++ pv) (hb : Below W.heap.size W W')
  (hok : ∀ (j : Nat) (t : TypeId) (r : Value), f.resultTypes[j]? = some t → (v.resultList f.resultTypes.size)[j]? = some r → Value.okWide P W' .any 0 t r) :
  s.post enc P f apart fresh handsOn again W args v W' := by
 have hlt := hW.lt
 have hold : ∀ p ∈ before, (fun b => decide (b < W.heap.size)) p.block = true := fun p hp => by simpa using hlt p hp
 refine ⟨ds, gs, before, [], pa, pv, hW, hres _ _ _, hargs _ hold, hvars _ hold, World.keptBut_mono (fun p hp => ⟨hp, ?_⟩) (hb.frame (· ∈ before)), fun _ => ?_⟩
 ·rw [hps, List.mem_append] at hp
  exact Or.inr hp
 ·obtain ⟨_, _, _, _, _, hz, hn⟩ := hW
  refine ⟨hok, _, _, ([] ++ pa) ++ pv, ⟨[] ++ pa, pv, trodAll_append (hargs _ (fun _ _ => rfl)) (hres _ _ _), hvars _ (fun _ _ => rfl), rfl, ?_, ?_⟩, ?_⟩
  ·intro b off hp
   have hp' : MemPlace.cell b off ∈ before := by rw [hps]; simpa using hp
   rw [hb.frozen (show b < W.heap.size from hlt _ hp')]
   exact hz b off hp'
  ·intro ha
   have := hn ha
   rw [hps] at this
   simpa using this
  ·intro p hp _
   rw [hps]
   simpa using hp
end
section
open Go.ChangeShapes Go.WideShapes Go.ChangeAt Go.RowKit
section
variable {H : Type} {enc : TypeId × Value → H} {P : Program}
theorem sameAt_below {W W' : World} (hb : Below W.heap.size W W') {p : MemPlace} (hp : p.block < W.heap.size) : W.sameAt W' p := by
 cases p with
 | cell b off => exact hb.cell (p := ⟨b, off, none⟩) hp
 | map b => exact hb.block b hp
theorem trodAll_carry {W W' : World} {base : Nat} {sp : Nat → Bool} {hd : Bool} : ∀ {ts : List TypeId} {vs : List Value} {ds : List (DataW H)} {ps : List MemPlace},
  DataW.TrodAll enc P W base sp hd ts vs ds ps → (∀ p ∈ ps, W.sameAt W' p) → DataW.TrodAll enc P W' base sp hd ts vs ds ps
 | [], [], [], _, h, _ => h
 | _ :: _, _ :: _, _ :: _, _, ⟨p, q, ⟨n, h1⟩, h2, e⟩, hs =>
  ⟨p, q, ⟨n, DataW.trod_carry n _ _ _ h1 (fun x hx => hs x (by rw [e]; exact List.mem_append_left _ hx))⟩,
    trodAll_carry h2 (fun x hx => hs x (by rw [e]; exact List.mem_append_right _ hx)), e⟩
theorem post_law {f : Func} {s : ChangeSpec} {apart fresh handsOn again : Bool} {W W' : World} {args : Array Value} {tb : TypeId} {ds gs : List (DataW H)} {before : List MemPlace}
  (K : Kids P (· < P.types.size)) (hz : ∀ t e, t < P.types.size → P.underlying t = some (.slice e) → 0 < P.cellsOf e)
  (hT : ∀ t ∈ f.params.toList, t < P.types.size) (hr : f.resultTypes = #[tb]) (hub : P.underlying tb = some .bool)
  (hW : DataW.Whole enc P f.params.toList s.vars apart W args.toList ds gs before) (hv : s.vars = [])
  (hs : (s.fn H (ds ++ gs)).results = [.lit (.bool true)]) (ha : (s.fn H (ds ++ gs)).args = ds) (hv2 : (s.fn H (ds ++ gs)).vars = []) (hb : Below W.heap.size W W') :
  s.post enc P f apart fresh handsOn again W args (.bool true) W' := by
 have hW' := hW
 have hlt := hW.lt
 obtain ⟨p, q, hA, hV, rfl, hfz, hnd⟩ := hW
 rw [hv] at hV
 obtain ⟨rfl, rfl⟩ := trodVars_none hV
 rw [List.append_nil] at hlt
 refine post_below (pa := p) (pv := []) hW' ?_ ?_ ?_ rfl hb ?_
 ·intro b sp hd
  rw [hr, hs]
  exact trodAll_cons_mk (shut_bool hub _) trodAll_mk0
 ·intro sp hsp
  rw [ha]
  exact DataW.TrodAll.respare K hz hT (trodAll_carry hA (fun x hx => sameAt_below hb (hlt x hx))) (fun x hx => hsp x (by simpa using hx))
 ·intro sp _
  rw [hv, hv2]
  rfl
 ·exact ok_one hr rfl (okWide_bool_mk hub _)
theorem open_bytes {r : Reach} {b0 : Nat} {W : World} {t e : TypeId} {v : Value} {d : DataW H} {ps : List MemPlace} (ht : P.underlying t = some (.slice e)) (he : P.underlying e = some (.int .u8)) (hc : P.cellsOf e = 1)
  (hval : Value.okWide P W r b0 t v) (h : DataW.Trod enc P W 0 (fun _ => true) true t v d ps) :
  ∃ (B : Option Addr) (l : List UInt8) (c : Nat), v = .slice B l.length c ∧ Rd W B l ∧ l.length ≤ c ∧ c ≤ maxLen := by
 obtain ⟨a, len, cap, rfl⟩ := okWide_slice ht hval
 obtain ⟨fuel, hf⟩ := h
 rcases open_ints ht he hc hf with ⟨h0, _⟩ | ⟨a', len', cap', zs, h0, _, hl, hm, hzl, _, hcell, hwf⟩
 ·simp only [Value.cells, List.cons.injEq, Value.slice.injEq, and_true] at h0
  obtain ⟨rfl, rfl, rfl⟩ := h0
  exact ⟨none, [], 0, rfl, Rd.nil _ _, Nat.le_refl _, by simp⟩
 ·simp only [Value.cells, List.cons.injEq, Value.slice.injEq, and_true] at h0
  obtain ⟨rfl, rfl, rfl⟩ := h0
  simp only [if_true] at hzl
  have hnum : ∀ n ∈ zs, ((UInt8.ofNat n.toNat).toNat : Int) = n := by
   intro n hn
   obtain ⟨h1, h2⟩ := bounds_u8 (hwf n hn)
   simp only [UInt8.toNat_ofNat']
   omega
  refine ⟨some a', (zs.take len).map (fun n => UInt8.ofNat n.toNat), cap, by simp [hzl, Nat.min_eq_left hl], ?_, by simp [hzl, hl, Nat.min_eq_left hl], hm⟩
  intro i x hx
  rw [List.getElem?_map] at hx
  obtain ⟨n, hn, rfl⟩ := Option.map_eq_some_iff.1 hx
  have hi : i < (zs.take len).length := (List.getElem?_eq_some_iff.1 hn).1
  rw [List.length_take] at hi
  have hn' : zs[i]? = some n := by rw [← hn, List.getElem?_take_of_lt (by omega)]
  obtain ⟨b, off, rfl, hc2⟩ := ints_at hcell (by omega)
  refine ⟨b, off, rfl, ?_⟩
  rw [hc2 i (by omega), List.getD, hn', Option.getD_some, hnum n (List.mem_of_getElem? hn')]
end
end
section
open Go.ChangeShapes Go.WideShapes Go.ChangeAt Go.RowKit
section
variable {H : Type} {P : Program}
theorem wt_all {e : TypeId} {d : DataW H} {n : Nat} : ∀ {l : List (DataW H)}, d ∈ l → n ∈ d.weights P e → n ∈ DataW.weightsAll P e l
 | x :: r, h, hn => by
  simp only [DataW.weightsAll, List.mem_append]
  rcases List.mem_cons.1 h with rfl | h
  ·exact .inl hn
  ·exact .inr (wt_all h hn)
def SizedD (P : Program) (t : TypeId) (d : DataW H) : Prop := ∀ n ∈ d.weights P t, n ≤ reachBytes
theorem SizedD.elem {t e : TypeId} {a b : List (DataW H)} (h : SizedD P t (.slice a b)) (hu : P.underlying t = some (.slice e)) {d : DataW H} (hd : d ∈ a) : SizedD P e d := fun n hn => by
 refine h n ?_
 simp only [DataW.weights, hu, List.mem_cons, List.mem_append]
 exact .inr (.inl (wt_all hd hn))
theorem SizedD.len {t e : TypeId} {a b : List (DataW H)} (h : SizedD P t (.slice a b)) (hu : P.underlying t = some (.slice e)) : (a.length + b.length) * P.bytesOf e ≤ reachBytes := by
 refine h _ ?_
 simp only [DataW.weights, hu, List.mem_cons, true_or]
theorem SizedD.field {t : TypeId} {fs : Array Field} {parts : List (DataW H)} (h : SizedD P t (.agg parts)) (hu : P.underlying t = some (.struct fs)) {i : Nat} {f : Field} {d : DataW H} (hi : fs[i]? = some f) (hd : parts[i]? = some d) : SizedD P f.type d := fun n hn => by
 refine h n ?_
 simp only [DataW.weights, hu]
 refine DataW.weights_mem_each (j := i) (t := f.type) ?_ hd n hn
 rw [List.getElem?_map, Array.getElem?_toList, hi]
 rfl
end
section
variable {H : Type} {enc : TypeId × Value → H} {W : World}
theorem bytes_is {P : Program} {t e : TypeId} {fuel : Nat} {cs : List Value} {x : DataW H × List MemPlace} (ht : P.underlying t = some (.slice e)) (he : P.underlying e = some (.int .u8)) (hc : P.cellsOf e = 1)
  (hf : DataW.trod enc P W 0 (fun _ => true) true fuel t cs = some x) : ∃ (B : Option Addr) (l : List UInt8) (c : Nat), cs = [.slice B l.length c] ∧ Rd W B l ∧ l.length ≤ c ∧ c ≤ maxLen ∧ (P.bytesOf e = 1 → SizedD P t x.1 → c ≤ 140737488351232) := by
 rcases open_ints ht he hc hf with ⟨h0, _⟩ | ⟨a', len', cap', zs, h0, _, hl, hm, hzl, hx, hcell, hwf⟩
 ·exact ⟨none, [], 0, h0, Rd.nil _ _, Nat.le_refl _, by simp, fun _ _ => by omega⟩
 ·simp only [if_true] at hzl
  have hnum : ∀ n ∈ zs, ((UInt8.ofNat n.toNat).toNat : Int) = n := by
   intro n hn
   obtain ⟨h1, h2⟩ := bounds_u8 (hwf n hn)
   simp only [UInt8.toNat_ofNat']
   omega
  refine ⟨some a', (zs.take len').map (fun n => UInt8.ofNat n.toNat), cap', by rw [h0]; simp [hzl, Nat.min_eq_left hl], ?_, by simp [hzl, hl, Nat.min_eq_left hl], hm, ?_⟩
  ·intro i x hx
   rw [List.getElem?_map] at hx
   obtain ⟨n, hn, rfl⟩ := Option.map_eq_some_iff.1 hx
   have hi : i < (zs.take len').length := (List.getElem?_eq_some_iff.1 hn).1
   rw [List.length_take] at hi
   have hn' : zs[i]? = some n := by rw [← hn, List.getElem?_take_of_lt (by omega)]
   obtain ⟨b, off, rfl, hc2⟩ := ints_at hcell (by omega)
   refine ⟨b, off, rfl, ?_⟩
   rw [hc2 i (by omega), List.getD, hn', Option.getD_some, hnum n (List.mem_of_getElem? hn')]
  ·intro hb hs
   rw [hx] at hs
   have := hs.len ht
   rw [hb] at this
   simp only [lits, List.length_map, List.length_take, List.length_drop, Nat.mul_one, reachBytes] at this
   omega
end
end
end Go.Proofs.YtmnaleaghfbclaaGreatDoor
