/- KernelTime, part 25 of 28: contracts of the functions that it reaches, and the laws that they need, merged and shortened (from my texts XVnA, XKerG). -/
import Derived.Test.YtmnaleaghfbclaaGreatDoorMgKernelTimeA
import Derived.Test.YtmnaleaghfbclaaGreatDoorMgKernelTimeP
import Derived.Test.YtmnaleaghfbclaaGreatDoorMgKernelTimeS
import Derived.Test.YtmnaleaghfbclaaGreatDoorMgKernelTimeX
namespace Go.Proofs.YtmnaleaghfbclaaGreatDoor
set_option linter.unusedVariables false
set_option linter.unusedSimpArgs false
set_option maxHeartbeats 8000000
section
theorem mk2_lt (k b c : Nat) (hb : b < 4294967296) (hc : c < 4294967296) : mk2 k b c < 4294967296 := by
 unfold mk2
 have h32 : (2 : Nat) ^ 32 = 4294967296 := by decide
 split
 ·exact Nat.mod_lt _ (by omega)
 split
 ·exact Nat.mod_lt _ (by omega)
 split
 ·exact Nat.mod_lt _ (by omega)
 split
 ·have := Nat.and_le_left (n := b) (m := c); omega
 split
 ·rw [← h32] at hb hc ⊢; exact Nat.or_lt_two_pow hb hc
 split
 ·rw [← h32] at hb hc ⊢; exact Nat.xor_lt_two_pow hb hc
 split
 ·exact Nat.mod_lt _ (by omega)
 split
 ·exact Nat.lt_of_le_of_lt (Nat.div_le_self _ _) hb
 split
 ·split <;> omega
 ·omega
theorem Pt.Bd.set {p : Pt} (h : p.Bd) (a v : Nat) (hv : v < 4294967296) : (p.set a v).Bd := by
 obtain ⟨h1, h2, h3, h4, h5, h6⟩ := h
 refine ⟨by simp [Pt.set, h1], ?_, h3, h4, h5, h6⟩
 intro i
 simp only [Pt.set]
 rw [List.getD_eq_getElem?_getD, List.getElem?_set]
 split
 ·split
  ·exact hv
  ·show (0 : Nat) < 4294967296; omega
 ·rw [← List.getD_eq_getElem?_getD]
  exact h2 i
theorem Pt.Bd.pc {p : Pt} (h : p.Bd) (v : Nat) (hv : v < 4294967296) : Pt.Bd { p with pc := v } := ⟨h.r8, h.rb, hv, h.stb, h.idb, h.sizeb⟩
theorem Pt.Bd.st {p : Pt} (h : p.Bd) (v : Nat) (hv : v < 256) : Pt.Bd { p with st := v } := ⟨h.r8, h.rb, h.pcb, hv, h.idb, h.sizeb⟩
theorem Pt.Bd.mem {p : Pt} (h : p.Bd) (l : List UInt8) : Pt.Bd { p with mem := l } := ⟨h.r8, h.rb, h.pcb, h.stb, h.idb, h.sizeb⟩
theorem cut_leA (l : List UInt8) (a n : Nat) : (cut l a n).length ≤ n := by
 unfold cut
 rw [List.length_take]
 omega
theorem does_bd {x : Ins} {p q : Pt} (hp : p.Bd) (hn : x.n.toNat < 65536) (h : does x p = some q) : q.Bd := by
 have hg : ∀ a, p.g a < 4294967296 := hp.rb
 unfold does at h
 simp only at h
 split at h
 ·injection h with h; subst h; exact hp.set _ _ (by omega)
 split at h
 ·injection h with h; subst h
  have h1 : p.g x.a * 65536 % 4294967296 < 4294967296 := Nat.mod_lt _ (by omega)
  have h32 : (2 : Nat) ^ 32 = 4294967296 := by decide
  refine hp.set _ _ ?_
  rw [← h32]
  exact Nat.or_lt_two_pow (by omega) (by omega)
 split at h
 ·injection h with h; subst h; exact hp.set _ _ (hg _)
 split at h
 ·injection h with h; subst h; exact hp.set _ _ (mk2_lt _ _ _ (hg _) (hg _))
 split at h
 ·split at h
  ·injection h with h; subst h; exact hp.set _ _ (num32_lt _ (Nat.le_trans (cut_leA _ _ _) (by omega)))
  ·cases h
 split at h
 ·split at h
  ·injection h with h; subst h; exact hp.set _ _ (num32_lt _ (cut_leA _ _ _))
  ·cases h
 split at h
 ·split at h
  ·injection h with h; subst h; exact hp.mem _
  ·cases h
 split at h
 ·split at h
  ·injection h with h; subst h; exact hp.mem _
  ·cases h
 ·injection h with h; subst h; exact hp
theorem step_bd {p : Pt} (hp : p.Bd) : (stepV p).1.Bd ∧ ((stepV p).2.1 < 0 → (stepV p).2.1 = -1) ∧ ((stepV p).2.1 ≤ 65535) := by
 by_cases hs : p.st = 0
 ·cases hf : fetch p with
  | none => rw [stepV_nof hs hf]; exact ⟨hp.st 3 (by omega), fun _ => rfl, by show (-1 : Int) ≤ 65535; omega⟩
  | some x =>
   cases hm : mayB x with
   | false => rw [stepV_bad hs hf hm]; exact ⟨hp.st 2 (by omega), fun _ => rfl, by show (-1 : Int) ≤ 65535; omega⟩
   | true =>
    have hi := (mayB_iff x).1 hm
    have hn := opAt_n x.op
    have hn0 := hi.2.2.2.2.1
    have hn1 := hi.2.2.2.2.2
    cases hj : jumpsB x p with
    | true => rw [stepV_jump hs hf hm hj]; exact ⟨hp.pc _ (by omega), fun _ => rfl, by show (-1 : Int) ≤ 65535; omega⟩
    | false =>
     cases hd : does x p with
     | none => rw [stepV_fail hs hf hm hj hd]; exact ⟨hp.st 3 (by omega), fun _ => rfl, by show (-1 : Int) ≤ 65535; omega⟩
     | some q =>
      rw [stepV_does hs hf hm hj hd]
      refine ⟨(does_bd hp (by omega) hd).pc _ (Nat.mod_lt _ (by omega)), ?_, ?_⟩
      ·simp only
       split
       ·intro h; omega
       ·intro _; rfl
      ·simp only
       split <;> omega
 ·rw [stepV_stop hs]; exact ⟨hp, fun _ => rfl, by show (-1 : Int) ≤ 65535; omega⟩
end
section
open Go.RowKit
theorem BytesV.keep2w {B : Nat} {w V : World} {l : List UInt8} {v : Value} (hb : BytesV (fun b => B ≤ b ∧ b ≠ B) w l v) (h1 : Chg (fun b => b = B) w V) : BytesV (fun b => B ≤ b) V l v := (hb.keep h1 (fun b e e2 => e.2 e2)).mono (fun b e => e.1)
set_option maxRecDepth 100000 in
theorem does_ok (N : Nat → Prop) (w : World) (k : Kn) (a : KAt) (i : Nat) (p : Pt) (h : KerB N w k a) (hN : ∀ b, N b → b < w.heap.size) (hgd : k.Good) (hp : k.s.parts[i]? = some p) :
  Calls Tryz.prog 229 #[.int .i64 i, .pointer (some ⟨a.p, 0, none⟩)] w fun e w' => e = .returned (.tuple #[]) ∧ KerB N w' (doesV i k) a ∧ Chg a.own w w' := by
 obtain ⟨ap, q, v1, v2, v3, vp⟩ := a
 have hil := (List.getElem?_eq_some_iff.1 hp).1
 obtain ⟨g, cap, cur, e1, hBg, hgb, r1, r2, r3, hat⟩ := h.parts.shape (by omega)
 simp only at e1
 subst e1
 obtain ⟨vs, hvl, hrg, m, rfl, hbm, hbd, hml⟩ := hat i p hp
 obtain ⟨hm16, hm512⟩ := partOk_mem (hgd.pm p (List.mem_of_getElem? hp))
 obtain ⟨A, c, rfl, hc, hcm, hrm, _⟩ := hbm
 obtain ⟨vq, hk0, _⟩ := h.cell
 have f5 : w.cell? ⟨ap, 5, none⟩ = some (.slice (some ⟨g, 0, none⟩) k.s.parts.length cap) := blk_cell hk0 5 rfl
 have HK := Lib.hid h
 have HRG := Lib.hid hrg
 have HRm := Lib.hid hrm
 have HBD := Lib.hid hbd
 have HGD := Lib.hid hgd
 have hik : (i : Int) < (k.s.parts.length : Int) := by omega
 have hwN : ¬ N w.heap.size := fun e => by have := hN _ e; omega
 clear h hat hrg hrm hgb r1 r2 r3 hgd hk0
 show Calls _ _ #[.int .i64 (i : Int), .pointer (some ⟨ap, 0, none⟩)] _ _
 go_enter Tryz.func229, Tryz.ntmps229
 go_wp2_with (first
   | (refine sel (some 15) (.load 69 _) ?_; refine wpList_load_mid rfl 69 (.tmp 14) rfl g (i * 14) rfl (partL p (.slice A p.mem.length c)) _ HRG.out Tryz.underlying69 rfl (by rw [hvl]; exact info_part) ?_)
   | (refine sel none (.store 69 (.tmp 4) (.tmp 15)) ?_
      refine wpList_store_rowA rfl 69 (.tmp 4) (.tmp 15) rfl w.heap.size (partC p (.slice A p.mem.length c)) rfl rfl 69 zeroPart (blk_new _ _) (by rw [partC_size HBD.out.r8]; exact info_part) (by rw [partC_size HBD.out.r8]; rfl) (partC_one _ _ rfl) ?_
      refine Vm_stop ?_))
 refine HoleV.mk ?_
 intro W1 hgW hbW
 have hg1 : Chg Non w W1 := ((Chg.refl Non w).alloc _).then_new hgW (fun x e => by omega)
 have HG1 := Lib.hid hg1
 have HWP := Lib.hid hbW
 obtain ⟨vq, hk1, hsq⟩ := (HK.out.non hg1).cell
 have f10 : W1.cell? ⟨ap, 10, none⟩ = some (.bool k.yl) := blk_cell hk1 10 rfl
 have c12 : W1.cell? ⟨w.heap.size, 12, none⟩ = some (.int .u8 (p.st : Nat)) := blk_cell hbW 12 (partC_end HBD.out.r8 _ 1 (by omega))
 clear hgW hbW hg1 hk1 hsq f5
 by_cases hst : p.st = 0
 ·rw [hst] at c12
  cases hy : k.yl with
  | true =>
   have HE : Hid (doesV i k = k) := Lib.hid (by unfold doesV; rw [hp]; simp only; rw [if_neg (fun e => by rw [hy] at e; cases e.2)])
   rw [hy] at f10
   go_wp2
   (try simp only [Exit.inBlock, Exit.then])
   refine bodyPost_ret (results_none rfl _ _ _) rfl ?_
   refine ⟨rfl, ?_, HG1.out.of_non⟩
   rw [HE.out]
   exact HK.out.non HG1.out
  | false =>
   rw [hy] at f10
   have hS := Step_ok p A c W1 HBD.out (HRm.out.non HG1.out) (by omega)
   have hbd1 := (step_bd HBD.out).1
   have hD : doesV i k = if (stepV p).2.1 < 0 then { k with s := { k.s with parts := k.s.parts.set i (stepV p).1 } } else { k with s := { k.s with parts := k.s.parts.set i (doV (stepV p).2.1 (stepV p).1 (k.wld (stepV p).1)).1, queues := (doV (stepV p).2.1 (stepV p).1 (k.wld (stepV p).1)).2.1.qs }, inp := updI k.inp (stepV p).1.id (doV (stepV p).2.1 (stepV p).1 (k.wld (stepV p).1)).2.1.inp, yl := (doV (stepV p).2.1 (stepV p).1 (k.wld (stepV p).1)).2.2 } := by
    unfold doesV
    rw [hp]
    simp only
    rw [if_pos ⟨hst, hy⟩]
   have hst1 : ¬ (stepV p).2.1 < 0 → (stepV p).1.st = 0 := fun e => (step_call e).2
   have hml1 := (step_id p).2.2.2
   obtain ⟨p1, hp1⟩ : ∃ x, (stepV p).1 = x := ⟨_, rfl⟩
   obtain ⟨cl, hcl⟩ : ∃ x, (stepV p).2.1 = x := ⟨_, rfl⟩
   obtain ⟨er, her⟩ : ∃ x : Nat, (stepV p).2.2 = x := ⟨_, rfl⟩
   rw [hp1, hcl, her] at hS
   rw [hp1, hcl] at hD
   rw [hcl, hp1] at hst1
   rw [hp1] at hbd1 hml1
   have HS := Lib.hid hS
   have HD := Lib.hid hD
   have HB1 := Lib.hid hbd1
   have hm1 : 16 ≤ p1.mem.length ∧ p1.mem.length ≤ 512 := by omega
   clear hS hD hbd1 hp1 hcl her hml1 hp hst hy
   go_wp2_with (refine sel (some 26) (.load 69 _) ?_; refine wpList_load_mid rfl 69 (.tmp 4) rfl w.heap.size 0 rfl (partL p (.slice A p.mem.length c)) _ (blk_range HWP.out) Tryz.underlying69 rfl (by rw [partL_len HBD.out.r8]; exact info_part) ?_)
   refine HS.out.mono ?_
   rintro e u ⟨A', c', rfl, q1, q2, q3, hg⟩
   have HGu := Lib.hid (HG1.out.then_non hg)
   have HWPu := Lib.hid (blk_keep HWP.out hg (fun e => e))
   have hw1 := blk_lt HWP.out
   have HM1 : Hid (BytesV (fun b => w.heap.size ≤ b ∧ b ≠ w.heap.size) u p1.mem (.slice A' p1.mem.length c')) := Lib.hid ((own_bytes q3 q1 q2).mono (fun b e => by have : W1.heap.size ≤ b := e; omega))
   clear c12 f10 hg q3 HWP HS
   go_wp2_with (refine sel none (.store 69 (.tmp 4) (.tmp 28)) ?_
                refine wpList_store_rowA rfl 69 (.tmp 4) (.tmp 28) rfl w.heap.size (partC p1 (.slice A' p1.mem.length c')) rfl rfl 69 _ HWPu.out (by rw [partC_size HB1.out.r8]; exact info_part) (by rw [partC_size HB1.out.r8, partC_size HBD.out.r8]) (partC_one _ _ rfl) ?_
                refine Vm_stop ?_)
   refine HoleV.mk ?_
   intro W2 hgW hbW
   have HG2 := Lib.hid (HGu.out.then_new hgW (fun x e => by omega))
   have HWP2 := Lib.hid hbW
   have HM2 : Hid (BytesV (fun b => ¬ N b) W2 p1.mem (.slice A' p1.mem.length c')) := Lib.hid ((HM1.out.keep2w hgW).mono (fun b e e2 => by have := hN b e2; have e' : w.heap.size ≤ b := e; omega))
   clear hgW hbW HM1 HWPu HGu
   by_cases hcl : cl < 0
   ·have dcl : decide (cl ≥ 0) = false := by simp; omega
    have HE : Hid (doesV i k = { k with s := { k.s with parts := k.s.parts.set i p1 } }) := Lib.hid (by rw [HD.out, if_pos hcl])
    go_wp2_with fail
    obtain ⟨X9, hX9⟩ : ∃ x, x = W2 := ⟨_, rfl⟩
    rw [← hX9] at HG2 HWP2 HM2 ⊢
    obtain ⟨V, hV9⟩ : ∃ x, x = X9.drew := ⟨_, rfl⟩
    have hgV : Chg Non X9 V := by rw [hV9]; exact (Chg.refl Non X9).drew
    have HKz := Lib.hid ((HK.out.non HG2.out).non hgV)
    have HGz : Hid (Chg (KAt.own ⟨ap, q, v1, v2, v3, .slice (some ⟨g, 0, none⟩) k.s.parts.length cap⟩) w V) := Lib.hid (HG2.out.then_non hgV).of_non
    have HWPz := Lib.hid (blk_keep HWP2.out hgV (fun e => e))
    have HBDz := HB1
    have HMz := Lib.hid (HM2.out.non hgV)
    have hlz : p1.mem.length ≤ 140737488351232 := by omega
    clear hgV
    have hoz : ((.slice A' p1.mem.length c') : Value).oneCell' = true := by obtain ⟨A, c, e, _⟩ := HMz.out; rw [e]; rfl
    obtain ⟨vqz, hkz, _⟩ := HKz.out.cell
    have f5z : V.cell? ⟨ap, 5, none⟩ = some (.slice (some ⟨g, 0, none⟩) k.s.parts.length cap) := blk_cell hkz 5 rfl
    have hapg : ¬ (⟨ap, 5, none⟩ : Addr).block = g := fun e => HKz.out.apart.2.1 (by rw [show ap = g from e]; rfl)
    have hwg : ¬ w.heap.size = g := fun e => by have := hN g (HKz.out.sub g (.inr (.inr rfl))); omega
    obtain ⟨g', cap', cur, e1, _, hgbz, s1, _, s3, _⟩ := HKz.out.parts.shape (show 0 < k.s.parts.length by omega)
    injection e1 with a1 a2 a3
    injection a1 with a1
    injection a1 with a1 _ _
    clear a2
    subst a1 a3
    have hcur : i * 14 + 14 ≤ cur.size := by rw [s3]; have : i < k.s.parts.length := hil; have s1' : k.s.parts.length ≤ cap := s1; omega
    have HGBz := Lib.hid hgbz
    have hik : (i : Int) < (k.s.parts.length : Int) := by omega
    have hikd : decide ((i : Int) < (k.s.parts.length : Int)) = true := by simpa using hik
    clear hkz hgbz s1 s3
    refine wp_region_held_drew (S := Chg (fun b => b = g) X9.drew) (by kernel_rfl) (Chg.refl _ _) (fun hHeld => ?_)
    clear hHeld
    rw [← hV9]
    clear hV9
    refine hp 0 87 (.pointer (some ⟨ap, 0, none⟩)) rfl (Chg.refl _ _) ?_
    refine hp 1 88 (.pointer (some ⟨ap, 0, none⟩)) rfl (Chg.refl _ _) ?_
    refine hp 2 89 (.pointer (some ⟨ap, 4, none⟩)) rfl (Chg.refl _ _) ?_
    refine hp 3 90 (.pointer (some ⟨ap, 5, none⟩)) rfl (Chg.refl _ _) ?_
    refine hp 4 91 (.slice (some ⟨g, 0, none⟩) k.s.parts.length cap) rfl (Chg.refl _ _) ?_ (he := (fun W hW => by have hc := hW.cell_some f5z hapg; go_simp))
    refine hp 5 92 (.int .i64 i) rfl (Chg.refl _ _) ?_
    refine h_load 6 (some 93) 69 (.tmp 4) w.heap.size 0 (partC (p1) (.slice A' p1.mem.length c')) _ rfl (by kernel_rfl) (by kernel_rfl) (by kernel_rfl) (by kernel_rfl) (by kernel_rfl) (fun _ _ _ h => h) (by kernel_rfl) (by kernel_rfl) (fun W hW => range_keepS (blk_range HWPz.out) hW hwg) Tryz.underlying69 rfl (by rw [partC_size HBDz.out.r8]; exact info_part) (Chg.refl _ _) ?_
    simp only [Act.put, sA, sB, sC]
    refine hp 7 94 (.pointer (some ⟨g, i * 14, none⟩)) rfl (Chg.refl _ _) ?_
    refine h_one 8 (by kernel_rfl) rfl (by kernel_rfl) ?_
    intro K hK
    refine wp_store_mid 69 (.tmp 94) (.tmp 93) (by kernel_rfl) g (i * 14) (partC (p1) (.slice A' p1.mem.length c')) (by kernel_rfl) (by kernel_rfl) (by rw [partC_size HBDz.out.r8]; exact blk_there HGBz.out hcur) (by rw [partC_size HBDz.out.r8]; exact info_part) (partC_one _ _ hoz) ?_
    refine hK.out _ _ ((Chg.refl _ _).trans_same (sCells_chg g (partC (p1) (.slice A' p1.mem.length c')).toList (i * 14) _)) (fun _ => ?_)
    clear hK K
    try simp only [Act.put, sA, sB, sC]
    refine wpAnyH_done (by kernel_rfl) ?_ _
    have hst := sCells_chg g (partC (p1) ((.slice A' p1.mem.length c'))).toList (i * 14) V
    have hgN : N g := HKz.out.sub g (.inr (.inr rfl))
    have hkN : ∀ b, ¬ N b → ¬ b = g := fun b e e2 => e (by rw [e2]; exact hgN)
    have HOn : OwnL (ptV (fun b => ¬ N b)) 0 69 14 (V.setCells g (i * 14) (partC (p1) ((.slice A' p1.mem.length c'))).toList) (.slice (some ⟨g, 0, none⟩) k.s.parts.length cap) (k.s.parts.set i (p1)) :=
     OwnL.put (R := ptV (fun b => ¬ N b)) HKz.out.parts hil (by rw [Array.length_toList, partC_size HBDz.out.r8]) (fun a vs h => h.keep hst hkN) ⟨_, rfl, HMz.out.keep hst hkN, HBDz.out, hlz⟩
    have HKn := Lib.hid (HKz.out.setParts (hst.mono (fun x e => by subst e; rfl)) HOn HKz.out.ownN)
    have HGn := Lib.hid (HGz.out.trans_same (hst.mono (fun x e => by subst e; exact .inr (.inr rfl)) : Chg (KAt.own ⟨ap, q, v1, v2, v3, .slice (some ⟨g, 0, none⟩) k.s.parts.length cap⟩) V _))
    clear hst HOn f5z
    go_wp2
    go_end0
    refine ⟨rfl, ?_, HGn.out⟩
    rw [HE.out]
    exact HKn.out
   ·have dcl : decide (cl ≥ 0) = true := by simp; omega
    have hs1 := hst1 (by omega)
    obtain ⟨p2, wl2, y2, hD2⟩ : ∃ p2 wl2 y2, doV cl p1 (k.wld p1) = (p2, wl2, y2) := ⟨_, _, _, rfl⟩
    have HE : Hid (doesV i k = { k with s := { k.s with parts := k.s.parts.set i p2, queues := wl2.qs }, inp := updI k.inp p1.id wl2.inp, yl := y2 }) := Lib.hid (by rw [HD.out, if_neg hcl, hD2])
    have hwle : (k.waits p1.id).length ≤ 64 := waits_le HGD.out.il p1.id
    have hid2 : p2.id = p1.id := by have := (do_id cl p1 (k.wld p1)).1; rw [hD2] at this; exact this
    have hml2 : p2.mem.length = p1.mem.length := by have := (do_id cl p1 (k.wld p1)).2.2.2.1; rw [hD2] at this; exact this
    have hil2 : wl2.inp.length ≤ 64 := by
     have := (do_qs cl p1 (k.wld p1) HGD.out.qm).2.2
     rw [hD2] at this
     exact Nat.le_trans this hwle
    have hidb : I64 p1.id := HB1.out.idb
    have HId2 := Lib.hid hid2
    clear hid2
    have HDv := Lib.hid hD2
    clear hst1 hD2 HD
    go_wp2_with fail
    obtain ⟨v, hv9⟩ : ∃ x, x = W2.drew := ⟨_, rfl⟩
    have hgv : Chg Non W2 v := by rw [hv9]; exact (Chg.refl Non W2).drew
    have HGv := Lib.hid (HG2.out.then_non hgv)
    have HWPv := Lib.hid (blk_keep HWP2.out hgv (fun e => e))
    have HMv := Lib.hid (HM2.out.non hgv)
    have HKv := Lib.hid (HK.out.non HGv.out)
    obtain ⟨_, hkv, hsq⟩ := HKv.out.cell
    obtain ⟨Aq1, cq1, rfl, zq1⟩ := id hsq
    have HSq := Lib.hid hsq
    clear zq1
    have c4 : v.cell? ⟨ap, 4, none⟩ = some (.int .i64 k.s.frames) := blk_cell hkv 4 rfl
    have c6 : v.cell? ⟨ap, 6, none⟩ = some (.slice Aq1 k.s.queues.length cq1) := blk_cell hkv 6 rfl
    have c7 : v.cell? ⟨ap, 7, none⟩ = some (.int .i64 k.ver) := blk_cell hkv 7 rfl
    have c8 : v.cell? ⟨ap, 8, none⟩ = some (.int .i64 k.tick) := blk_cell hkv 8 rfl
    have c9 : v.cell? ⟨ap, 9, none⟩ = some (.map (some q)) := blk_cell hkv 9 rfl
    have cid : v.cell? ⟨w.heap.size, 0, none⟩ = some (.int .i64 p1.id) := blk_cell HWPv.out 0 rfl
    obtain ⟨mm, hmm, hin⟩ := HKv.out.inp
    have hbi := inp_look p1.id hin
    obtain ⟨Av, cv, hv, hv1, hv2, _⟩ := id hbi
    have hww : ((k.inp.find? (fun p => p.1 == p1.id)).map (·.2)).getD [] = k.waits p1.id := rfl
    rw [hww] at hbi hv hv1
    rw [hv] at hbi
    have hlk : ∀ W, Chg Non v W → (Instr.lookup 62 (.map (some q)) (.int .i64 p1.id) false).run Tryz.prog W = .ok (.slice Av (k.waits p1.id).length cv) W := fun W hW => by
     have := lookV_run hmm p1.id hidb W (hW.block _ hmm.lt (fun e => e))
     rw [hv] at this
     exact this
    have HBi := Lib.hid hbi
    clear hgv hkv hsq hmm hin hbi hv hv1 hv2 hww
    refine wp_region_held_drew (S := Chg Non W2.drew) (by kernel_rfl) (Chg.refl _ _) (fun hHeld => ?_)
    clear hHeld
    rw [← hv9]
    clear hv9
    refine hp 0 33 (.pointer (some ⟨ap, 0, none⟩)) rfl (Chg.refl _ _) ?_
    refine hp 1 34 (.pointer (some ⟨ap, 0, none⟩)) rfl (Chg.refl _ _) ?_
    refine hp 2 35 (.pointer (some ⟨ap, 4, none⟩)) rfl (Chg.refl _ _) ?_
    refine hp 3 36 (.pointer (some ⟨ap, 4, none⟩)) rfl (Chg.refl _ _) ?_
    refine hp 4 37 (.int .i64 k.s.frames) rfl (Chg.refl _ _) ?_ (he := (fun W hW => by have hc := hW.cell_some c4 (fun e => e); go_simp))
    refine hp 5 38 (.pointer (some ⟨ap, 0, none⟩)) rfl (Chg.refl _ _) ?_
    refine hp 6 39 (.pointer (some ⟨ap, 0, none⟩)) rfl (Chg.refl _ _) ?_
    refine hp 7 40 (.pointer (some ⟨ap, 8, none⟩)) rfl (Chg.refl _ _) ?_
    refine hp 8 41 (.int .i64 k.tick) rfl (Chg.refl _ _) ?_ (he := (fun W hW => by have hc := hW.cell_some c8 (fun e => e); go_simp))
    refine hp 9 42 (.pointer (some ⟨ap, 0, none⟩)) rfl (Chg.refl _ _) ?_
    refine hp 10 43 (.pointer (some ⟨ap, 0, none⟩)) rfl (Chg.refl _ _) ?_
    refine hp 11 44 (.pointer (some ⟨ap, 7, none⟩)) rfl (Chg.refl _ _) ?_
    refine hp 12 45 (.int .i64 k.ver) rfl (Chg.refl _ _) ?_ (he := (fun W hW => by have hc := hW.cell_some c7 (fun e => e); go_simp))
    refine hp 13 46 (.pointer (some ⟨ap, 0, none⟩)) rfl (Chg.refl _ _) ?_
    refine hp 14 47 (.pointer (some ⟨ap, 0, none⟩)) rfl (Chg.refl _ _) ?_
    refine hp 15 48 (.pointer (some ⟨ap, 4, none⟩)) rfl (Chg.refl _ _) ?_
    refine hp 16 49 (.pointer (some ⟨ap, 6, none⟩)) rfl (Chg.refl _ _) ?_
    refine hp 17 50 (.slice Aq1 k.s.queues.length cq1) rfl (Chg.refl _ _) ?_ (he := (fun W hW => by have hc := hW.cell_some c6 (fun e => e); go_simp))
    refine hp 18 51 (.pointer (some ⟨ap, 0, none⟩)) rfl (Chg.refl _ _) ?_
    refine hp 19 52 (.pointer (some ⟨ap, 0, none⟩)) rfl (Chg.refl _ _) ?_
    refine hp 20 53 (.pointer (some ⟨ap, 9, none⟩)) rfl (Chg.refl _ _) ?_
    refine hp 21 54 (.map (some q)) rfl (Chg.refl _ _) ?_ (he := (fun W hW => by have hc := hW.cell_some c9 (fun e => e); go_simp))
    refine hp 22 55 (.pointer (some ⟨w.heap.size, 0, none⟩)) rfl (Chg.refl _ _) ?_
    refine hp 23 56 (.int .i64 p1.id) rfl (Chg.refl _ _) ?_ (he := (fun W hW => by have hc := hW.cell_some cid (fun e => e); go_simp))
    refine hp 24 57 (.slice Av (k.waits p1.id).length cv) rfl (Chg.refl _ _) ?_ (he := (fun W hW => by have hl := hlk W hW; go_simp))
    refine hp 25 58 (.agg #[.int .i64 k.s.frames, .int .i64 k.tick, .int .i64 k.ver, (.slice Aq1 k.s.queues.length cq1), (.slice Av (k.waits p1.id).length cv)]) rfl (Chg.refl _ _) ?_ (he := (fun W hW => by kernel_rfl))
    refine h_one 26 (by kernel_rfl) rfl (by kernel_rfl) ?_
    intro K hK
    go_simp
    refine hK.out _ _ ((Chg.refl Non v).alloc _) (fun _ => ?_)
    clear hK K
    try simp only [Act.put, sA, sB, sC]
    refine h_store 27 313 (.tmp 7) (.tmp 58) v.heap.size #[.int .i64 k.s.frames, .int .i64 k.tick, .int .i64 k.ver, (.slice Aq1 k.s.queues.length cq1), (.slice Av (k.waits p1.id).length cv)] (by kernel_rfl) rfl (by kernel_rfl) rfl rfl rfl rfl 313 ⟨_, heap_alloc_new _ _, rfl⟩ (by kernel_rfl) (by simp [Value.oneCell']) (fun W hg hb => ((Chg.refl Non v).alloc _).then_new hg (fun x e => by omega)) ?_
    intro W3 hgW3 hbW3
    refine wpAnyH_done (by kernel_rfl) ?_ _
    have hgv3 : Chg Non v W3 := ((Chg.refl Non v).alloc _).then_new hgW3 (fun x e => by omega)
    have HG3 := Lib.hid (HGv.out.then_non hgv3)
    have HWP3 := Lib.hid (blk_keep HWPv.out hgv3 (fun e => e))
    have HWN3 := Lib.hid hbW3
    have HM3 := Lib.hid (HMv.out.non hgv3)
    have HSq3 := Lib.hid (HSq.out.non hgv3 (fun a vs h => quV_non _ _ _ _ hgv3 h))
    have HBi3 := Lib.hid (HBi.out.non hgv3)
    have hnbw : w.heap.size < v.heap.size := blk_lt HWPv.out
    obtain ⟨nb, hnb⟩ : ∃ x, x = v.heap.size := ⟨_, rfl⟩
    rw [← hnb] at HWN3 hnbw ⊢
    have hDo := do_ok (fun b => ¬ N b) cl p1 (k.wld p1) A' c' (.slice Aq1 k.s.queues.length cq1) (.slice Av (k.waits p1.id).length cv) W3 HB1.out hs1 (by omega) hm1.2 q1 q2 (by
      obtain ⟨_, _, e, _, _, hr, _⟩ := HM3.out
      injection e with e _ _
      subst e
      exact hr) HSq3.out HBi3.out (by have := HGD.out.ql; show k.s.queues.length ≤ 1000; omega) (by show (k.waits p1.id).length ≤ 1000; omega) HGD.out.qm HK.out.bd.1 HK.out.bd.2.2 HK.out.bd.2.1
    rw [HDv.out] at hDo
    have HDo := Lib.hid hDo
    clear hgv3 hgW3 hbW3 c4 c6 c7 c8 c9 cid hlk hDo HMv HKv HWPv HGv HSq HBi hnb
    go_wp2_with (first
      | (refine sel (some 62) (.load 69 _) ?_; refine wpList_load_mid rfl 69 (.tmp 4) rfl w.heap.size 0 rfl (partL p1 (.slice A' p1.mem.length c')) _ (blk_range HWP3.out) Tryz.underlying69 rfl (by rw [partL_len HB1.out.r8]; exact info_part) ?_)
      | (refine sel (some 63) (.load 313 _) ?_; refine wpList_load_mid rfl 313 (.tmp 7) rfl nb 0 rfl [.int .i64 k.s.frames, .int .i64 k.tick, .int .i64 k.ver, (.slice Aq1 k.s.queues.length cq1), (.slice Av (k.waits p1.id).length cv)] _ (blk_range HWN3.out) Tryz.underlying313 rfl (by kernel_rfl) ?_))
    refine HDo.out.mono ?_
    rintro e u4 ⟨m2, vq2, vi2, rfl, hbd2, hm2, hq2, hi2, hg4⟩
    obtain ⟨Aq2, cq2, rfl, zq⟩ := hq2
    have hq2 : SlV (quV (From W3.heap.size)) (From W3.heap.size) 6 u4 wl2.qs (.slice Aq2 wl2.qs.length cq2) := ⟨Aq2, cq2, rfl, zq⟩
    obtain ⟨Ai2, ci2, rfl, zi⟩ := hi2
    have hi2 : BytesV (From W3.heap.size) u4 wl2.inp (.slice Ai2 wl2.inp.length ci2) := ⟨Ai2, ci2, rfl, zi⟩
    clear zq zi
    have HG4 := Lib.hid (HG3.out.then_non hg4)
    have HWP4 := Lib.hid (blk_keep HWP3.out hg4 (fun e => e))
    have HWN4 := Lib.hid (blk_keep HWN3.out hg4 (fun e => e))
    have HB2 : Hid p2.Bd := Lib.hid hbd2
    have hom : m2.oneCell' = true := by obtain ⟨A, c, e, _⟩ := hm2; rw [e]; rfl
    have hoq2 : (Value.slice Aq2 wl2.qs.length cq2).oneCell' = true := rfl
    have hoi2 : (Value.slice Ai2 wl2.inp.length ci2).oneCell' = true := rfl
    have hnb3 := blk_lt HWN3.out
    have HM4 := Lib.hid hm2
    have HQ4 := Lib.hid hq2
    have HI4 := Lib.hid hi2
    clear hg4 hm2 hq2 hi2 hbd2 HDo HG3 HWP3 HWN3 HM3 HSq3 HBi3
    go_wp2_with (refine sel none (.store 69 (.tmp 4) (.tmp 65)) ?_
                 refine wpList_store_rowA rfl 69 (.tmp 4) (.tmp 65) rfl w.heap.size (partC p2 m2) rfl rfl 69 _ HWP4.out (by rw [partC_size HB2.out.r8]; exact info_part) (by rw [partC_size HB2.out.r8, partC_size HB1.out.r8]) (partC_one _ _ hom) ?_
                 refine Vm_stop ?_)
    refine HoleV.mk ?_
    intro W5 hgW5 hbW5
    have HWN5 := Lib.hid (blk_keep HWN4.out hgW5 (fun e => by omega))
    go_wp2_with (refine sel none (.store 313 (.tmp 7) (.tmp 66)) ?_
                 refine wpList_store_rowA rfl 313 (.tmp 7) (.tmp 66) rfl nb #[.int .i64 wl2.frames, .int .i64 wl2.tick, .int .i64 wl2.ver, (.slice Aq2 wl2.qs.length cq2), (.slice Ai2 wl2.inp.length ci2)] rfl rfl 313 _ HWN5.out (by kernel_rfl) rfl (by simp [Value.oneCell']) ?_
                 refine Vm_stop ?_)
    refine HoleV.mk ?_
    intro W6 hgW6 hbW6
    have hg46 : Chg (fun b => b = w.heap.size ∨ b = nb) u4 W6 := (hgW5.mono (fun x e => .inl e)).trans_same (hgW6.mono (fun x e => .inr e))
    have HG6 : Hid (Chg Non w W6) := Lib.hid (HG4.out.then_new hg46 (fun x e => by omega))
    have HWP6 := Lib.hid (blk_keep hbW5 hgW6 (fun e => by omega))
    have HWN6 := Lib.hid hbW6
    have hFN : ∀ b, From W3.heap.size b → ¬ N b := fun b e e2 => by have := hN b e2; have e' : W3.heap.size ≤ b := e; omega
    have hF46 : ∀ b, From W3.heap.size b → ¬ (b = w.heap.size ∨ b = nb) := fun b e e2 => by have e' : W3.heap.size ≤ b := e; omega
    have HM6 := Lib.hid ((HM4.out.keep hg46 hF46).mono hFN)
    have HQ6 := Lib.hid ((HQ4.out.keep hg46 hF46 (fun _ _ _ h => h.keep hg46 hF46)).mono hFN (fun _ _ _ h => h.mono hFN))
    have HI6 := Lib.hid ((HI4.out.keep hg46 hF46).mono hFN)
    have HK6 := Lib.hid (HK.out.non HG6.out)
    obtain ⟨vq6, hk6, _⟩ := HK6.out.cell
    have f10 : W6.cell? ⟨ap, 10, none⟩ = some (.bool k.yl) := blk_cell hk6 10 rfl
    have z10 := blk_free hk6 10
    have HKA := Lib.hid (HK6.out.setYl y2)
    have hapN : ap < w.heap.size := hN ap (HK.out.sub ap (.inl rfl))
    have hqN : q < w.heap.size := hN q (HK.out.sub q (.inr (.inl rfl)))
    have NAP : N ap := HK.out.sub ap (.inl rfl)
    have hNA : ∀ b, ¬ N b → ¬ b = ap := fun b e e2 => e (by rw [e2]; exact NAP)
    have hsA := chg_set W6 ap 10 (.bool y2)
    have HMA := Lib.hid (HM6.out.keep hsA hNA)
    have HQA := Lib.hid (HQ6.out.keep hsA hNA (fun _ _ _ h => h.keep hsA hNA))
    have HIA := Lib.hid (HI6.out.keep hsA hNA)
    have HWPA := Lib.hid (blk_keep HWP6.out hsA (fun e => by omega))
    have HWNA := Lib.hid (blk_keep HWN6.out hsA (fun e => by omega))
    have HGA : Hid (Chg (KAt.own ⟨ap, q, v1, v2, v3, .slice (some ⟨g, 0, none⟩) k.s.parts.length cap⟩) w (W6.setCell ⟨ap, 10, none⟩ (.bool y2))) := Lib.hid ((HG6.out.of_non).trans_same (hsA.mono (fun x e => .inl e)))
    clear hgW5 hbW5 hgW6 hbW6 hg46 hk6 HG4 HWP4 HWN4 HWN5 HM4 HQ4 HI4 HM6 HQ6 HI6 HWP6 HWN6 hsA
    go_wp2_with fail
    have hdr : Chg Non (W6.setCell ⟨ap, 10, none⟩ (.bool y2)) (W6.setCell ⟨ap, 10, none⟩ (.bool y2)).drew := (Chg.refl Non _).drew
    obtain ⟨Y, hY⟩ : ∃ x, x = (W6.setCell ⟨ap, 10, none⟩ (.bool y2)).drew := ⟨_, rfl⟩
    rw [← hY] at hdr
    have HKY := Lib.hid (HKA.out.non hdr)
    have HMY := Lib.hid (HMA.out.non hdr)
    have HQY := Lib.hid (HQA.out.non hdr (fun a vs h => quV_non _ _ _ _ hdr h))
    have HIY := Lib.hid (HIA.out.non hdr)
    have HGY := Lib.hid (HGA.out.then_non hdr)
    have HWPY := Lib.hid (blk_keep HWPA.out hdr (fun e => e))
    have HWNY := Lib.hid (blk_keep HWNA.out hdr (fun e => e))
    obtain ⟨vqY, hkY, _⟩ := HKY.out.cell
    have c9 : Y.cell? ⟨ap, 9, none⟩ = some (.map (some q)) := blk_cell hkY 9 rfl
    have c6 : Y.cell? ⟨ap, 6, none⟩ = some vqY := blk_cell hkY 6 rfl
    have z6 := blk_free hkY 6
    have cid : Y.cell? ⟨w.heap.size, 0, none⟩ = some (.int .i64 p1.id) := blk_cell HWPY.out 0 (by rw [← HId2.out]; rfl)
    have cq : Y.cell? ⟨nb, 3, none⟩ = some (.slice Aq2 wl2.qs.length cq2) := blk_cell HWNY.out 3 rfl
    have ci : Y.cell? ⟨nb, 4, none⟩ = some (.slice Ai2 wl2.inp.length ci2) := blk_cell HWNY.out 4 rfl
    have hne0 : ¬ ((⟨w.heap.size, 0, none⟩ : Addr).block = ap ∨ (⟨w.heap.size, 0, none⟩ : Addr).block = q) := fun e => by simp only at e; omega
    have hne3 : ¬ ((⟨nb, 3, none⟩ : Addr).block = ap ∨ (⟨nb, 3, none⟩ : Addr).block = q) := fun e => by simp only at e; omega
    have hne4 : ¬ ((⟨nb, 4, none⟩ : Addr).block = ap ∨ (⟨nb, 4, none⟩ : Addr).block = q) := fun e => by simp only at e; omega
    have HKB := Lib.hid (HKY.out.setQueues HQY.out)
    have hsB := chg_set Y ap 6 (.slice Aq2 wl2.qs.length cq2)
    have hkB : ∃ vqB, (Y.setCell ⟨ap, 6, none⟩ (.slice Aq2 wl2.qs.length cq2)).heap[ap]? = some (.cells (kerC { k with yl := y2, s := { k.s with queues := wl2.qs } } ⟨ap, q, v1, v2, v3, .slice (some ⟨g, 0, none⟩) k.s.parts.length cap⟩ vqB) 64 (0, 0)) := by obtain ⟨x, hx, _⟩ := HKB.out.cell; exact ⟨x, hx⟩
    obtain ⟨vqB, hkB⟩ := hkB
    have c9B : World.cell? (Y.setCell ⟨ap, 6, none⟩ (.slice Aq2 wl2.qs.length cq2)) ⟨ap, 9, none⟩ = some (.map (some q)) := blk_cell hkB 9 rfl
    obtain ⟨mB, hmB, hinB⟩ := HKB.out.inp
    obtain ⟨ev, born, W8, hme, hg8, hes⟩ := entry_run hmB p1.id hidb
    have hapq : ¬ ap = q := HK.out.apart.1
    have c98 : W8.cell? ⟨ap, 9, none⟩ = some (.map (some q)) := hg8.cell_some c9B hapq
    obtain ⟨W9, hst9, hm9, hg9⟩ := hes W8 rfl (.slice Ai2 wl2.inp.length ci2)
    have c99 : W9.cell? ⟨ap, 9, none⟩ = some (.map (some q)) := hg9.cell_some c98 hapq
    have hgB9 : Chg (fun b => b = q) (Y.setCell ⟨ap, 6, none⟩ (.slice Aq2 wl2.qs.length cq2)) W9 := hg8.trans_same hg9
    have S8 : Chg (fun b => b = ap ∨ b = q) Y W8 := (hsB.mono (fun x e => .inl e)).trans_same (hg8.mono (fun x e => .inr e))
    have S9 : Chg (fun b => b = ap ∨ b = q) Y W9 := S8.trans_same (hg9.mono (fun x e => .inr e))
    have hNq : ∀ b, ¬ N b → ¬ b = q := fun b e e2 => e (by rw [e2]; exact HK.out.sub q (.inr (.inl rfl)))
    have hI9 : BytesV (fun b => ¬ N b) W9 wl2.inp (.slice Ai2 wl2.inp.length ci2) := (HIY.out.keep hsB hNA).keep hgB9 hNq
    have HKC := Lib.hid (HKB.out.setInp hgB9 hm9 (inpV.upd p1.id (hinB.keep hgB9 hNq) hI9 (by omega)))
    have HS9 := Lib.hid S9
    have hN2 : ∀ b, ¬ N b → ¬ (b = ap ∨ b = q) := fun b e e2 => e2.elim (hNA b e) (hNq b e)
    have HMC := Lib.hid (HMY.out.keep S9 hN2)
    have HWPC := Lib.hid (blk_keep HWPY.out S9 (fun e => by omega))
    have HGC : Hid (Chg (KAt.own ⟨ap, q, v1, v2, v3, .slice (some ⟨g, 0, none⟩) k.s.parts.length cap⟩) w W9) := Lib.hid (HGY.out.trans_same (S9.mono (fun x e => e.elim .inl (fun e => .inr (.inl e)))))
    clear hes hg8 hg9 hkB hmB hinB hm9 hI9 hgB9 hdr hkY f10 z10
    refine wp_region_held_drew (S := fun V => Chg (fun b => b = ap ∨ b = q) (W6.setCell ⟨ap, 10, none⟩ (.bool y2)).drew V ∧ V.cell? ⟨ap, 9, none⟩ = some (.map (some q))) (by kernel_rfl) ⟨Chg.refl _ _, by rw [← hY]; exact c9⟩ (fun hHeld => ?_)
    clear hHeld
    rw [← hY]
    clear hY
    refine hp 0 71 (.pointer (some ⟨ap, 0, none⟩)) rfl ⟨Chg.refl _ _, c9⟩ ?_
    refine hp 1 72 (.pointer (some ⟨ap, 0, none⟩)) rfl ⟨Chg.refl _ _, c9⟩ ?_
    refine hp 2 73 (.pointer (some ⟨ap, 0, none⟩)) rfl ⟨Chg.refl _ _, c9⟩ ?_
    refine hp 3 74 (.pointer (some ⟨ap, 9, none⟩)) rfl ⟨Chg.refl _ _, c9⟩ ?_
    refine hp 4 75 (.map (some q)) rfl ⟨Chg.refl _ _, c9⟩ ?_ (he := (fun W hW => by obtain ⟨_, hc⟩ := hW; go_simp))
    refine hp 5 76 (.pointer (some ⟨w.heap.size, 0, none⟩)) rfl ⟨Chg.refl _ _, c9⟩ ?_
    refine hp 6 77 (.int .i64 p1.id) rfl ⟨Chg.refl _ _, c9⟩ ?_ (he := (fun W hW => by have hc := hW.1.cell_some cid hne0; go_simp))
    refine hp 7 78 (.pointer (some ⟨nb, 3, none⟩)) rfl ⟨Chg.refl _ _, c9⟩ ?_
    refine hp 8 79 (.slice Aq2 wl2.qs.length cq2) rfl ⟨Chg.refl _ _, c9⟩ ?_ (he := (fun W hW => by have hc := hW.1.cell_some cq hne3; go_simp))
    refine hp 9 80 (.pointer (some ⟨nb, 4, none⟩)) rfl ⟨Chg.refl _ _, c9⟩ ?_
    refine hp 10 81 (.slice Ai2 wl2.inp.length ci2) rfl ⟨Chg.refl _ _, c9⟩ ?_ (he := (fun W hW => by have hc := hW.1.cell_some ci hne4; go_simp))
    refine hp 11 82 (.pointer (some ⟨ap, 0, none⟩)) rfl ⟨Chg.refl _ _, c9⟩ ?_
    refine hp 12 83 (.pointer (some ⟨ap, 4, none⟩)) rfl ⟨Chg.refl _ _, c9⟩ ?_
    refine hp 13 84 (.pointer (some ⟨ap, 6, none⟩)) rfl ⟨Chg.refl _ _, c9⟩ ?_
    refine h_one 14 (by kernel_rfl) rfl (by kernel_rfl) ?_
    intro K hK
    go_simp
    refine hK.out _ _ ⟨hsB.mono (fun x e => .inl e), c9B⟩ (fun _ => ?_)
    clear hK K
    try simp only [Act.put, sA, sB, sC]
    refine h_one 15 (by kernel_rfl) rfl (by kernel_rfl) ?_
    intro K hK
    go_simp
    refine hK.out _ _ ⟨S8, c98⟩ (fun _ => ?_)
    clear hK K
    try simp only [Act.put, sA, sB, sC]
    refine hp 16 86 (.int .i64 born) rfl ⟨S8, c98⟩ ?_
    refine h_one 17 (by kernel_rfl) rfl (by kernel_rfl) ?_
    intro K hK
    go_simp
    refine hK.out _ _ ⟨S9, c99⟩ (fun _ => ?_)
    clear hK K
    try simp only [Act.put, sA, sB, sC]
    refine wpAnyH_done (by kernel_rfl) ?_ _
    clear c9 c6 z6 cid cq ci c9B c98 c99 hme hst9 S8 S9 hsB hne0 hne3 hne4
    go_wp2_with fail
    obtain ⟨X9, hX9⟩ : ∃ x, x = W9 := ⟨_, rfl⟩
    rw [← hX9] at HKC HMC HWPC HGC ⊢
    obtain ⟨V, hV9⟩ : ∃ x, x = X9.drew := ⟨_, rfl⟩
    have hgV : Chg Non X9 V := by rw [hV9]; exact (Chg.refl Non X9).drew
    have HKz := Lib.hid (HKC.out.non hgV)
    have HGz := Lib.hid (HGC.out.then_non hgV)
    have HWPz := Lib.hid (blk_keep HWPC.out hgV (fun e => e))
    have HBDz := HB2
    have HMz := Lib.hid (HMC.out.non hgV)
    have hlz : p2.mem.length ≤ 140737488351232 := by omega
    clear hgV
    have hoz : (m2 : Value).oneCell' = true := by obtain ⟨A, c, e, _⟩ := HMz.out; rw [e]; rfl
    obtain ⟨vqz, hkz, _⟩ := HKz.out.cell
    have f5z : V.cell? ⟨ap, 5, none⟩ = some (.slice (some ⟨g, 0, none⟩) k.s.parts.length cap) := blk_cell hkz 5 rfl
    have hapg : ¬ (⟨ap, 5, none⟩ : Addr).block = g := fun e => HKz.out.apart.2.1 (by rw [show ap = g from e]; rfl)
    have hwg : ¬ w.heap.size = g := fun e => by have := hN g (HKz.out.sub g (.inr (.inr rfl))); omega
    obtain ⟨g', cap', cur, e1, _, hgbz, s1, _, s3, _⟩ := HKz.out.parts.shape (show 0 < k.s.parts.length by omega)
    injection e1 with a1 a2 a3
    injection a1 with a1
    injection a1 with a1 _ _
    clear a2
    subst a1 a3
    have hcur : i * 14 + 14 ≤ cur.size := by rw [s3]; have : i < k.s.parts.length := hil; have s1' : k.s.parts.length ≤ cap := s1; omega
    have HGBz := Lib.hid hgbz
    have hik : (i : Int) < (k.s.parts.length : Int) := by omega
    have hikd : decide ((i : Int) < (k.s.parts.length : Int)) = true := by simpa using hik
    clear hkz hgbz s1 s3
    refine wp_region_held_drew (S := Chg (fun b => b = g) X9.drew) (by kernel_rfl) (Chg.refl _ _) (fun hHeld => ?_)
    clear hHeld
    rw [← hV9]
    clear hV9
    refine hp 0 87 (.pointer (some ⟨ap, 0, none⟩)) rfl (Chg.refl _ _) ?_
    refine hp 1 88 (.pointer (some ⟨ap, 0, none⟩)) rfl (Chg.refl _ _) ?_
    refine hp 2 89 (.pointer (some ⟨ap, 4, none⟩)) rfl (Chg.refl _ _) ?_
    refine hp 3 90 (.pointer (some ⟨ap, 5, none⟩)) rfl (Chg.refl _ _) ?_
    refine hp 4 91 (.slice (some ⟨g, 0, none⟩) k.s.parts.length cap) rfl (Chg.refl _ _) ?_ (he := (fun W hW => by have hc := hW.cell_some f5z hapg; go_simp))
    refine hp 5 92 (.int .i64 i) rfl (Chg.refl _ _) ?_
    refine h_load 6 (some 93) 69 (.tmp 4) w.heap.size 0 (partC (p2) m2) _ rfl (by kernel_rfl) (by kernel_rfl) (by kernel_rfl) (by kernel_rfl) (by kernel_rfl) (fun _ _ _ h => h) (by kernel_rfl) (by kernel_rfl) (fun W hW => range_keepS (blk_range HWPz.out) hW hwg) Tryz.underlying69 rfl (by rw [partC_size HBDz.out.r8]; exact info_part) (Chg.refl _ _) ?_
    simp only [Act.put, sA, sB, sC]
    refine hp 7 94 (.pointer (some ⟨g, i * 14, none⟩)) rfl (Chg.refl _ _) ?_
    refine h_one 8 (by kernel_rfl) rfl (by kernel_rfl) ?_
    intro K hK
    refine wp_store_mid 69 (.tmp 94) (.tmp 93) (by kernel_rfl) g (i * 14) (partC (p2) m2) (by kernel_rfl) (by kernel_rfl) (by rw [partC_size HBDz.out.r8]; exact blk_there HGBz.out hcur) (by rw [partC_size HBDz.out.r8]; exact info_part) (partC_one _ _ hoz) ?_
    refine hK.out _ _ ((Chg.refl _ _).trans_same (sCells_chg g (partC (p2) m2).toList (i * 14) _)) (fun _ => ?_)
    clear hK K
    try simp only [Act.put, sA, sB, sC]
    refine wpAnyH_done (by kernel_rfl) ?_ _
    have hst := sCells_chg g (partC (p2) (m2)).toList (i * 14) V
    have hgN : N g := HKz.out.sub g (.inr (.inr rfl))
    have hkN : ∀ b, ¬ N b → ¬ b = g := fun b e e2 => e (by rw [e2]; exact hgN)
    have HOn : OwnL (ptV (fun b => ¬ N b)) 0 69 14 (V.setCells g (i * 14) (partC (p2) (m2)).toList) (.slice (some ⟨g, 0, none⟩) k.s.parts.length cap) (k.s.parts.set i (p2)) :=
     OwnL.put (R := ptV (fun b => ¬ N b)) HKz.out.parts hil (by rw [Array.length_toList, partC_size HBDz.out.r8]) (fun a vs h => h.keep hst hkN) ⟨_, rfl, HMz.out.keep hst hkN, HBDz.out, hlz⟩
    have HKn := Lib.hid (HKz.out.setParts (hst.mono (fun x e => by subst e; rfl)) HOn HKz.out.ownN)
    have HGn := Lib.hid (HGz.out.trans_same (hst.mono (fun x e => by subst e; exact .inr (.inr rfl)) : Chg (KAt.own ⟨ap, q, v1, v2, v3, .slice (some ⟨g, 0, none⟩) k.s.parts.length cap⟩) V _))
    clear hst HOn f5z
    go_wp2
    go_end0
    refine ⟨rfl, ?_, HGn.out⟩
    rw [HE.out]
    exact HKn.out
 ·have hde : ((p.st : Int) == 0) = false := by simp; omega
  have HE : Hid (doesV i k = k) := Lib.hid (by unfold doesV; rw [hp]; simp only; rw [if_neg (fun e => hst e.1)])
  go_wp2
  (try simp only [Exit.inBlock, Exit.then])
  refine bodyPost_ret (results_none rfl _ _ _) rfl ?_
  refine ⟨rfl, ?_, HG1.out.of_non⟩
  rw [HE.out]
  exact HK.out.non HG1.out
end
end Go.Proofs.YtmnaleaghfbclaaGreatDoor
