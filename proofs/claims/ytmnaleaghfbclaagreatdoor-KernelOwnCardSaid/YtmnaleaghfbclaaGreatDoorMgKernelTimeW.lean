/- KernelTime, part 23 of 28: contracts of the functions that it reaches, and the laws that they need, merged and shortened (from my texts XCalE, XDoA). -/
import Derived.Test.YtmnaleaghfbclaaGreatDoorMgKernelTimeA
import Derived.Test.YtmnaleaghfbclaaGreatDoorMgKernelTimeV
namespace Go.Proofs.YtmnaleaghfbclaaGreatDoor
set_option linter.unusedVariables false
set_option linter.unusedSimpArgs false
set_option maxHeartbeats 8000000
section
open Go.RowKit
set_option maxRecDepth 100000 in
theorem cRecv_ok (B : Nat) (W : World) (g : Nat) (p : Pt) (wl : Wld) (y : Bool) (m vq vi : Value) (hm0 : 0 < p.mem.length) (hml : p.mem.length ≤ 512) (hqm : ∀ q ∈ wl.qs, mayQ q = true) (h : CalX B W g p wl y m vq vi) :
  Calls Tryz.prog 260 #[.pointer (some ⟨g, 0, none⟩)] W (CalP B g (recvV p wl).2.1 (recvV p wl).2.2 y (recvV p wl).1 W) := by
 have hB := h.hB
 obtain ⟨A, c, rfl, hc, hcm, hr, _⟩ := h.mem
 have hg1b : p.g 1 < 4294967296 := h.bd.rb 1
 have hg2b : p.g 2 < 4294967296 := h.bd.rb 2
 have HQu := Lib.hid (cQueue_ok B W g p wl y (.slice A p.mem.length c) vq vi (p.g 0) (h.bd.rb 0) h)
 have r3 : W.cell? ⟨g, 3, none⟩ = some (.int .u32 (p.g 0 : Nat)) := h.creg 0 (by omega)
 have HX := Lib.hid h
 have HBd := Lib.hid (idx_bd (qidP (p.g 0)) wl.qs)
 have HGt := Lib.hid (fun k => idx_get (p := qidP (p.g 0)) (l := wl.qs) (k := k))
 obtain ⟨j, hj⟩ : ∃ j, idxOf (qidP (p.g 0)) wl.qs = j := ⟨_, rfl⟩
 have HJ := Lib.hid hj
 rw [hj] at HBd
 simp only [hj] at HQu HGt
 clear h hr hj
 unfold maxLen at hcm
 go_enter Tryz.func260, Tryz.ntmps260
 go_wp2_with fail
 refine HQu.out.mono ?_
 rintro e u ⟨rfl, hg⟩
 have HXu := Lib.hid (HX.out.non hg)
 have HGu : Hid (Chg (From B) W u) := Lib.hid hg.of_non
 have r5u : u.cell? ⟨g, 5, none⟩ = some (.int .u32 (p.g 2 : Nat)) := HXu.out.creg 2 (by omega)
 have hw2 : IntKind.i64.wrap ((p.g 2 : Nat) : Int) = (p.g 2 : Nat) := wrap_i64n _ hg2b
 clear hg r3 HQu
 go_wp2_with fail
 refine wp_region_held_drew (S := Chg Non u.drew) (by kernel_rfl) (Chg.refl _ _) (fun hHeld => ?_)
 clear hHeld
 have HXv := Lib.hid (HXu.out.non ((Chg.refl Non u).drew))
 have HGv := Lib.hid (HGu.out.drew)
 clear HXu HGu HX
 generalize u.drew = v at HXv HGv ⊢
 have c13 : v.cell? ⟨g, 13, none⟩ = some (.slice A p.mem.length c) := HXv.out.cmem
 have r4 : v.cell? ⟨g, 4, none⟩ = some (.int .u32 (p.g 1 : Nat)) := HXv.out.creg 1 (by omega)
 have r5 : v.cell? ⟨g, 5, none⟩ = some (.int .u32 (p.g 2 : Nat)) := HXv.out.creg 2 (by omega)
 obtain ⟨_, _, hs0, _, _, hr, _⟩ := HXv.out.mem
 injection hs0 with hs0 hs1 hs2
 clear hs1
 subst hs0 hs2
 have HRd := Lib.hid (mread_any _ p.mem c (p.g 1) (p.g 2) v hr hm0 hc (by unfold maxLen; omega) hg1b hg2b hml)
 clear hr
 refine hp 0 25 (.pointer (some ⟨g, 0, none⟩)) rfl (Chg.refl _ _) ?_
 refine hp 1 26 (.pointer (some ⟨g, 0, none⟩)) rfl (Chg.refl _ _) ?_
 refine hp 2 27 (.pointer (some ⟨g, 0, none⟩)) rfl (Chg.refl _ _) ?_
 refine hp 3 28 (.pointer (some ⟨g, 13, none⟩)) rfl (Chg.refl _ _) ?_
 refine hp 4 29 (.slice A p.mem.length c) rfl (Chg.refl _ _) ?_ (he := (fun W hW => by have hc := hW.cell_some c13 (fun e => e); go_simp))
 refine hp 5 30 (.pointer (some ⟨g, 0, none⟩)) rfl (Chg.refl _ _) ?_
 refine hp 6 31 (.pointer (some ⟨g, 0, none⟩)) rfl (Chg.refl _ _) ?_
 refine hp 7 32 (.pointer (some ⟨g, 0, none⟩)) rfl (Chg.refl _ _) ?_
 refine hp 8 33 (.pointer (some ⟨g, 3, none⟩)) rfl (Chg.refl _ _) ?_
 refine hp 9 34 (.pointer (some ⟨g, 4, none⟩)) rfl (Chg.refl _ _) ?_
 refine hp 10 35 (.int .u32 (p.g 1 : Nat)) rfl (Chg.refl _ _) ?_ (he := (fun W hW => by have hc := hW.cell_some r4 (fun e => e); go_simp))
 refine hp 11 36 (.int .i64 (p.g 1 : Nat)) rfl (Chg.refl _ _) ?_ (he := (fun W hW => by go_simp; exact wrap_i64n _ hg1b))
 refine hp 12 37 (.int .i64 (p.g 2 : Nat)) rfl (Chg.refl _ _) ?_
 refine h_one 13 (by kernel_rfl) rfl (by kernel_rfl) ?_
 intro K hK
 go_simp
 refine (HRd.out).mono ?_
 rintro e u1 ⟨mv, er, rfl, hP, hg⟩
 have HP := Lib.hid hP
 have HX1 := Lib.hid (HXv.out.non hg)
 have HG1 := Lib.hid (HGv.out.trans_same hg.of_non)
 have HV1 := Lib.hid hg
 clear hP hg c13 r4 r5
 refine hK.out _ _ HV1.out (fun _ => ?_)
 clear hK K
 try simp only [Act.put, sA, sB, sC]
 refine hp 14 24 (.tuple #[mv, .int .i64 er]) rfl HV1.out ?_
 refine hp 15 39 (mv) rfl HV1.out ?_
 refine hp 16 40 (.int .i64 er) rfl HV1.out ?_
 refine hp 17 5 (mv) rfl HV1.out ?_
 refine hp 18 6 (.int .i64 er) rfl HV1.out ?_
 refine wpAnyH_done (by kernel_rfl) ?_ _
 by_cases hj0 : j < 0
 ·have d0 : decide (j < 0) = true := by simpa using hj0
  have HE : Hid (recvV p wl = (false, p, wl)) := Lib.hid (recvV_none (by unfold qGet; rw [HJ.out, if_pos hj0]))
  go_wp2_with fail
  go_quiet (fail)
  go_wp2_with fail
  go_ret
  rw [HE.out]
  exact ⟨rfl, ⟨_, _, _, HX1.out.non ((Chg.refl Non _).drewN _)⟩, HG1.out.drewN _⟩
 have d0 : decide (j < 0) = false := by simpa using hj0
 obtain ⟨k, rfl⟩ : ∃ k : Nat, j = k := ⟨j.toNat, by omega⟩
 obtain ⟨q, hq, _⟩ := HGt.out k rfl
 have HQG : Hid (qGet (idxOf (qidP (p.g 0)) wl.qs) wl.qs = some q) := Lib.hid (by unfold qGet; rw [HJ.out, if_neg hj0]; exact hq)
 have hkl : k < wl.qs.length := (List.getElem?_eq_some_iff.1 hq).1
 obtain ⟨vb, cap, cur, rfl, hBv, hvb, r1, r2, r3, hat⟩ := HX1.out.qs.shape (by omega)
 obtain ⟨vs, hvl, hrg, mq, rfl, hsm, hbq, hlq⟩ := hat k q hq
 have c17 : u1.cell? ⟨g, 17, none⟩ = some (.slice (some ⟨vb, 0, none⟩) wl.qs.length cap) := HX1.out.chi 3 rfl
 have c0 : u1.cell? ⟨g, 0, none⟩ = some (.int .i64 p.id) := HX1.out.cid
 have hmq := hqm q (List.mem_of_getElem? hq)
 have HQM := Lib.hid hmq
 have hgl := HX1.out.lt
 have HRG := Lib.hid hrg
 have HSm := Lib.hid hsm
 have HBq := Lib.hid hbq
 have hki : (k : Int) < (wl.qs.length : Int) := by omega
 have c52 : u1.cell? ⟨vb, k * 6 + 2, none⟩ = some (.int .i64 q.ch.dst) := hrg 2 _ rfl
 have hkc : k * 6 + 6 ≤ cur.size := by omega
 have HVB := Lib.hid hvb
 clear hat r1 r2 r3 hrg hsm hbq hvb
 rcases HP.out with ⟨ht, rfl, A3, c3, rfl, q1, q2, q3⟩ | ⟨ht, hne⟩
 ·by_cases hid : q.ch.dst = p.id
  ·have hlen := cut_len (there_yes ht).2
   have hde : (q.ch.dst == p.id) = true := by simpa using hid
   go_wp2_with fail
   go_quiet (fail)
   have hgd : Chg Non u1 (u1.drewN nq) := (Chg.refl Non u1).drewN nq
   generalize u1.drewN nq = x1 at hgd ⊢
   have HX1 := Lib.hid (HX1.out.non hgd)
   have HG1 := Lib.hid (HG1.out.trans_same (hgd.of_non : Chg (From B) u1 x1))
   have HRG := Lib.hid (range_keepS HRG.out hgd (fun e => e))
   have HVB := Lib.hid (blk_keep HVB.out hgd (fun e => e))
   have HSm := Lib.hid (HSm.out.non hgd (fun a vs h => msgV_non _ _ _ _ hgd h))
   have c17 : x1.cell? ⟨g, 17, none⟩ = some (.slice (some ⟨vb, 0, none⟩) wl.qs.length cap) := HX1.out.chi 3 rfl
   clear hgd q3 hde c52 c0
   have hkd : decide ((k : Int) < (wl.qs.length : Int)) = true := by simpa using hki
   by_cases hem : q.msgs = []
   ·have HTk := take_none _ q mq x1 HSm.out hmq hem
    have HE : Hid (recvV p wl = (true, p.set 0 0, wl)) := Lib.hid (recvV_empty HQG.out ⟨ht, hid⟩ hem)
    clear hmq
    obtain ⟨⟨i, s, d, cp, sz⟩, ms⟩ := q
    simp only at hid
    clear hid
    have HTk2 : Hid (Calls Tryz.prog 272 #[.agg #[.int .i64 i, .int .i64 s, .int .i64 d, .int .i64 cp, .int .i64 sz, mq]] x1 fun e w' => e = .returned (.tuple #[.slice none 0 0, .agg #[.int .i64 0, .int .i64 0, .int .i64 0, .int .i64 0, .int .i64 0, .slice none 0 0], .int .i64 100]) ∧ Chg Non x1 w') := Lib.hid HTk
    clear HTk hem
    go_wp2_with (refine sel (some 73) (.load 95 _) ?_; refine wpList_load_mid rfl 95 (.tmp 72) rfl vb (k * 6) rfl [.int .i64 i, .int .i64 s, .int .i64 d, .int .i64 cp, .int .i64 sz, mq] _ HRG.out Tryz.underlying95 rfl (by kernel_rfl) ?_)
    refine HTk2.out.mono ?_
    rintro e u2 ⟨rfl, hg2⟩
    have HX2 := Lib.hid (HX1.out.non hg2)
    have HG2 := Lib.hid (HG1.out.trans_same (hg2.of_non : Chg (From B) x1 u2))
    clear hg2 c17
    go_wp2_with (refine sel none (.store 95 (.tmp 8) (.tmp 76)) ?_; refine wpList_store_rowA rfl 95 (.tmp 8) (.tmp 76) rfl u2.heap.size #[.int .i64 0, .int .i64 0, .int .i64 0, .int .i64 0, .int .i64 0, .slice none 0 0] rfl rfl 95 _ (blk_new _ _) (by kernel_rfl) rfl (by simp [Value.oneCell']) ?_; refine Vm_stop ?_)
    refine HoleV.mk ?_
    intro W1 hgW hbW
    have hgV : Chg Non u2 W1 := ((Chg.refl Non u2).alloc _).then_new hgW (fun x e => by omega)
    have HX3 := Lib.hid (HX2.out.non hgV)
    have HG3 := Lib.hid (HG2.out.trans_same (hgV.of_non : Chg (From B) u2 W1))
    have r3 : W1.cell? ⟨g, 3, none⟩ = some (.int .u32 (p.g 0 : Nat)) := HX3.out.creg 0 (by omega)
    have z3 := HX3.out.free 3
    clear hgV hgW hbW
    go_wp2_with fail
    go_ret
    rw [HE.out]
    exact ⟨rfl, ⟨_, _, _, HX3.out.setR 0 0 (by omega) (by omega)⟩, HG3.out.trans_same (chg_own hB)⟩
   ·obtain ⟨mm, rest, hmr⟩ := List.exists_cons_of_ne_nil hem
    have HTk := take_yes _ q mq x1 mm rest HSm.out hmq hmr
    obtain ⟨m1, m2, m3⟩ := mayQ_iff.1 hmq
    have hch := ch_may m1
    have hmm : (mm.length : Int) ≤ q.ch.size := m3 mm (by rw [hmr]; exact List.mem_cons_self ..)
    have hmm16 : mm.length ≤ 16 := by omega
    have HE := recvV_take HQG.out ⟨ht, hid⟩ hmr
    rw [HJ.out, Int.toNat_natCast, Nat.mod_eq_of_lt (show mm.length + 1 < 4294967296 by omega)] at HE
    replace HE := Lib.hid HE
    have hrl : rest.length ≤ 140737488351232 := by rw [hmr] at m2; simp at m2; omega
    obtain ⟨tk, htk⟩ : ∃ tk : Nat, min mm.length (p.g 2) = tk := ⟨_, rfl⟩
    have hty : (mm.take (p.g 2)).length = tk := by rw [List.length_take, Nat.min_comm]; exact htk
    have htk1 : tk ≤ mm.length := by omega
    have htk2 : tk ≤ p.g 2 := by omega
    have htt : there p.mem (p.g 1) (mm.take (p.g 2)).length = true := by rw [there_iff, hty]; have := (there_iff _ _ _).1 ht; omega
    have hpl : (put p.mem (p.g 1) (mm.take (p.g 2))).length = p.mem.length := put_len ((there_iff _ _ _).1 htt).2
    have HTT := Lib.hid htt
    have HTY := Lib.hid hty
    have HPl := Lib.hid hpl
    clear hmq m1 m2 m3 hch hmm hty htt hpl
    obtain ⟨⟨i, s, d, cp, sz⟩, ms⟩ := q
    simp only at hid
    clear hid
    have HTk2 : Hid (Calls Tryz.prog 272 #[.agg #[.int .i64 i, .int .i64 s, .int .i64 d, .int .i64 cp, .int .i64 sz, mq]] x1 fun e w' => ∃ A5 c5 v', e = .returned (.tuple #[.slice A5 mm.length c5, .agg #[.int .i64 i, .int .i64 s, .int .i64 d, .int .i64 cp, .int .i64 sz, v'], .int .i64 0]) ∧ BytesV (From x1.heap.size) w' mm (.slice A5 mm.length c5) ∧ SlV (msgV (From x1.heap.size)) (From x1.heap.size) 1 w' rest v' ∧ Chg Non x1 w') := Lib.hid HTk
    clear HTk hem hmr
    go_wp2_with (refine sel (some 73) (.load 95 _) ?_; refine wpList_load_mid rfl 95 (.tmp 72) rfl vb (k * 6) rfl [.int .i64 i, .int .i64 s, .int .i64 d, .int .i64 cp, .int .i64 sz, mq] _ HRG.out Tryz.underlying95 rfl (by kernel_rfl) ?_)
    refine HTk2.out.mono ?_
    rintro e u2 ⟨A5, c5, v2, rfl, hbm, hsl, hg2⟩
    have HX2 := Lib.hid (HX1.out.non hg2)
    have hvo : ∀ b, x1.heap.size ≤ b → (Value.slice (some ⟨vb, 0, none⟩) wl.qs.length cap).ownBlock ≠ some b := fun b e e2 => by
     have h1 : vb = b := by simpa [Value.ownBlock] using e2
     have := blk_lt HVB.out
     omega
    have hgx := HX1.out.lt
    have hI : ∀ b, From x1.heap.size b → calK B g (.slice (some ⟨vb, 0, none⟩) wl.qs.length cap) b := fun b e => ⟨by have : x1.heap.size ≤ b := e; omega, by have : x1.heap.size ≤ b := e; omega, hvo b e⟩
    have HO2 : Hid (SlV (msgV (calK B g (.slice (some ⟨vb, 0, none⟩) wl.qs.length cap))) (calK B g (.slice (some ⟨vb, 0, none⟩) wl.qs.length cap)) 1 u2 rest v2) := Lib.hid (hsl.mono hI (fun _ _ _ h => h.mono hI))
    have HBm := Lib.hid hbm
    have HG2 := Lib.hid (HG1.out.trans_same (hg2.of_non : Chg (From B) x1 u2))
    have HVB2 := Lib.hid (blk_keep HVB.out hg2 (fun e => e))
    have hvx := blk_lt HVB.out
    have hone : v2.oneCell' = true := by obtain ⟨A, c, e, _⟩ := hsl; rw [e]; rfl
    have hc5 : mm.length ≤ c5 ∧ c5 ≤ maxLen := by obtain ⟨_, _, e, h1, h2, _⟩ := hbm; injection e with e1 e2 e3; omega
    obtain ⟨hc5, hc5m⟩ := hc5
    unfold maxLen at hc5m
    have hnv : ¬ u2.heap.size = vb := fun e => by have := blk_lt HVB2.out; omega
    clear HVB c17 hbm hsl hg2 hvo
    have HVB := HVB2
    go_wp2_with (refine sel none (.store 95 (.tmp 8) (.tmp 76)) ?_; refine wpList_store_rowA rfl 95 (.tmp 8) (.tmp 76) rfl u2.heap.size #[.int .i64 i, .int .i64 s, .int .i64 d, .int .i64 cp, .int .i64 sz, v2] rfl rfl 95 _ (blk_new _ _) (by kernel_rfl) rfl (by simp [Value.oneCell'] ; exact hone) ?_; intro W1 hgW hbW)
    obtain ⟨V, hV⟩ : ∃ V, V = W1.drew := ⟨_, rfl⟩
    have hgV : Chg Non u2 V := by rw [hV]; exact (((Chg.refl Non u2).alloc _).then_new hgW (fun x e => by omega)).drew
    have HXV := Lib.hid (HX2.out.non hgV)
    have HgV := Lib.hid hgV
    have HB6 : Hid (V.heap[u2.heap.size]? = some (.cells #[.int .i64 i, .int .i64 s, .int .i64 d, .int .i64 cp, .int .i64 sz, v2] 95 (0, 0))) := Lib.hid (by rw [hV]; exact hbW)
    have HGB := Lib.hid (blk_keep HVB.out hgV (fun e => e))
    have HSV2 := Lib.hid (HO2.out.non hgV (fun a vs h => msgV_non _ _ _ _ hgV h))
    have HGV := Lib.hid (HG2.out.trans_same (hgV.of_non : Chg (From B) u2 V))
    have c17v : V.cell? ⟨g, 17, none⟩ = some (.slice (some ⟨vb, 0, none⟩) wl.qs.length cap) := HXV.out.chi 3 rfl
    have hgv : ¬ (⟨g, 17, none⟩ : Addr).block = vb := fun e => HXV.out.hne (by rw [show g = vb from e]; rfl)
    refine wp_region_held_drew (S := Chg (fun b => b = vb) W1.drew) (by kernel_rfl) (Chg.refl _ _) (fun hHeld => ?_)
    clear hHeld
    rw [← hV]
    clear hV hgV hgW hbW
    refine hp 0 85 (.pointer (some ⟨g, 0, none⟩)) rfl (Chg.refl _ _) ?_
    refine hp 1 86 (.pointer (some ⟨g, 0, none⟩)) rfl (Chg.refl _ _) ?_
    refine hp 2 87 (.pointer (some ⟨g, 14, none⟩)) rfl (Chg.refl _ _) ?_
    refine hp 3 88 (.pointer (some ⟨g, 17, none⟩)) rfl (Chg.refl _ _) ?_
    refine hp 4 89 (.slice (some ⟨vb, 0, none⟩) wl.qs.length cap) rfl (Chg.refl _ _) ?_ (he := (fun W hW => by have hc := hW.cell_some c17v hgv; go_simp))
    refine hp 5 90 (.int .i64 k) rfl (Chg.refl _ _) ?_
    refine h_load 6 (some 91) 95 (.tmp 8) u2.heap.size 0 #[.int .i64 i, .int .i64 s, .int .i64 d, .int .i64 cp, .int .i64 sz, v2] _ rfl (by kernel_rfl) (by kernel_rfl) (by kernel_rfl) (by kernel_rfl) (by kernel_rfl) (fun _ _ _ h => h) (by kernel_rfl) (by kernel_rfl) (fun W hW => range_keepS (blk_range HB6.out) hW hnv) Tryz.underlying95 rfl (by kernel_rfl) (Chg.refl _ _) ?_
    simp only [Act.put, sA, sB, sC]
    refine hp 7 92 (.pointer (some ⟨vb, k * 6, none⟩)) rfl (Chg.refl _ _) ?_
    refine h_one 8 (by kernel_rfl) rfl (by kernel_rfl) ?_
    intro K hK
    refine wp_store_mid 95 (.tmp 92) (.tmp 91) (by kernel_rfl) vb (k * 6) #[.int .i64 i, .int .i64 s, .int .i64 d, .int .i64 cp, .int .i64 sz, v2] (by kernel_rfl) (by kernel_rfl) (blk_there HGB.out hkc) (by kernel_rfl) (by simp [Value.oneCell']; exact hone) ?_
    refine hK.out _ _ ((Chg.refl _ _).trans_same (sCells_chg vb [.int .i64 i, .int .i64 s, .int .i64 d, .int .i64 cp, .int .i64 sz, v2] (k * 6) _)) (fun _ => ?_)
    clear hK K
    try simp only [Act.put, sA, sB, sC]
    refine wpAnyH_done (by kernel_rfl) ?_ _
    have HXF := Lib.hid (HXV.out.setQ (i := k) (q' := ⟨⟨i, s, d, cp, sz⟩, rest⟩) (us := [.int .i64 i, .int .i64 s, .int .i64 d, .int .i64 cp, .int .i64 sz, v2]) hkl rfl ⟨v2, rfl, HSV2.out, HBq.out, hrl⟩)
    have HGF := Lib.hid (HGV.out.trans_same ((sCells_chg vb [.int .i64 i, .int .i64 s, .int .i64 d, .int .i64 cp, .int .i64 sz, v2] (k * 6) V).mono (fun x e => by show B ≤ x; omega)))
    clear c17v
    have HBm2 := Lib.hid ((HBm.out.non HgV.out).keep (sCells_chg vb [.int .i64 i, .int .i64 s, .int .i64 d, .int .i64 cp, .int .i64 sz, v2] (k * 6) V) (fun b e e2 => by have : x1.heap.size ≤ b := e; omega))
    generalize V.setCells vb (k * 6) [.int .i64 i, .int .i64 s, .int .i64 d, .int .i64 cp, .int .i64 sz, v2] = v1 at HXF HGF HBm2 ⊢
    clear HXV HGB HB6 HSV2 HGV HX2 HG2 HVB2 HVB HO2 HTk2 hgv
    go_wp2_with fail
    have HXv2 := Lib.hid (HXF.out.non ((Chg.refl Non v1).drew))
    have HGv2 := Lib.hid (HGF.out.drew)
    have HBm3 := Lib.hid (HBm2.out.non ((Chg.refl Non v1).drew))
    have r4 : World.cell? v1.drew ⟨g, 4, none⟩ = some (.int .u32 (p.g 1 : Nat)) := HXv2.out.creg 1 (by omega)
    refine wp_region_held_drew (S := fun V2 => Chg (fun b => b = g) v1.drew V2 ∧ V2.cell? ⟨g, 4, none⟩ = some (.int .u32 (p.g 1 : Nat))) (by kernel_rfl) ⟨Chg.refl _ _, r4⟩ (fun hHeld => ?_)
    clear hHeld HXF HGF HBm2
    generalize v1.drew = v2' at HXv2 HGv2 HBm3 r4 ⊢
    have c13 : v2'.cell? ⟨g, 13, none⟩ = some (.slice A p.mem.length c) := HXv2.out.cmem
    obtain ⟨_, _, hs0, _, _, hrp, _⟩ := HXv2.out.mem
    injection hs0 with hs0 hs1 hs2
    clear hs1
    subst hs0 hs2
    obtain ⟨_, _, hs0, _, _, hrm, _⟩ := HBm3.out
    injection hs0 with hs0 hs1 hs2
    clear hs1
    subst hs0 hs2
    have hwr := mwrite_ok _ p.mem c (p.g 1) _ (mm.take (p.g 2)) c5 v2' hrp (hrm.take (p.g 2)) hm0 hc (by unfold maxLen; omega) HTT.out
    rw [HTY.out] at hwr
    have HWr := Lib.hid hwr
    have hIv : ∀ b, From v2'.heap.size b → calK B g (.slice (some ⟨vb, 0, none⟩) wl.qs.length cap) b := fun b e => by
     have e' : v2'.heap.size ≤ b := e
     have h1 := HXv2.out.lt
     refine ⟨by omega, by omega, fun e2 => ?_⟩
     have := (HXv2.out.qs.ge e2).2
     omega
    clear hrp hrm hwr
    refine hp 0 94 (.pointer (some ⟨g, 0, none⟩)) rfl ⟨Chg.refl _ _, r4⟩ ?_
    refine hp 1 95 (.pointer (some ⟨g, 0, none⟩)) rfl ⟨Chg.refl _ _, r4⟩ ?_
    refine hp 2 96 (.pointer (some ⟨g, 0, none⟩)) rfl ⟨Chg.refl _ _, r4⟩ ?_
    refine hp 3 97 (.pointer (some ⟨g, 0, none⟩)) rfl ⟨Chg.refl _ _, r4⟩ ?_
    refine hp 4 98 (.pointer (some ⟨g, 13, none⟩)) rfl ⟨Chg.refl _ _, r4⟩ ?_
    refine hp 6 100 (.pointer (some ⟨g, 0, none⟩)) rfl ⟨Chg.refl _ _, r4⟩ ?_
    refine hp 7 101 (.pointer (some ⟨g, 0, none⟩)) rfl ⟨Chg.refl _ _, r4⟩ ?_
    refine hp 8 102 (.pointer (some ⟨g, 0, none⟩)) rfl ⟨Chg.refl _ _, r4⟩ ?_
    refine hp 9 103 (.pointer (some ⟨g, 3, none⟩)) rfl ⟨Chg.refl _ _, r4⟩ ?_
    refine hp 10 104 (.pointer (some ⟨g, 4, none⟩)) rfl ⟨Chg.refl _ _, r4⟩ ?_
    refine hp 11 105 (.int .u32 (p.g 1 : Nat)) rfl ⟨Chg.refl _ _, r4⟩ ?_ (he := (fun W hW => by obtain ⟨_, hc⟩ := hW; go_simp))
    refine hp 12 106 (.int .i64 (p.g 1 : Nat)) rfl ⟨Chg.refl _ _, r4⟩ ?_ (he := (fun W hW => by go_simp; exact wrap_i64n _ hg1b))
    refine hp 13 107 (.slice A5 mm.length c5) rfl ⟨Chg.refl _ _, r4⟩ ?_
    refine hp 14 108 (.slice A5 mm.length c5) rfl ⟨Chg.refl _ _, r4⟩ ?_
    refine hp 15 109 (.int .i64 (mm.length : Nat)) rfl ⟨Chg.refl _ _, r4⟩ ?_
    refine hp 16 110 (.int .i64 (p.g 2 : Nat)) rfl ⟨Chg.refl _ _, r4⟩ ?_
    refine hp 17 111 (.int .i64 (tk : Nat)) rfl ⟨Chg.refl _ _, r4⟩ ?_ (he := (fun W hW => by go_simp <;> omega))
    refine hp 18 112 (.slice A5 tk c5) rfl ⟨Chg.refl _ _, r4⟩ ?_ (he := (fun W hW => by go_simp <;> omega))
    refine h_one 5 (by kernel_rfl) rfl (by kernel_rfl) ?_
    intro K hK
    go_simp
    refine hK.out _ _ ⟨Chg.refl _ _, r4⟩ (fun _ => ?_)
    clear hK K
    try simp only [Act.put, sA, sB, sC]
    refine h_one 19 (by kernel_rfl) rfl (by kernel_rfl) ?_
    intro K hK
    go_simp
    refine (HWr.out).mono ?_
    rintro e u6 ⟨A6, c6, rfl, q1, q2, q3, hg6⟩
    have HQ6 := Lib.hid q3
    have HV6 := Lib.hid hg6
    have r46 : u6.cell? ⟨g, 4, none⟩ = some (.int .u32 (p.g 1 : Nat)) := hg6.cell_some r4 (fun e => e)
    have HX6 := Lib.hid (HXv2.out.non hg6)
    have c136 : u6.cell? ⟨g, 13, none⟩ = some (.slice A p.mem.length c) := HX6.out.cmem
    have z136 := HX6.out.free 13
    have HM6 : Hid (BytesV (calK B g (.slice (some ⟨vb, 0, none⟩) wl.qs.length cap)) u6 (put p.mem (p.g 1) (mm.take (p.g 2))) (.slice A6 p.mem.length c6)) := Lib.hid (by
      have h := own_bytes q3 (by rw [HPl.out]; exact q1) q2
      rw [HPl.out] at h
      exact h.mono (fun b e => hIv b e))
    have HX7 := Lib.hid (HX6.out.setMem _ _ HM6.out)
    have r47 : World.cell? (u6.setCell ⟨g, 13, none⟩ (.slice A6 p.mem.length c6)) ⟨g, 4, none⟩ = some (.int .u32 (p.g 1 : Nat)) := HX7.out.creg 1 (by omega)
    clear q3 hg6
    refine hK.out _ _ ⟨HV6.out.of_non, r46⟩ (fun _ => ?_)
    clear hK K
    try simp only [Act.put, sA, sB, sC]
    refine hp 20 93 (.tuple #[.slice A6 p.mem.length c6, .int .i64 0]) rfl ⟨HV6.out.of_non, r46⟩ ?_
    refine hp 21 114 (.slice A6 p.mem.length c6) rfl ⟨HV6.out.of_non, r46⟩ ?_
    refine hp 22 115 (.int .i64 0) rfl ⟨HV6.out.of_non, r46⟩ ?_
    refine hp 23 116 (.pointer (some ⟨g, 0, none⟩)) rfl ⟨HV6.out.of_non, r46⟩ ?_
    refine hp 24 117 (.pointer (some ⟨g, 0, none⟩)) rfl ⟨HV6.out.of_non, r46⟩ ?_
    refine hp 25 118 (.pointer (some ⟨g, 13, none⟩)) rfl ⟨HV6.out.of_non, r46⟩ ?_
    refine h_one 26 (by kernel_rfl) rfl (by kernel_rfl) ?_
    intro K hK
    go_simp
    refine hK.out _ _ ⟨HV6.out.of_non.trans_same (chg_set u6 g 13 (.slice A6 p.mem.length c6)), r47⟩ (fun _ => ?_)
    clear hK K
    try simp only [Act.put, sA, sB, sC]
    refine wpAnyH_done (by kernel_rfl) ?_ _
    have HG7 := Lib.hid ((HGv2.out.trans_same (HV6.out.of_non : Chg (From B) v2' u6)).trans_same (chg_own (i := 13) (u := .slice A6 p.mem.length c6) hB))
    generalize u6.setCell ⟨g, 13, none⟩ (.slice A6 p.mem.length c6) = v7 at HX7 HG7 ⊢
    clear r4 c13 r46 c136 z136 r47 HX6 HXv2 HV6 HQ6
    have r3 : v7.cell? ⟨g, 3, none⟩ = some (.int .u32 (p.g 0 : Nat)) := HX7.out.creg 0 (by omega)
    have z3 := HX7.out.free 3
    have hw3 : IntKind.u32.wrap ((mm.length : Int) + 1) = (mm.length : Int) + 1 := by show ((mm.length : Int) + 1) % 4294967296 = _; omega
    have HX8 := Lib.hid (HX7.out.setR 0 (mm.length + 1) (by omega) (by omega))
    have HG8 := Lib.hid (HG7.out.trans_same (chg_own (i := 3) (u := .int .u32 ((mm.length + 1 : Nat) : Int)) hB))
    go_wp2_with fail
    go_ret
    rw [HE.out]
    exact ⟨rfl, ⟨_, _, _, HX8.out⟩, HG8.out⟩
  ·have hde : (q.ch.dst == p.id) = false := by simpa using hid
   have HE : Hid (recvV p wl = (false, p, wl)) := Lib.hid (recvV_bad HQG.out (fun e => hid e.2))
   go_wp2_with fail
   go_quiet (fail)
   go_wp2_with fail
   go_ret
   rw [HE.out]
   exact ⟨rfl, ⟨_, _, _, HX1.out.non ((Chg.refl Non _).drewN _)⟩, HG1.out.drewN _⟩
 ·have hde : (er == 0) = false := by simpa using hne
  have HE : Hid (recvV p wl = (false, p, wl)) := Lib.hid (recvV_bad HQG.out (fun e => by rw [ht] at e; cases e.1))
  go_wp2_with fail
  go_quiet (fail)
  go_wp2_with fail
  go_ret
  rw [HE.out]
  exact ⟨rfl, ⟨_, _, _, HX1.out.non ((Chg.refl Non _).drewN _)⟩, HG1.out.drewN _⟩
end
section
open Go.RowKit
set_option maxRecDepth 100000 in
theorem do1_ok (J : Nat → Prop) (q : Qu) (v : Value) (w : World) (h : SlV (msgV J) J 1 w q.msgs v) :
  Calls Tryz.prog 237 #[.agg (q.L v).toArray] w fun e w' => e = .returned (.bool (!mayQ q)) ∧ Chg Non w w' := by
 have HM := Lib.hid (fun W (hg : Chg Non w W) => mayQueue_ok J q v W (h.non hg (fun a vs h => msgV_non _ _ _ _ hg h)))
 obtain ⟨A, c, rfl, hc, hcm, hr⟩ := h
 obtain ⟨b, hb⟩ : ∃ b, mayQ q = b := ⟨_, rfl⟩
 rw [hb] at HM ⊢
 obtain ⟨⟨i, s, d, cap, sz⟩, ms⟩ := q
 clear hr hb
 show Calls _ _ #[.agg #[.int .i64 i, .int .i64 s, .int .i64 d, .int .i64 cap, .int .i64 sz, .slice A ms.length c]] _ _
 replace HM : Hid (∀ W, Chg Non w W → Calls Tryz.prog 125 #[.agg #[.int .i64 i, .int .i64 s, .int .i64 d, .int .i64 cap, .int .i64 sz, .slice A ms.length c]] W fun e w' => e = .returned (.bool b) ∧ Chg Non W w') := HM
 go_enter Tryz.func237, Tryz.ntmps237
 go_wp2_with (refine sel (some 3) (.load 95 _) ?_; refine wpList_load_mid rfl 95 (.tmp 1) rfl w.heap.size 0 rfl [.int .i64 i, .int .i64 s, .int .i64 d, .int .i64 cap, .int .i64 sz, .slice A ms.length c] _ (blk_range (blk_new w _)) Tryz.underlying95 rfl (by kernel_rfl) ?_)
 refine (HM.out _ ((Chg.refl Non w).alloc _)).mono ?_
 rintro e u ⟨rfl, hg⟩
 have HG := Lib.hid (((Chg.refl Non w).alloc _).then_non hg)
 clear hg
 go_wp2_with fail
 go_ret
 exact ⟨rfl, HG.out⟩
def callCells (g : Nat) : Array Value := #[.string ⟨#[121, 105, 101, 108, 100]⟩, .func (.func 258) #[.pointer (some ⟨g, 0, none⟩)] #[], .string ⟨#[115, 101, 110, 100]⟩, .func (.func 259) #[.pointer (some ⟨g, 0, none⟩)] #[], .string ⟨#[114, 101, 99, 101, 105, 118, 101]⟩, .func (.func 260) #[.pointer (some ⟨g, 0, none⟩)] #[], .string ⟨#[110, 111, 119]⟩, .func (.func 261) #[.pointer (some ⟨g, 0, none⟩)] #[], .string ⟨#[105, 110, 112, 117, 116]⟩, .func (.func 262) #[.pointer (some ⟨g, 0, none⟩)] #[], .string ⟨#[115, 101, 108, 102]⟩, .func (.func 263) #[.pointer (some ⟨g, 0, none⟩)] #[], .string ⟨#[104, 97, 108, 116]⟩, .func (.func 264) #[.pointer (some ⟨g, 0, none⟩)] #[]]
set_option maxRecDepth 100000 in
theorem calls_ok (g : Nat) (w : World) : Calls Tryz.prog 240 #[.pointer (some ⟨g, 0, none⟩)] w fun e w' => e = .returned (.agg (callCells g)) ∧ Chg Non w w' := by
 go_enter Tryz.func240, Tryz.ntmps240
 go_wp2_with (first
   | (refine sel (some 5) (.build 331 _) ?_; refine wpList_valA rfl (some 5) (.agg #[.string ⟨#[121, 105, 101, 108, 100]⟩, .func (.func 258) #[.pointer (some ⟨g, 0, none⟩)] #[]]) rfl (by kernel_rfl) ?_)
   | (refine sel (some 8) (.build 331 _) ?_; refine wpList_valA rfl (some 8) (.agg #[.string ⟨#[115, 101, 110, 100]⟩, .func (.func 259) #[.pointer (some ⟨g, 0, none⟩)] #[]]) rfl (by kernel_rfl) ?_)
   | (refine sel (some 11) (.build 331 _) ?_; refine wpList_valA rfl (some 11) (.agg #[.string ⟨#[114, 101, 99, 101, 105, 118, 101]⟩, .func (.func 260) #[.pointer (some ⟨g, 0, none⟩)] #[]]) rfl (by kernel_rfl) ?_)
   | (refine sel (some 14) (.build 331 _) ?_; refine wpList_valA rfl (some 14) (.agg #[.string ⟨#[110, 111, 119]⟩, .func (.func 261) #[.pointer (some ⟨g, 0, none⟩)] #[]]) rfl (by kernel_rfl) ?_)
   | (refine sel (some 17) (.build 331 _) ?_; refine wpList_valA rfl (some 17) (.agg #[.string ⟨#[105, 110, 112, 117, 116]⟩, .func (.func 262) #[.pointer (some ⟨g, 0, none⟩)] #[]]) rfl (by kernel_rfl) ?_)
   | (refine sel (some 20) (.build 331 _) ?_; refine wpList_valA rfl (some 20) (.agg #[.string ⟨#[115, 101, 108, 102]⟩, .func (.func 263) #[.pointer (some ⟨g, 0, none⟩)] #[]]) rfl (by kernel_rfl) ?_)
   | (refine sel (some 23) (.build 331 _) ?_; refine wpList_valA rfl (some 23) (.agg #[.string ⟨#[104, 97, 108, 116]⟩, .func (.func 264) #[.pointer (some ⟨g, 0, none⟩)] #[]]) rfl (by kernel_rfl) ?_)
   | (refine sel (some 24) (.build 332 _) ?_; refine wpList_valA rfl (some 24) (.agg (callCells g)) rfl (by kernel_rfl) ?_)
   | (refine sel none (.store 332 (.tmp 2) (.tmp 24)) ?_
      refine wpList_store_rowA rfl 332 (.tmp 2) (.tmp 24) rfl w.heap.size (callCells g) rfl rfl 332 _ (blk_new w _) (by kernel_rfl) rfl (by simp [callCells, Value.oneCell']) ?_
      intro W hgW hbW))
 exact bodyPost_ret (res_c Tryz.results240 _ _ w.heap.size 332 (callCells g) (0, 0) _ rfl hbW Tryz.underlying332 rfl (by kernel_rfl)) (by kernel_rfl) ⟨rfl, ((Chg.refl Non w).alloc _).then_new hgW (fun x e => by omega)⟩
theorem exec_build {P : Program} {ρ : Operand → Value} {o : Oper} {t : TypeId} {parts : Array (Nat × Operand)} {v : Value} {W : World} {parts2 : Array (Nat × Value)} (ho : o.op = .build t parts) (hp : (parts.map fun (i, x) => (i, ρ x)) = parts2) (h : (Instr.build t parts2).run P W = .ok v W) : (execOp ρ o).run P W = .ok (.value v) W := by
 subst hp
 unfold execOp
 rw [ho]
 simp [h]
theorem sendV_same {p : Pt} {w : Wld} (h : (sendV p w).1 = false) : sendV p w = (false, w) := by
 cases hq : qGet (idxOf (qidP (p.g 0)) w.qs) w.qs with
 | none => exact sendV_none hq
 | some q =>
  rw [sendV_some hq] at h ⊢
  split at h
  ·cases h
  ·rename_i hc
   rw [if_neg hc]
theorem recvV_same {p : Pt} {w : Wld} (h : (recvV p w).1 = false) : recvV p w = (false, p, w) := by
 cases hq : qGet (idxOf (qidP (p.g 0)) w.qs) w.qs with
 | none => exact recvV_none hq
 | some q =>
  by_cases hc : there p.mem (p.g 1) (p.g 2) = true ∧ q.ch.dst = p.id
  ·cases hm : q.msgs with
   | nil => rw [recvV_empty hq hc hm] at h; cases h
   | cons m rest => rw [recvV_take hq hc hm] at h; cases h
  ·exact recvV_bad hq hc
theorem list8 {l : List Nat} (h : l.length = 8) : ∃ r0 r1 r2 r3 r4 r5 r6 r7, l = [r0, r1, r2, r3, r4, r5, r6, r7] := by
 match l, h with
 | [r0, r1, r2, r3, r4, r5, r6, r7], _ => exact ⟨r0, r1, r2, r3, r4, r5, r6, r7, rfl⟩
theorem build_caller (p : Pt) (m : Value) (wl : Wld) (vq vi : Value) (h8 : p.r.length = 8) (W : World) :
  (Instr.build 329 #[(0, .agg (partC p m)), (1, .agg #[.int .i64 wl.frames, .int .i64 wl.tick, .int .i64 wl.ver, vq, vi])]).run Tryz.prog W = .ok (.agg (callerC p m wl vq vi false)) W := by
 obtain ⟨id, size, keep, r, pc, st, mem⟩ := p
 obtain ⟨r0, r1, r2, r3, r4, r5, r6, r7, rfl⟩ := list8 h8
 kernel_rfl
namespace CalX
variable {B : Nat} {W W' : World} {g : Nat} {p : Pt} {wl : Wld} {y : Bool} {m vq vi : Value}
theorem rangeP (h : CalX B W g p wl y m vq vi) : W.rangeAt g 0 (partC p m).toList := fun j v hv => by
 have hj := (List.getElem?_eq_some_iff.1 hv).1
 rw [Array.length_toList, partC_size h.r8] at hj
 rw [Nat.zero_add]
 exact blk_cell h.blk j (by rw [callerC_lo h.r8 _ _ _ _ _ j hj]; simpa using hv)
theorem rangeW (h : CalX B W g p wl y m vq vi) : W.rangeAt g 14 [.int .i64 wl.frames, .int .i64 wl.tick, .int .i64 wl.ver, vq, vi] := fun j v hv => by
 refine h.chi j ?_
 have hj := (List.getElem?_eq_some_iff.1 hv).1
 have : j = 0 ∨ j = 1 ∨ j = 2 ∨ j = 3 ∨ j = 4 := by simp at hj; omega
 rcases this with rfl | rfl | rfl | rfl | rfl <;> simpa using hv
theorem handed (h : CalX B W g p wl y m vq vi) {C : Nat} (hg : Chg (fun b => b = C + 2 ∨ b = C + 3) W W') (hC : C + 4 ≤ B) : BytesV (From C) W' p.mem m ∧ SlV (quV (From C)) (From C) 6 W' wl.qs vq ∧ BytesV (From C) W' wl.inp vi := by
 have hk : ∀ b, calK B g vq b → ¬ (b = C + 2 ∨ b = C + 3) := fun b e e2 => by have := e.1; omega
 have hf : ∀ b, calK B g vq b → From C b := fun b e => by show C ≤ b; have := e.1; omega
 obtain ⟨A, c, e, e1, e2, e3⟩ := h.qs.rd
 refine ⟨(h.mem.keep hg hk).mono hf, ⟨A, c, e, e1, e2, ?_⟩, (h.inp.keep hg hk).mono hf⟩
 have hge : ∀ b, vq.ownBlock = some b → ¬ (b = C + 2 ∨ b = C + 3) := fun b e e2 => by have := (h.qs.ge e).1; omega
 exact (e3.keep hg hge (fun _ _ _ h => h.keep hg hk)).mono (fun b e => by show C ≤ b; have := (h.qs.ge e).1; omega) (fun _ _ _ h => h.mono hf)
end CalX
def DoP (w : World) (p' : Pt) (wl' : Wld) (y' : Bool) (e : Ending) (w' : World) : Prop :=
 ∃ m' vq' vi', e = .returned (.tuple #[.agg (partC p' m'), .agg #[.int .i64 wl'.frames, .int .i64 wl'.tick, .int .i64 wl'.ver, vq', vi'], .bool y', .int .i64 0]) ∧ p'.Bd ∧ BytesV (From w.heap.size) w' p'.mem m' ∧ SlV (quV (From w.heap.size)) (From w.heap.size) 6 w' wl'.qs vq' ∧ BytesV (From w.heap.size) w' wl'.inp vi' ∧ Chg Non w w'
end
end Go.Proofs.YtmnaleaghfbclaaGreatDoor
