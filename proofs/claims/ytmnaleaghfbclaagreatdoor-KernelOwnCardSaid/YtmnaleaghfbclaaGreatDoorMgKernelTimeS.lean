/- KernelTime, part 19 of 28: contracts of the functions that it reaches, and the laws that they need, merged and shortened (from my texts XWhole, XKerA, XKerB, XKerC, XKMapE, XKerF, XKerI). -/
import Derived.Test.YtmnaleaghfbclaaGreatDoorMgKernelTimeA
import Derived.Test.YtmnaleaghfbclaaGreatDoorMgKernelTimeF
import Derived.Test.YtmnaleaghfbclaaGreatDoorMgKernelTimeH
import Derived.Test.YtmnaleaghfbclaaGreatDoorMgKernelTimeN
import Derived.Test.YtmnaleaghfbclaaGreatDoorMgKernelTimeO
import Derived.Test.YtmnaleaghfbclaaGreatDoorMgKernelTimeQ
namespace Go.Proofs.YtmnaleaghfbclaaGreatDoor
set_option linter.unusedVariables false
set_option linter.unusedSimpArgs false
set_option maxHeartbeats 8000000
section
open Go.RowKit
def intV : World → Int → List Value → Prop := fun _ a vs => vs = [.int .i64 a] ∧ I64 a
theorem info_int : (Tryz.prog.info? 3).map (fun i => (i.zero, i.size, i.bytes)) = some (some (.int .i64 0), 1, 8) := by kernel_rfl
theorem whole_snoc {ws : List Win} {k : Nat} {a : Win} (h : ws[k]? = some a) : whole (ws.take (k + 1)) = whole (ws.take k) ++ List.replicate a.len.toNat a.part := by
 obtain ⟨hk, rfl⟩ := List.getElem?_eq_some_iff.1 h
 rw [List.take_succ_eq_append_getElem hk, whole, whole, List.flatMap_append]
 simp
theorem whole_take_len {ws : List Win} (h : schMay ws = true) (k : Nat) : (whole (ws.take k)).length ≤ 64 := by
 obtain ⟨_, h2, h3, h4⟩ := schMay_bd h
 have h1 := whole_len (ws := ws.take k) (fun a ha => h3 a (List.mem_of_mem_take ha))
 have h5 : wsum ws = wsum (ws.take k) + wsum (ws.drop k) := by
  have h8 : ∀ a b : List Win, wsum (a ++ b) = wsum a + wsum b := fun a b => by simp [wsum]
  have h7 := h8 (ws.take k) (ws.drop k)
  rw [List.take_append_drop] at h7
  exact h7
 have h6 := wsum_ge (ws := ws.drop k) (fun a ha => h3 a (List.mem_of_mem_drop ha))
 omega
set_option maxRecDepth 100000 in
theorem whole_ok (I : Nat → Prop) (A : Option Addr) (ws : List Win) (c : Nat) (w : World) (hr : RdL winV I 2 w A ws) (hc : ws.length ≤ c) (hm : c ≤ maxLen) (hs : schMay ws = true) :
  Calls Tryz.prog 71 #[.slice A ws.length c] w fun e w' => ∃ v, e = .returned v ∧ OwnL intV w.heap.size 3 1 w' v (whole ws) ∧ Chg Non w w' := by
 have HR := Lib.hid hr
 have HM := Lib.hid (schMay_ok I A ws c w hr hc hm)
 rw [hs] at HM
 obtain ⟨_, h12, hall, _⟩ := schMay_bd hs
 have HL := Lib.hid (whole_take_len hs)
 have HAll := Lib.hid hall
 clear hr hall hs
 go_enter Tryz.func71, Tryz.ntmps71
 go_wp2_with fail
 refine HM.out.mono ?_
 rintro e u ⟨rfl, hg⟩
 have HG := Lib.hid hg
 clear hg HM
 go_wp2_with fail
 go_loopw [11, 3] (fun iv lv wr => ∃ k : Nat, k ≤ ws.length ∧ iv = .int .i64 k ∧ Hid (OwnL intV w.heap.size 3 1 wr lv (whole (ws.take k))) ∧ Hid (Chg Non w wr)) (fun iv _ _ => ws.length - (intOf iv).toNat)
 case atStart => exact ⟨0, Nat.zero_le _, rfl, Lib.hid (OwnL.nil _ _ _ _ _), HG⟩
 case round =>
  obtain ⟨k, hk, rfl, HO, HG⟩ := hrel
  by_cases hlt : k < ws.length
  ·have hltd : decide ((k : Int) < (ws.length : Int)) = true := by simpa using hlt
   obtain ⟨a, ha⟩ : ∃ a, ws[k]? = some a := ⟨_, List.getElem?_eq_getElem hlt⟩
   obtain ⟨b, o, rfl, k0, k1, hbl, hi1, hi2⟩ := win_at HR.out HG.out ha
   have hok := winOk_iff.1 (HAll.out a (List.mem_of_getElem? ha))
   have HS := Lib.hid (whole_snoc ha)
   have hlk := HL.out k
   have hlk1 := HL.out (k + 1)
   rw [HS.out, List.length_append, List.length_replicate] at hlk1
   clear ha
   obtain ⟨x, y⟩ := a
   simp only at k0 k1 hi2 hok hlk1
   obtain ⟨n, rfl⟩ : ∃ n : Nat, x = n := ⟨x.toNat, by omega⟩
   simp only [Int.toNat_natCast] at hlk1
   have HG2 := Lib.hid (HG.out.alloc (.cells #[.int .i64 n, .int .i64 y] 49))
   have HO2 := Lib.hid (HO.out.non ((Chg.refl Non wr).alloc (.cells #[.int .i64 n, .int .i64 y] 49)) (fun _ _ h => h))
   have hbx := blk_new wr (.cells #[.int .i64 n, .int .i64 y] 49)
   have hszw := HG.out.size
   have HNe : Hid (∀ g, u3.ownBlock = some g → g ≠ wr.heap.size) := Lib.hid (fun g e => by have := (HO.out.ge e).2; omega)
   clear HO HG
   go_wp2_with fail
   obtain ⟨W2, hW2⟩ : ∃ W2, wr.alloc (.cells #[.int .i64 n, .int .i64 y] 49) = W2 := ⟨_, rfl⟩
   obtain ⟨gx, hgx⟩ : ∃ gx, wr.heap.size = gx := ⟨_, rfl⟩
   rw [hW2] at HG2 HO2 hbx ⊢
   rw [hgx] at hbx HNe hszw ⊢
   have HBx := Lib.hid hbx
   clear hW2 hgx hbx k0 k1
   go_loopw [17, 3] (fun jv lv wr => ∃ j : Nat, j ≤ n ∧ jv = .int .i64 j ∧ Hid (OwnL intV w.heap.size 3 1 wr lv (whole (ws.take k) ++ List.replicate j y)) ∧ Hid (Chg Non w wr) ∧ Hid (wr.heap[gx]? = some (.cells #[.int .i64 n, .int .i64 y] 49 (0, 0))) ∧ Hid (∀ g, lv.ownBlock = some g → g ≠ gx)) (fun jv _ _ => n - (intOf jv).toNat)
   case atStart => exact ⟨0, Nat.zero_le _, rfl, Lib.hid (by rw [List.replicate_zero, List.append_nil]; exact HO2.out), HG2, HBx, HNe⟩
   case round =>
    clear HO2 HG2 HBx HNe
    obtain ⟨j, hj, rfl, HO3, HG3, HB3, HN3⟩ := hrel
    by_cases hjn : j < n
    ·have hjd : decide ((j : Int) < (n : Int)) = true := by simpa using hjn
     have m1 := blk_cell HB3.out 1 (v := .int .i64 y) rfl
     have hlg := blk_lt HB3.out
     go_wp2_with (refine sel (some 23) (.call _) ?_; refine Vm_stop ?_)
     refine HoleV.mk ?_
     refine wpList_snocL intV rfl (.tmp 19) (.tmp 22) 131 rfl w.heap.size 3 (.int .i64 0) 1 8 Tryz.underlying131 info_int rfl (by omega) _ (whole (ws.take k) ++ List.replicate j y) rfl (HO3.out.non ((Chg.refl Non wr).alloc _) (fun _ _ h => h)) wr.heap.size y #[.int .i64 y] 3 rfl (blk_new _ _) rfl (by simp [Value.oneCell']) (by rw [List.length_append, List.length_replicate]; omega) (by omega) (by have := HG3.out.size; simp; omega) (fun _ _ _ _ h => h) ⟨rfl, hi2⟩ ?_
     intro v2 w2 ho hg hv
     have hsi := HG3.out.size
     have HO4 := Lib.hid ho
     have HG4 : Hid (Chg Non w w2) := Lib.hid ((HG3.out.alloc _).then_new hg (fun x e => (HO3.out.ge e).1))
     have HB4 := Lib.hid (blk_keep (blk_keep HB3.out ((Chg.refl Non wr).alloc _) (fun e => e)) hg (fun e => HN3.out _ e rfl))
     have HN4 : Hid (∀ g, v2.ownBlock = some g → g ≠ gx) := Lib.hid (fun g e => by
       rcases hv g e with e2 | e2
       · exact HN3.out g e2
       · simp at e2; omega)
     clear ho hg hv
     go_wp2_with fail
     exact ⟨⟨j + 1, by omega, by simp, Lib.hid (by rw [List.replicate_succ', ← List.append_assoc]; exact HO4.out), HG4, HB4, HN4⟩, by simp [intOf]; omega⟩
    ·obtain rfl : j = n := by omega
     have hjd : decide ((j : Int) < (j : Int)) = false := by simp
     go_wp2_with fail
     exact ⟨⟨k + 1, by omega, by simp, Lib.hid (by rw [HS.out, Int.toNat_natCast]; exact HO3.out), HG3⟩, by simp [intOf]; omega⟩
  ·obtain rfl : k = ws.length := by omega
   have hltd : decide ((ws.length : Int) < (ws.length : Int)) = false := by simp
   have ho := HO.out
   rw [List.take_length] at ho
   go_wp2_with fail
   go_ret
   exact ⟨_, rfl, ho, HG.out⟩
theorem count_snoc {l : List Int} {k : Nat} {a : Int} (h : l[k]? = some a) (p : Int) : (l.take (k + 1)).count p = (l.take k).count p + if a = p then 1 else 0 := by
 obtain ⟨hk, rfl⟩ := List.getElem?_eq_some_iff.1 h
 rw [List.take_succ_eq_append_getElem hk, List.count_append, List.count_singleton]
 simp only [beq_iff_eq]
set_option maxRecDepth 100000 in
theorem ticks_ok (I : Nat → Prop) (A : Option Addr) (ws : List Win) (c : Nat) (part : Int) (w : World) (hr : RdL winV I 2 w A ws) (hc : ws.length ≤ c) (hm : c ≤ maxLen) (hs : schMay ws = true) :
  Calls Tryz.prog 40 #[.slice A ws.length c, .int .i64 part] w fun e w' => e = .returned (.int .i64 (ticksV ws part : Nat)) ∧ Chg Non w w' := by
 have HW := Lib.hid (whole_ok I A ws c w hr hc hm hs)
 have hwl := whole_take_len hs ws.length
 rw [List.take_length] at hwl
 have HT : Hid (ticksV ws part = (whole ws).count part) := Lib.hid rfl
 clear hr hs
 go_enter Tryz.func40, Tryz.ntmps40
 go_wp2_with fail
 refine HW.out.mono ?_
 rintro e u ⟨v, rfl, ho, hg⟩
 obtain ⟨A2, c2, rfl, h1, h2, h3⟩ := ho.rd
 have HR := Lib.hid h3
 have HG := Lib.hid hg
 obtain ⟨l, hl⟩ : ∃ l, whole ws = l := ⟨_, rfl⟩
 rw [hl] at HR HT hwl h1 ⊢
 clear ho hg h3 HW hl
 go_wp2_with fail
 go_loopw [11, 5] (fun iv nv wr => ∃ k : Nat, k ≤ l.length ∧ iv = .int .i64 k ∧ nv = .int .i64 ((l.take k).count part : Nat) ∧ Hid (Chg Non u wr)) (fun iv _ _ => l.length - (intOf iv).toNat)
 case atStart => exact ⟨0, Nat.zero_le _, rfl, rfl, Lib.hid (Chg.refl _ _)⟩
 case round =>
  obtain ⟨k, hk, rfl, rfl, HG2⟩ := hrel
  by_cases hlt : k < l.length
  ·have hltd : decide ((k : Int) < (l.length : Int)) = true := by simpa using hlt
   obtain ⟨a, ha⟩ : ∃ a, l[k]? = some a := ⟨_, List.getElem?_eq_getElem hlt⟩
   obtain ⟨b, o, vs, rfl, _, _, hcell, rfl, hi⟩ := HR.out k a ha
   have h0 := HG2.out.cell_some (hcell 0 _ rfl) (fun e => e)
   simp only [Nat.add_zero, Nat.mul_one] at h0
   have HC := Lib.hid (count_snoc ha part)
   have hcb : (l.take k).count part ≤ 64 := Nat.le_trans List.count_le_length (by rw [List.length_take]; omega)
   obtain ⟨n, hn⟩ : ∃ n, (l.take k).count part = n := ⟨_, rfl⟩
   rw [hn] at HC hcb ⊢
   clear ha hcell hn
   by_cases hap : a = part
   ·have hb : (a == part) = true := by simpa using hap
    have HC2 := Lib.hid (HC.out.trans (by rw [if_pos hap]))
    go_wp2_with fail
    exact ⟨⟨k + 1, by omega, by simp, by rw [HC2.out]; simp, HG2⟩, by simp [intOf]; omega⟩
   ·have hb : (a == part) = false := by simpa using hap
    have HC2 := Lib.hid (HC.out.trans (by rw [if_neg hap]))
    go_wp2_with fail
    exact ⟨⟨k + 1, by omega, by simp, by rw [HC2.out]; simp, HG2⟩, by simp [intOf]; omega⟩
  ·obtain rfl : k = l.length := by omega
   have hltd : decide ((l.length : Int) < (l.length : Int)) = false := by simp
   rw [List.take_length, ← HT.out]
   go_wp2_with fail
   go_ret
   exact ⟨rfl, HG.out.then_non HG2.out⟩
end
section
open Go.RowKit
set_option maxRecDepth 100000 in
theorem at_ok (N : Nat → Prop) (w : World) (k : Kn) (a : KAt) (h : KerB N w k a) : Calls Tryz.prog 29 #[.pointer (some ⟨a.p, 0, none⟩)] w fun e w' => e = .returned (.int .i64 k.tick) ∧ Chg Non w w' := by
 have H := Lib.hid h
 clear h
 go_enter Tryz.func29, Tryz.ntmps29
 go_wp2_with fail
 refine (none_ok N w k a H.out).mono ?_
 rintro e u ⟨rfl, hg⟩
 obtain ⟨vq, h1, _⟩ := (H.out.non hg).cell
 have h8 := blk_cell h1 8 (v := .int .i64 k.tick) rfl
 clear h1
 go_wp2_with fail
 go_ret
 exact ⟨rfl, hg⟩
end
section
open Go.RowKit
structure Kn.Small (k : Kn) : Prop where
 parts : k.s.parts.length ≤ 1000
 queues : k.s.queues.length ≤ 1000
 msgs : ∀ a ∈ k.s.queues, a.msgs.length ≤ 1000
set_option maxRecDepth 100000 in
theorem state_ok (N : Nat → Prop) (w : World) (k : Kn) (a : KAt) (h : KerB N w k a) (hs : k.Small) : Calls Tryz.prog 28 #[.pointer (some ⟨a.p, 0, none⟩)] w fun e w' => ∃ b d, e = .returned (.agg #[.int .i64 k.s.frames, b, d]) ∧ StaO w.heap.size w' k.s b d ∧ Chg Non w w' := by
 have H := Lib.hid h
 have hp0 : a.p < w.heap.size := by obtain ⟨vq, h1, _⟩ := h.cell; exact blk_lt h1
 have HS := Lib.hid hs
 clear h hs
 go_enter Tryz.func28, Tryz.ntmps28
 go_wp2_with fail
 refine (none_ok N _ k a (H.out.non ((Chg.refl _ _).alloc _))).mono ?_
 rintro e u ⟨rfl, hg⟩
 have HB := Lib.hid (blk_call hg)
 have HG := Lib.hid (((Chg.refl Non w).alloc _).then_non hg)
 obtain ⟨vq, h1, hsv⟩ := (H.out.non HG.out).sta
 have f4 := blk_cell h1 4 (v := .int .i64 k.s.frames) rfl
 have f5 := blk_cell h1 5 (v := a.vp) rfl
 have f6 := blk_cell h1 6 (v := vq) rfl
 have HSc := Lib.hid (scopy_ok _ u k.s a.vp vq hsv HS.out.parts HS.out.queues HS.out.msgs)
 clear hg h1 hsv
 go_wp2_with fail
 refine HSc.out.mono ?_
 rintro e u2 ⟨b, d, rfl, hst, hg⟩
 have HB2 := Lib.hid (blk_keep HB.out hg (fun e => e))
 have HST := Lib.hid hst
 have HG2 := Lib.hid (HG.out.then_non hg)
 have hwu := HG.out.size
 have hwu1 := blk_lt HB.out
 obtain ⟨A1, c1, rfl, _⟩ := hst.ps.rd
 obtain ⟨A2, c2, rfl, _⟩ := hst.qs.rd
 clear hst hg f4 f5 f6
 go_wp2_with (refine sel none (.store 30 (.tmp 2) (.tmp 10)) ?_
              refine wpList_store_rowA rfl 30 (.tmp 2) (.tmp 10) rfl w.heap.size #[.int .i64 k.s.frames, .slice A1 k.s.parts.length c1, .slice A2 k.s.queues.length c2] rfl rfl 30 _ HB2.out (by kernel_rfl) rfl (by simp [Value.oneCell']) ?_
              intro W hgW hbW)
 refine bodyPost_ret (res_c Tryz.results28 _ _ w.heap.size 30 _ (0, 0) _ rfl hbW Tryz.underlying30 rfl (by kernel_rfl)) (by kernel_rfl) ⟨_, _, rfl, ⟨?_, ?_⟩, HG2.out.then_new hgW (fun x e => by omega)⟩
 ·exact ((HST.out.ps.keep hgW (fun g e e2 => by have := (HST.out.ps.ge e).1; omega) (fun a vs h => h.keep hgW (fun b e e2 => by have := e.1; omega))).base hwu).mono (fun a vs h => h.mono (fun b e => ⟨Nat.le_trans hwu e.1, e.2⟩))
 ·exact ((HST.out.qs.keep hgW (fun g e e2 => by have := (HST.out.qs.ge e).1; omega) (fun a vs h => h.keep hgW (fun b e e2 => by have := e.1; omega))).base hwu).mono (fun a vs h => h.mono (fun b e => ⟨Nat.le_trans hwu e.1, e.2⟩))
end
section
open Go.RowKit
theorem inp_look {I : Nat → Prop} {w : World} : ∀ {l : List (Int × List UInt8)} {m : List (Int × Value)} (id : Int), inpV I w l m → BytesV I w (((l.find? (fun p => p.1 == id)).map (·.2)).getD []) ((lookV m id).getD (.slice none 0 0))
 | [], [], id, h => BytesV.nil I w
 | [], y :: m, id, h => by have := h.1; simp at this
 | x :: l, [], id, h => by have := h.1; simp at this
 | x :: l, y :: m, id, h => by
  obtain ⟨h1, h2, h3⟩ := h.2 0 x y rfl rfl
  unfold lookV
  rw [List.find?_cons, List.find?_cons, h1]
  cases hy : y.1 == id with
  | true => exact h2
  | false =>
   have := inp_look (I := I) (w := w) (l := l) (m := m) id ⟨by have := h.1; simpa using this, fun i a b ha hb => h.2 (i + 1) a b ha hb⟩
   unfold lookV at this
   exact this
set_option maxRecDepth 100000 in
theorem look_ok (N : Nat → Prop) (w : World) (k : Kn) (a : KAt) (id : Int) (h : KerB N w k a) : Calls Tryz.prog 25 #[.pointer (some ⟨a.p, 0, none⟩), .int .i64 id] w fun e w' => ((∃ (j : Nat) (x : Pt) (m : Value), idxOf (idP id) k.s.parts = j ∧ k.s.parts[j]? = some x ∧ e = .returned (.tuple #[.agg (partC x m), .bool true]) ∧ BytesV (From w.heap.size) w' x.mem m) ∨ (idxOf (idP id) k.s.parts = -1 ∧ e = .returned (.tuple #[.agg zeroPart, .bool false]))) ∧ Chg Non w w' := by
 have H := Lib.hid h
 have hp0 : a.p < w.heap.size := by obtain ⟨vq, h1, _⟩ := h.cell; exact blk_lt h1
 have HPl : Hid (∀ (j : Nat) (x : Pt), k.s.parts[j]? = some x → x.r.length = 8) := Lib.hid (fun j x hx => by
   obtain ⟨A, c, _, _, _, hr⟩ := h.parts.rd
   obtain ⟨_, _, _, _, _, _, _, m, _, _, hbd, _⟩ := hr j x hx
   exact hbd.r8)
 clear h
 go_enter Tryz.func25, Tryz.ntmps25
 go_wp2_with fail
 refine (none_ok N _ k a (H.out.non ((Chg.refl _ _).alloc _))).mono ?_
 rintro e u ⟨rfl, hg⟩
 have HB := Lib.hid (blk_call hg)
 have HG := Lib.hid (((Chg.refl Non w).alloc _).then_non hg)
 obtain ⟨vq, h1, hsv⟩ := (H.out.non HG.out).sta
 have f4 := blk_cell h1 4 (v := .int .i64 k.s.frames) rfl
 have f5 := blk_cell h1 5 (v := a.vp) rfl
 have f6 := blk_cell h1 6 (v := vq) rfl
 have HSc := Lib.hid (sPart_ok _ u k.s a.vp vq id hsv)
 have hwu := HG.out.size
 clear hg h1 hsv
 go_wp2_with fail
 refine HSc.out.mono ?_
 rintro e u2 ⟨hcase, hg⟩
 have HB2 := Lib.hid (blk_keep HB.out hg (fun e => e))
 have HG2 := Lib.hid (HG.out.then_non hg)
 clear hg f4 f5 f6
 rcases hcase with ⟨j, x, m, hj, hx, rfl, hm⟩ | ⟨hj, rfl⟩
 ·have h8 := HPl.out j x hx
  have HM := Lib.hid hm
  have HJX := Lib.hid (And.intro hj hx)
  have ho : m.oneCell' = true := by obtain ⟨A, c, rfl, _⟩ := hm; rfl
  clear hm hj hx
  go_wp2_with (refine sel none (.store 69 (.tmp 4) (.tmp 15)) ?_
               refine wpList_store_rowA rfl 69 (.tmp 4) (.tmp 15) rfl w.heap.size (partC x m) rfl rfl 69 zeroPart HB2.out (by rw [partC_size h8]; exact info_part) (by rw [partC_size h8]; rfl) (partC_one _ _ ho) ?_
               intro W hgW hbW)
  exact bodyPost_ret (res_ct Tryz.results25 _ _ w.heap.size 69 (partC x m) (0, 0) _ _ rfl rfl hbW Tryz.underlying69 rfl (by rw [partC_size h8]; exact info_part)) rfl
   ⟨.inl ⟨j, x, m, HJX.out.1, HJX.out.2, rfl, (HM.out.keep hgW (fun b e e2 => by have : u.heap.size ≤ b := e; have := blk_lt HB.out; omega)).mono (fun b e => Nat.le_trans hwu e)⟩, HG2.out.then_new hgW (fun x e => by omega)⟩
 ·have HJX := Lib.hid hj
  clear hj
  go_wp2_with (refine sel none (.store 69 (.tmp 4) (.tmp 15)) ?_
               refine wpList_store_rowA rfl 69 (.tmp 4) (.tmp 15) rfl w.heap.size zeroPart rfl rfl 69 zeroPart HB2.out (by kernel_rfl) rfl (by simp [zeroPart, Value.oneCell']) ?_
               intro W hgW hbW)
  exact bodyPost_ret (res_ct Tryz.results25 _ _ w.heap.size 69 zeroPart (0, 0) _ _ rfl rfl hbW Tryz.underlying69 rfl (by kernel_rfl)) rfl ⟨.inr ⟨HJX.out, rfl⟩, HG2.out.then_new hgW (fun x e => by omega)⟩
end
section
open Go.RowKit Go.Maps
theorem modify_modify {α : Type} (a : Array α) (j : Nat) (f g : α → α) : (a.modify j f).modify j g = a.modify j (fun x => g (f x)) := by
 apply Array.ext_getElem?
 intro k
 rw [Array.getElem?_modify, Array.getElem?_modify, Array.getElem?_modify]
 by_cases h : j = k
 ·simp [h]
  rfl
 ·simp [h]
theorem find_born {es : Array MapEntry} {j : Nat} {e : MapEntry} (hj : es[j]? = some e) (hn : (es.toList.map (·.born)).Nodup) : es.findIdx? (fun x => (x.born : Int) == (e.born : Int)) = some j := by
 obtain ⟨hlt, hej⟩ := Array.getElem?_eq_some_iff.1 hj
 rw [Array.findIdx?_eq_some_iff_getElem]
 refine ⟨hlt, by simp [hej], fun i hi => ?_⟩
 have hil : i < es.size := by omega
 intro hb
 have hb' : es[i].born = e.born := by
  have := hb
  simp at this
  omega
 have h1 : (es.toList.map (·.born))[i]? = some e.born := by rw [List.getElem?_map, Array.getElem?_toList, Array.getElem?_eq_getElem hil, Option.map_some, hb']
 have h2 : (es.toList.map (·.born))[j]? = some e.born := by rw [List.getElem?_map, Array.getElem?_toList, hj, Option.map_some]
 have := (List.getElem?_inj (by simpa using hil) hn).1 (h1.trans h2.symm)
 omega
theorem set_heap (W : World) (b : Nat) (o : Obj) (hb : b < W.heap.size) : ({ W with heap := W.heap.setIfInBounds b o } : World).heap[b]? = some o := by simp [hb]
theorem set_chg (W : World) (b : Nat) (o : Obj) : Chg (fun k => k = b) W { W with heap := W.heap.setIfInBounds b o } := ⟨rfl, rfl, rfl, by simp, fun k hkl hne => by simp [Ne.symm hne]⟩
theorem store_run {W : World} {b j : Nat} {es : Array MapEntry} {clock : Nat} {e : MapEntry} (hW : W.heap[b]? = some (.map es clock)) (hj : es[j]? = some e) (hn : (es.toList.map (·.born)).Nodup) (x : Value) :
  (Instr.entryStore 62 (.map (some b)) (.int .i64 (e.born : Int)) x).run Tryz.prog W = .ok () { W with heap := W.heap.setIfInBounds b (.map (es.modify j fun e => { e with val := x }) clock) } := by
 have hf := find_born hj hn
 simp [Instr.entryStore, getObj, setObj, Sem.run, hW, asInt, asIntOf, hf]
set_option maxRecDepth 100000 in
theorem entry_run {w : World} {b : Nat} {m : List (Int × Value)} (h : MapV w b m) (i : Int) (hi : I64 i) :
  ∃ v born w1, (Instr.mapEntry 62 (.map (some b)) (.int .i64 i)).run Tryz.prog w = .ok (.tuple #[v, .int .i64 born]) w1 ∧ Chg (fun k => k = b) w w1 ∧
   ∀ W, W.heap[b]? = w1.heap[b]? → ∀ x, ∃ W', (Instr.entryStore 62 (.map (some b)) (.int .i64 born) x).run Tryz.prog W = .ok () W' ∧ MapV W' b (updV m i x) ∧ Chg (fun k => k = b) W W' := by
 have hn := mapV_nodup h
 have hh := h
 obtain ⟨⟨es, clock, hb, hs, hm⟩, hk⟩ := h
 have hbl : b < w.heap.size := (Array.getElem?_eq_some_iff.1 hb).1
 rcases findV_run (W := w) hm hk i hi with ⟨h1, h2⟩ | ⟨j, e, p, h1, h2, h3, h4, h5, h6⟩
 ·have hz := zero_bytesV w
  refine ⟨.slice none 0 0, clock, { w with heap := w.heap.setIfInBounds b (.map (es.push { key := .int .i64 i, val := .slice none 0 0, born := clock }) (clock + 1)) }, ?_, set_chg _ _ _, fun W hW x => ?_⟩
  ·simp [Instr.mapEntry, run_underlying Tryz.underlying62, getObj, setObj, Sem.run, hb, intKV.check w _ (key_i64V i hi), h1, hz, goInt]
  ·rw [set_heap _ _ _ hbl] at hW
   have hWl : b < W.heap.size := (Array.getElem?_eq_some_iff.1 hW).1
   have hnb : ((es.push { key := .int .i64 i, val := .slice none 0 0, born := clock }).toList.map (·.born)).Nodup := by
    obtain ⟨s1, s2, s3⟩ := hs
    simp only [Array.toList_push, List.map_append, List.map_cons, List.map_nil]
    refine List.nodup_append.2 ⟨s2, by simp, ?_⟩
    rintro a ha b hb' rfl
    simp only [List.mem_singleton] at hb'
    obtain ⟨x, hx, rfl⟩ := List.mem_map.1 ha
    have := s1 x hx; omega
   refine ⟨_, store_run (j := es.size) (e := { key := .int .i64 i, val := .slice none 0 0, born := clock }) hW (by simp) hnb x, ?_, set_chg _ _ _⟩
   obtain ⟨w', hr, hmw, _⟩ := updV_run hh i hi x
   have hr2 : (Instr.mapUpdate 62 (.map (some b)) (.int .i64 i) x).run Tryz.prog w = .ok () { w with heap := w.heap.setIfInBounds b (.map (es.push { key := .int .i64 i, val := x, born := clock }) (clock + 1)) } := by
    simp [Instr.mapUpdate, run_underlying Tryz.underlying62, getObj, setObj, Sem.run, hb, intKV.check w _ (key_i64V i hi), h1]
   rw [hr] at hr2
   injection hr2 with _ hw
   refine hmw.blk ?_
   rw [hw, set_heap _ _ _ hbl, set_heap _ _ _ hWl]
   congr 2
   apply Array.ext_getElem?
   intro k
   rw [Array.getElem?_modify]
   by_cases hks : es.size = k
   ·subst hks; simp
   ·rw [if_neg hks, Array.getElem?_push, Array.getElem?_push]
    simp [Ne.symm hks]
 ·have hjl : j < es.size := by simpa using (List.getElem?_eq_some_iff.1 h2).1
  have he : es[j]? = some e := by simpa using h2
  have hks := intKV.stays w (key_i64V i hi)
  refine ⟨p.2, e.born, { w with heap := w.heap.setIfInBounds b (.map (es.modify j fun e => { e with key := .int .i64 i }) clock) }, ?_, set_chg _ _ _, fun W hW x => ?_⟩
  ·simp [Instr.mapEntry, run_underlying Tryz.underlying62, getObj, setObj, Sem.run, hb, intKV.check w _ (key_i64V i hi), h1, he, h3, hks, goInt]
  ·rw [set_heap _ _ _ hbl] at hW
   have hWl : b < W.heap.size := (Array.getElem?_eq_some_iff.1 hW).1
   have hnb : ((es.modify j fun e => { e with key := .int .i64 i }).toList.map (·.born)).Nodup := by
    have : (es.modify j fun e => { e with key := .int .i64 i }).toList.map (·.born) = es.toList.map (·.born) := by
     apply List.ext_getElem?
     intro k
     rw [List.getElem?_map, List.getElem?_map, Array.getElem?_toList, Array.getElem?_modify, Array.getElem?_toList]
     by_cases hkj : j = k
     ·subst hkj; simp [he]
     ·simp [hkj]
    rw [this]
    exact hs.2.1
   refine ⟨_, store_run (j := j) (e := { e with key := .int .i64 i }) hW (by rw [Array.getElem?_modify, if_pos rfl, he]; rfl) hnb x, ?_, set_chg _ _ _⟩
   obtain ⟨w', hr, hmw, _⟩ := updV_run hh i hi x
   have hr2 : (Instr.mapUpdate 62 (.map (some b)) (.int .i64 i) x).run Tryz.prog w = .ok () { w with heap := w.heap.setIfInBounds b (.map (es.modify j fun e => { e with key := .int .i64 i, val := x }) clock) } := by
    simp [Instr.mapUpdate, run_underlying Tryz.underlying62, getObj, setObj, Sem.run, hb, intKV.check w _ (key_i64V i hi), h1, he, h3, hks]
   rw [hr] at hr2
   injection hr2 with _ hw
   refine hmw.blk ?_
   rw [hw, set_heap _ _ _ hbl, set_heap _ _ _ hWl, modify_modify]
theorem inpV.upd {I : Nat → Prop} {w : World} : ∀ {l : List (Int × List UInt8)} {m : List (Int × Value)} (i : Int) {x : List UInt8} {v : Value}, inpV I w l m → BytesV I w x v → x.length ≤ 1000 → inpV I w (updI l i x) (updV m i v) := by
 intro l m i x v h hb hx
 have hsame : ∀ (k : Int), (l.find? (fun p => p.1 == k)).isSome = (m.find? (fun p => p.1 == k)).isSome := by
  obtain ⟨hl, ha⟩ := h
  intro k
  induction l generalizing m with
  | nil => cases m with
   | nil => rfl
   | cons y t => simp at hl
  | cons z r ih => cases m with
   | nil => simp at hl
   | cons y t =>
    rw [List.find?_cons, List.find?_cons, (ha 0 z y rfl rfl).1]
    cases y.1 == k with
    | true => rfl
    | false => exact ih (by simpa using hl) (fun i a b h1 h2 => ha (i + 1) a b h1 h2)
 unfold updI updV
 rw [hsame i]
 split
 ·refine ⟨by simp [h.1], fun k a b ha hb' => ?_⟩
  rw [List.getElem?_map] at ha hb'
  obtain ⟨a0, ha0, rfl⟩ := Option.map_eq_some_iff.1 ha
  obtain ⟨b0, hb0, rfl⟩ := Option.map_eq_some_iff.1 hb'
  obtain ⟨e1, e2, e3⟩ := h.2 k a0 b0 ha0 hb0
  rw [e1]
  split
  ·exact ⟨rfl, hb, hx⟩
  ·exact ⟨e1, e2, e3⟩
 ·refine ⟨by simp [h.1], fun k a b ha hb' => ?_⟩
  by_cases hk : k < l.length
  ·rw [List.getElem?_append_left hk] at ha
   rw [List.getElem?_append_left (by rw [← h.1]; exact hk)] at hb'
   exact h.2 k a b ha hb'
  ·rw [List.getElem?_append_right (by omega)] at ha
   rw [List.getElem?_append_right (by have := h.1; omega), ← h.1] at hb'
   cases hk0 : k - l.length with
   | zero =>
    rw [hk0] at ha hb'
    simp only [List.getElem?_cons_zero, Option.some.injEq] at ha hb'
    subst ha hb'
    exact ⟨rfl, hb, hx⟩
   | succ n =>
    rw [hk0] at ha
    simp at ha
end
section
open Go.RowKit
set_option maxRecDepth 100000 in
theorem kat1_ok (p : Pt) (m : Value) (id : Int) (g : Nat) (w : World) (h8 : p.r.length = 8) (hg : w.cell? ⟨g, 0, none⟩ = some (.int .i64 id)) :
  Calls Tryz.prog 89 #[.agg (partC p m), .pointer (some ⟨g, 0, none⟩)] w fun e w' => e = .returned (.bool (idP id p)) ∧ Chg Non w w' := by
 obtain ⟨C, hC⟩ : ∃ C, partC p m = C := ⟨_, rfl⟩
 have hb : PartB (w.alloc (.cells C 69)) w.heap.size p m := ⟨by unfold PartAt; rw [hC]; exact blk_new _ _, h8⟩
 obtain ⟨k0, _⟩ := hb.cells
 have hlt := lt_of_cell hg
 rw [hC]
 have HE : Hid (idP id p = decide (p.id = id)) := Lib.hid rfl
 clear hb hC
 simp only at hlt
 go_enter Tryz.func89, Tryz.ntmps89
 go_wp2_with fail
 go_ret
 exact ⟨ret_b HE.out.symm, (Chg.refl Non w).alloc _⟩
set_option maxRecDepth 100000 in
theorem kAt_ok (N : Nat → Prop) (w : World) (k : Kn) (a : KAt) (id : Int) (h : KerB N w k a) :
  Calls Tryz.prog 49 #[.pointer (some ⟨a.p, 0, none⟩), .int .i64 id] w fun e w' => e = .returned (.int .i64 (idxOf (idP id) k.s.parts)) ∧ Chg Non w w' := by
 obtain ⟨A, c, e0, hc, hcm, hr⟩ := h.parts.rd
 have HI := Lib.hid (fun W (hg : Chg Non w W) g (hgc : ∀ W', Chg Non W W' → W'.cell? ⟨g, 0, none⟩ = some (.int .i64 id)) => idxKAt _ _ ptV_non (idP id) (.pointer (some ⟨g, 0, none⟩)) A k.s.parts c W (hr.non hg (fun a vs h => ptV_non _ _ _ _ hg h)) (by
   rintro W' a vs hg2 ha ⟨m, rfl, _, hbd, _⟩
   exact kat1_ok a m id g W' hbd.r8 (hgc W' hg2)) hc hcm)
 obtain ⟨vq, h1, _⟩ := (h.non ((Chg.refl Non w).alloc (.cells #[.int .i64 id] 3))).cell
 have f5 := blk_cell h1 5 (v := .slice A k.s.parts.length c) (by rw [← e0]; rfl)
 clear h hr h1 e0
 go_enter Tryz.func49, Tryz.ntmps49
 go_wp2_with fail
 refine (HI.out _ ((Chg.refl Non w).alloc _) w.heap.size (fun W' hg => blk_cell (blk_call hg) 0 rfl)).mono ?_
 rintro e u ⟨rfl, hg⟩
 have HG := Lib.hid (((Chg.refl Non w).alloc _).then_non hg)
 clear hg
 go_wp2_with fail
 go_ret
 exact ⟨rfl, HG.out⟩
set_option maxRecDepth 100000 in
theorem waits_ok (N : Nat → Prop) (w : World) (k : Kn) (a : KAt) (id : Int) (hid : I64 id) (h : KerB N w k a) :
  Calls Tryz.prog 30 #[.pointer (some ⟨a.p, 0, none⟩), .int .i64 id] w fun e w' => e = .returned (.int .i64 ((k.waits id).length : Nat)) ∧ Chg Non w w' := by
 have H := Lib.hid h
 clear h
 go_enter Tryz.func30, Tryz.ntmps30
 go_wp2_with fail
 refine (none_ok N w k a H.out).mono ?_
 rintro e u ⟨rfl, hg⟩
 obtain ⟨m, hm, hin⟩ := (H.out.non hg).inp
 obtain ⟨vq, h1, _⟩ := (H.out.non hg).cell
 have f9 := blk_cell h1 9 (v := .map (some a.q)) rfl
 have hlk := lookV_run hm id hid u rfl
 obtain ⟨Av, cv, hv, hv1, hv2, _⟩ := inp_look id hin
 rw [hv] at hlk
 have hw : ((k.inp.find? (fun p => p.1 == id)).map (·.2)).getD [] = k.waits id := rfl
 rw [hw] at hlk hv1
 obtain ⟨n, hn⟩ : ∃ n, (k.waits id).length = n := ⟨_, rfl⟩
 have HN := Lib.hid hn
 rw [hn] at hlk hv1
 clear h1 hin hm hv hw hn
 go_wp2_with fail
 go_ret
 exact ⟨by rw [HN.out]; rfl, hg⟩
namespace KerB
variable {N : Nat → Prop} {w w' : World} {k : Kn} {a : KAt}
theorem setInp (h : KerB N w k a) (hg : Chg (fun b => b = a.q) w w') {l : List (Int × List UInt8)} {m : List (Int × Value)} (hm : MapV w' a.q m) (hl : inpV (fun b => ¬ N b) w' l m) : KerB N w' { k with inp := l } a := by
 have hq : N a.q := h.sub _ (.inr (.inl rfl))
 have hI : ∀ b, ¬ N b → ¬ b = a.q := fun b e e2 => e (by rw [e2]; exact hq)
 obtain ⟨⟨vq, h1, h2⟩, h3, h4, h5, h6, h7, h8, _, h11⟩ := h
 refine ⟨⟨vq, ?_, h2.keep hg hI (fun _ _ _ h => h.keep hg hI)⟩, h3, h4, h5.keep hg hI (fun _ _ _ h => h), h6.keep hg hI (fun _ _ _ h => h.keep hg hI), h7.keep hg hI (fun _ _ _ h => h), h8.keep hg (fun g e e2 => h4.2.2 (by rw [e, e2])) (fun _ _ h => h.keep hg hI), ⟨m, hm, hl⟩, h11⟩
 exact blk_keep h1 hg (fun e => h4.1 e)
theorem setOwn (h : KerB N w k a) (hg : Chg (fun b => b = a.p) w w') {k' : Kn} {vq : Value} (h1 : w'.heap[a.p]? = some (.cells (kerC k' a vq) 64 (0, 0))) (h2 : SlV (quV (fun b => ¬ N b)) (fun b => ¬ N b) 6 w' k'.s.queues vq)
  (hc : k'.c = k.c) (hp : k'.s.parts = k.s.parts) (hi : k'.inp = k.inp) (hb : I64 k'.s.frames ∧ I64 k'.ver ∧ I64 k'.tick) : KerB N w' k' a := by
 have hq : N a.p := h.sub _ (.inl rfl)
 have hI : ∀ b, ¬ N b → ¬ b = a.p := fun b e e2 => e (by rw [e2]; exact hq)
 obtain ⟨_, h3, h4, h5, h6, h7, h8, ⟨m, h9, h10⟩, _⟩ := h
 refine ⟨⟨vq, h1, h2⟩, h3, h4, ?_, ?_, ?_, ?_, ⟨m, h9.keep hg (fun e => h4.1 e.symm), ?_⟩, hb⟩
 ·rw [hc]; exact h5.keep hg hI (fun _ _ _ h => h)
 ·rw [hc]; exact h6.keep hg hI (fun _ _ _ h => h.keep hg hI)
 ·rw [hc]; exact h7.keep hg hI (fun _ _ _ h => h)
 ·rw [hp]; exact h8.keep hg (fun g e e2 => h4.2.1 (by rw [e, e2])) (fun _ _ h => h.keep hg hI)
 ·rw [hi]; exact h10.keep hg hI
theorem setTick (h : KerB N w k a) (t : Int) (ht : I64 t) : KerB N (w.setCell ⟨a.p, 8, none⟩ (.int .i64 t)) { k with tick := t } a := by
 obtain ⟨vq, h1, h2⟩ := h.cell
 have hg := chg_set w a.p 8 (.int .i64 t)
 have hq : N a.p := h.sub _ (.inl rfl)
 have hI : ∀ b, ¬ N b → ¬ b = a.p := fun b e e2 => e (by rw [e2]; exact hq)
 exact h.setOwn hg (vq := vq) (blk_set 8 (.int .i64 t) h1) (h2.keep hg hI (fun _ _ _ h => h.keep hg hI)) rfl rfl rfl ⟨h.bd.1, h.bd.2.1, ht⟩
theorem setYl (h : KerB N w k a) (y : Bool) : KerB N (w.setCell ⟨a.p, 10, none⟩ (.bool y)) { k with yl := y } a := by
 obtain ⟨vq, h1, h2⟩ := h.cell
 have hg := chg_set w a.p 10 (.bool y)
 have hq : N a.p := h.sub _ (.inl rfl)
 have hI : ∀ b, ¬ N b → ¬ b = a.p := fun b e e2 => e (by rw [e2]; exact hq)
 exact h.setOwn hg (vq := vq) (blk_set 10 (.bool y) h1) (h2.keep hg hI (fun _ _ _ h => h.keep hg hI)) rfl rfl rfl h.bd
theorem setFrames (h : KerB N w k a) (f : Int) (hf : I64 f) : KerB N (w.setCell ⟨a.p, 4, none⟩ (.int .i64 f)) { k with s := { k.s with frames := f } } a := by
 obtain ⟨vq, h1, h2⟩ := h.cell
 have hg := chg_set w a.p 4 (.int .i64 f)
 have hq : N a.p := h.sub _ (.inl rfl)
 have hI : ∀ b, ¬ N b → ¬ b = a.p := fun b e e2 => e (by rw [e2]; exact hq)
 exact h.setOwn hg (vq := vq) (blk_set 4 (.int .i64 f) h1) (h2.keep hg hI (fun _ _ _ h => h.keep hg hI)) rfl rfl rfl ⟨hf, h.bd.2.1, h.bd.2.2⟩
theorem setQueues (h : KerB N w k a) {qs : List Qu} {vq : Value} (hq : SlV (quV (fun b => ¬ N b)) (fun b => ¬ N b) 6 w qs vq) : KerB N (w.setCell ⟨a.p, 6, none⟩ vq) { k with s := { k.s with queues := qs } } a := by
 obtain ⟨v0, h1, h2⟩ := h.cell
 have hg := chg_set w a.p 6 vq
 have hq0 : N a.p := h.sub _ (.inl rfl)
 have hI : ∀ b, ¬ N b → ¬ b = a.p := fun b e e2 => e (by rw [e2]; exact hq0)
 exact h.setOwn hg (vq := vq) (blk_set 6 vq h1) (hq.keep hg hI (fun _ _ _ h => h.keep hg hI)) rfl rfl rfl h.bd
theorem setParts (h : KerB N w k a) (hg : Chg (fun b => a.vp.ownBlock = some b) w w') {ps : List Pt} (hp : OwnL (ptV (fun b => ¬ N b)) 0 69 14 w' a.vp ps) (hl : ∀ g, a.vp.ownBlock = some g → N g) : KerB N w' { k with s := { k.s with parts := ps } } a := by
 have hI : ∀ b, ¬ N b → ¬ a.vp.ownBlock = some b := fun b e e2 => e (hl b e2)
 obtain ⟨⟨vq, h1, h2⟩, h3, h4, h5, h6, h7, h8, ⟨m, h9, h10⟩, h11⟩ := h
 exact ⟨⟨vq, blk_keep h1 hg h4.2.1, h2.keep hg hI (fun _ _ _ h => h.keep hg hI)⟩, h3, h4, h5.keep hg hI (fun _ _ _ h => h), h6.keep hg hI (fun _ _ _ h => h.keep hg hI), h7.keep hg hI (fun _ _ _ h => h), hp, ⟨m, h9.keep hg h4.2.2, h10.keep hg hI⟩, h11⟩
theorem ownN (h : KerB N w k a) : ∀ g, a.vp.ownBlock = some g → N g := fun g e => h.sub g (.inr (.inr e))
end KerB
end
section
open Go.RowKit
def Kn.loadE (k : Kn) (id at_ : Int) (b : List UInt8) : Int :=
 match (if idxOf (idP id) k.s.parts < 0 then none else k.s.parts[(idxOf (idP id) k.s.parts).toNat]?) with
 | none => 2
 | some p => memE p.mem at_ b.length
def Kn.load (k : Kn) (id at_ : Int) (b : List UInt8) : Kn :=
 match (if idxOf (idP id) k.s.parts < 0 then none else k.s.parts[(idxOf (idP id) k.s.parts).toNat]?) with
 | none => k
 | some p => if memE p.mem at_ b.length = 0 then { k with s := { k.s with parts := k.s.parts.set (idxOf (idP id) k.s.parts).toNat { p with mem := put p.mem at_.toNat b } } } else k
def Kn.inputE (k : Kn) (id : Int) (b : List UInt8) : Int := if idxOf (idP id) k.s.parts < 0 then 2 else if 64 < (k.waits id).length + b.length then 4 else 0
def Kn.input (k : Kn) (id : Int) (b : List UInt8) : Kn := if k.inputE id b = 0 then { k with inp := updI k.inp id (k.waits id ++ b) } else k
theorem load_none {k : Kn} {id at_ : Int} {b : List UInt8} (h : idxOf (idP id) k.s.parts < 0) : k.loadE id at_ b = 2 ∧ k.load id at_ b = k := by
 unfold Kn.loadE Kn.load
 simp only [if_pos h, and_self]
theorem load_some {k : Kn} {id at_ : Int} {b : List UInt8} {i : Nat} {p : Pt} (h : idxOf (idP id) k.s.parts = i) (hp : k.s.parts[i]? = some p) :
  k.loadE id at_ b = memE p.mem at_ b.length ∧ k.load id at_ b = if memE p.mem at_ b.length = 0 then { k with s := { k.s with parts := k.s.parts.set i { p with mem := put p.mem at_.toNat b } } } else k := by
 unfold Kn.loadE Kn.load
 have h0 : ¬ ((i : Int) < 0) := by omega
 rw [h, if_neg h0, Int.toNat_natCast, hp]
 exact ⟨rfl, rfl⟩
set_option maxRecDepth 100000 in
theorem load_ok (N : Nat → Prop) (w : World) (k : Kn) (a : KAt) (id at_ : Int) (Ab : Option Addr) (b : List UInt8) (cb : Nat) (h : KerB N w k a) (hN : ∀ b, N b → b < w.heap.size) (hmem : ∀ p ∈ k.s.parts, 16 ≤ p.mem.length ∧ p.mem.length ≤ 512) (hat : I64 at_) (hb : Rd w Ab b) (hbl : b.length ≤ 140737488351232) :
  Calls Tryz.prog 20 #[.pointer (some ⟨a.p, 0, none⟩), .int .i64 id, .int .i64 at_, .slice Ab b.length cb] w fun e w' => e = .returned (.int .i64 (k.loadE id at_ b)) ∧ KerB N w' (k.load id at_ b) a ∧ Chg a.own w w' := by
 obtain ⟨ap, q, v1, v2, v3, vp⟩ := a
 have HK := Lib.hid h
 have HRb := Lib.hid hb
 have HNo := Lib.hid (fun W (hg : Chg Non w W) => none_ok N W k ⟨ap, q, v1, v2, v3, vp⟩ (h.non hg))
 have HAt := Lib.hid (fun W (hg : Chg Non w W) => kAt_ok N W k ⟨ap, q, v1, v2, v3, vp⟩ id (h.non hg))
 have HGet := Lib.hid (fun (i : Nat) => idx_get (p := idP id) (l := k.s.parts) (k := i))
 have HBd := Lib.hid (idx_bd (idP id) k.s.parts)
 obtain ⟨j, hj⟩ : ∃ j, idxOf (idP id) k.s.parts = j := ⟨_, rfl⟩
 simp only [hj] at HAt HGet HBd
 have HJ := Lib.hid hj
 clear h hb hj
 show Calls _ _ #[.pointer (some ⟨ap, 0, none⟩), .int .i64 id, .int .i64 at_, .slice Ab b.length cb] _ _
 go_enter Tryz.func20, Tryz.ntmps20
 go_wp2_with fail
 refine (HNo.out _ (Chg.refl _ _)).mono ?_
 rintro e u ⟨rfl, hg⟩
 have HGu := Lib.hid hg
 clear hg
 go_wp2_with fail
 refine (HAt.out _ HGu.out).mono ?_
 rintro e u2 ⟨rfl, hg⟩
 have HG2 := Lib.hid (HGu.out.then_non hg)
 clear hg HGu
 by_cases hj0 : j < 0
 ·have d0 : decide (j < 0) = true := by simpa using hj0
  have HE := Lib.hid (load_none (k := k) (id := id) (at_ := at_) (b := b) (by rw [HJ.out]; exact hj0))
  go_wp2_with fail
  go_ret
  rw [HE.out.1, HE.out.2]
  exact ⟨rfl, HK.out.non HG2.out, HG2.out.of_non⟩
 have d0 : decide (j < 0) = false := by simpa using hj0
 obtain ⟨i, rfl⟩ : ∃ i : Nat, j = i := ⟨j.toNat, by omega⟩
 obtain ⟨p, hp, _⟩ := HGet.out i rfl
 have hil := (List.getElem?_eq_some_iff.1 hp).1
 have HE := load_some (k := k) (id := id) (at_ := at_) (b := b) HJ.out hp
 have HK2 := Lib.hid (HK.out.non HG2.out)
 obtain ⟨g, cap, cur, e1, hBg, hgb, r1, r2, r3, hel⟩ := HK2.out.parts.shape (by omega)
 simp only at e1
 subst e1
 obtain ⟨vs, hvl, hrg, m, rfl, hbm, hbd, hml⟩ := hel i p hp
 obtain ⟨A, c, rfl, hc, hcm, hrm, _⟩ := hbm
 obtain ⟨vq, hk2, _⟩ := HK2.out.cell
 have f5 : u2.cell? ⟨ap, 5, none⟩ = some (.slice (some ⟨g, 0, none⟩) k.s.parts.length cap) := blk_cell hk2 5 rfl
 have fm : u2.cell? ⟨g, i * 14 + 13, none⟩ = some (.slice A p.mem.length c) := hrg 13 _ (by have := partC_end hbd.r8 (.slice A p.mem.length c) 2 (by omega); simpa [partC] using this)
 have zm := blk_free hgb (i * 14 + 13)
 have hik : (i : Int) < (k.s.parts.length : Int) := by omega
 obtain ⟨hm16, hm512⟩ := hmem p (List.mem_of_getElem? hp)
 have HP := Lib.hid hp
 have HRm := Lib.hid hrm
 clear hp hel hrg hrm hk2 hgb r1 r2 r3
 by_cases hme : memE p.mem at_ b.length = 0
 ·have hat0 : 0 ≤ at_ := by
   unfold memE at hme
   split at hme
   ·omega
   ·split at hme
    ·omega
    ·omega
  obtain ⟨n, rfl⟩ : ∃ n : Nat, at_ = n := ⟨at_.toNat, by omega⟩
  rw [if_pos hme, hme, Int.toNat_natCast] at HE
  have HWr := Lib.hid (mwrite_ok A p.mem c n Ab b cb u2 HRm.out (HRb.out.non HG2.out) (by omega) hc hcm (memE_there.1 hme))
  have hpl : (put p.mem n b).length = p.mem.length := put_len ((there_iff _ _ _).1 (memE_there.1 hme)).2
  have HPl := Lib.hid hpl
  have HE := Lib.hid HE
  clear hme hpl
  go_wp2_with fail
  refine HWr.out.mono ?_
  rintro e u3 ⟨A2, c2, rfl, q1, q2, q3, hg3⟩
  have HG3 := Lib.hid (HG2.out.then_non hg3)
  have HK3 := Lib.hid (HK2.out.non hg3)
  have HM3 : Hid (BytesV (fun b => ¬ N b) u3 (put p.mem n b) (.slice A2 p.mem.length c2)) := Lib.hid (by
    have h := own_bytes q3 (by rw [HPl.out]; exact q1) q2
    rw [HPl.out] at h
    exact h.mono (fun b e e2 => by have := hN b e2; have e' : u2.heap.size ≤ b := e; have := HG2.out.size; omega))
  obtain ⟨vq3, hk3, _⟩ := HK3.out.cell
  have f53 : u3.cell? ⟨ap, 5, none⟩ = some (.slice (some ⟨g, 0, none⟩) k.s.parts.length cap) := blk_cell hk3 5 rfl
  have fm3 : u3.cell? ⟨g, i * 14 + 13, none⟩ = some (.slice A p.mem.length c) := hg3.cell_some fm (fun e => e)
  obtain ⟨_, _, _, e1, _, hgb3, _⟩ := HK3.out.parts.shape (show 0 < k.s.parts.length by omega)
  injection e1 with e1 _ _
  injection e1 with e1
  injection e1 with e1 _ _
  subst e1
  have zm3 := blk_free hgb3 (i * 14 + 13)
  clear hg3 q3 f5 fm zm hk3 hgb3
  go_wp2_with fail
  go_ret
  have hst := chg_set u3 g (i * 14 + 13) (.slice A2 p.mem.length c2)
  have hgN : N g := HK3.out.sub g (.inr (.inr rfl))
  have hkN : ∀ b, ¬ N b → ¬ b = g := fun b e e2 => e (by rw [e2]; exact hgN)
  have HOn : OwnL (ptV (fun b => ¬ N b)) 0 69 14 (u3.setCell ⟨g, i * 14 + 13, none⟩ (.slice A2 p.mem.length c2)) (.slice (some ⟨g, 0, none⟩) k.s.parts.length cap) (k.s.parts.set i { p with mem := put p.mem n b }) :=
   OwnL.cell (R := ptV (fun b => ¬ N b)) HK3.out.parts HP.out (by omega) (fun a vs h => h.keep hst hkN) (fun vs hvl h => by
     obtain ⟨m, rfl, _, hbd, hml⟩ := h
     have hs := part_set13 hbd.r8 m (.slice A2 p.mem.length c2)
     have hs' : (partL p m).set 13 (.slice A2 p.mem.length c2) = partL p (.slice A2 p.mem.length c2) := by
       have := congrArg Array.toList hs
       simpa [partC] using this
     rw [hs']
     exact ⟨.slice A2 p.mem.length c2, rfl, HM3.out.keep hst hkN, ⟨hbd.r8, hbd.rb, hbd.pcb, hbd.stb, hbd.idb, hbd.sizeb⟩, by show (put p.mem n b).length ≤ _; rw [HPl.out]; omega⟩)
  rw [HE.out.1, HE.out.2]
  exact ⟨rfl, HK3.out.setParts (hst.mono (fun x e => by subst e; rfl)) HOn HK3.out.ownN, (HG3.out.of_non).trans_same (hst.mono (fun x e => by subst e; exact .inr (.inr rfl)) : Chg (KAt.own ⟨ap, q, v1, v2, v3, .slice (some ⟨g, 0, none⟩) k.s.parts.length cap⟩) u3 _)⟩
 ·have HWr := mwrite_no A p.mem c at_ Ab b.length cb u2 hat hbl (by omega) hme
  rw [if_neg hme] at HE
  obtain ⟨er, her⟩ : ∃ er, memE p.mem at_ b.length = er := ⟨_, rfl⟩
  rw [her] at HWr HE hme
  replace HWr := Lib.hid HWr
  replace HE := Lib.hid HE
  have hde : (er == 0) = false := by simpa using hme
  clear her
  go_wp2_with fail
  refine HWr.out.mono ?_
  rintro e u3 ⟨rfl, hg3⟩
  have HG3 := Lib.hid (HG2.out.then_non hg3)
  clear hg3 f5 fm zm
  go_wp2_with fail
  go_ret
  rw [HE.out.1, HE.out.2]
  exact ⟨rfl, HK.out.non HG3.out, HG3.out.of_non⟩
set_option maxRecDepth 100000 in
theorem input_ok (N : Nat → Prop) (w : World) (k : Kn) (a : KAt) (id : Int) (Ab : Option Addr) (b : List UInt8) (cb : Nat) (h : KerB N w k a) (hN : ∀ b, N b → b < w.heap.size) (hid : I64 id) (hwl : (k.waits id).length ≤ 64) (hb : Rd w Ab b) (hbl : b.length ≤ 1000000) :
  Calls Tryz.prog 18 #[.pointer (some ⟨a.p, 0, none⟩), .int .i64 id, .slice Ab b.length cb] w fun e w' => e = .returned (.int .i64 (k.inputE id b)) ∧ KerB N w' (k.input id b) a ∧ Chg a.own w w' := by
 obtain ⟨ap, q, v1, v2, v3, vp⟩ := a
 have HK := Lib.hid h
 have HRb := Lib.hid hb
 have HNo := Lib.hid (fun W (hg : Chg Non w W) => none_ok N W k ⟨ap, q, v1, v2, v3, vp⟩ (h.non hg))
 have HAt := Lib.hid (fun W (hg : Chg Non w W) => kAt_ok N W k ⟨ap, q, v1, v2, v3, vp⟩ id (h.non hg))
 obtain ⟨j, hj⟩ : ∃ j, idxOf (idP id) k.s.parts = j := ⟨_, rfl⟩
 simp only [hj] at HAt
 have HJ := Lib.hid hj
 clear h hb hj
 show Calls _ _ #[.pointer (some ⟨ap, 0, none⟩), .int .i64 id, .slice Ab b.length cb] _ _
 go_enter Tryz.func18, Tryz.ntmps18
 go_wp2_with fail
 refine (HNo.out _ (Chg.refl _ _)).mono ?_
 rintro e u ⟨rfl, hg⟩
 have HGu := Lib.hid hg
 clear hg
 go_wp2_with fail
 refine (HAt.out _ HGu.out).mono ?_
 rintro e u2 ⟨rfl, hg⟩
 have HG2 := Lib.hid (HGu.out.then_non hg)
 clear hg HGu
 by_cases hj0 : j < 0
 ·have d0 : decide (j < 0) = true := by simpa using hj0
  have HE : Hid (k.inputE id b = 2 ∧ k.input id b = k) := Lib.hid (by
    have h1 : k.inputE id b = 2 := by unfold Kn.inputE; rw [HJ.out, if_pos hj0]
    exact ⟨h1, by unfold Kn.input; rw [h1]; rfl⟩)
  go_wp2_with fail
  go_ret
  rw [HE.out.1, HE.out.2]
  exact ⟨rfl, HK.out.non HG2.out, HG2.out.of_non⟩
 have d0 : decide (j < 0) = false := by simpa using hj0
 have HK2 := Lib.hid (HK.out.non HG2.out)
 obtain ⟨mm, hmm, hin⟩ := HK2.out.inp
 obtain ⟨vq, hk2, _⟩ := HK2.out.cell
 have f9 := blk_cell hk2 9 (v := .map (some q)) rfl
 have hlk := lookV_run hmm id hid u2 rfl
 have hbi := inp_look id hin
 obtain ⟨Av, cv, hv, hv1, hv2, _⟩ := _root_.id hbi
 have hww : ((k.inp.find? (fun p => p.1 == id)).map (·.2)).getD [] = k.waits id := rfl
 rw [hww] at hbi hv hv1
 rw [hv] at hlk hbi
 have HV := Lib.hid hv
 have HMM := Lib.hid (And.intro hmm hin)
 have HBi := Lib.hid hbi
 clear hk2 hin hmm hbi hv hww
 by_cases hfull : 64 < (k.waits id).length + b.length
 ·have d1 : decide (((k.waits id).length : Int) + (b.length : Int) > 64) = true := by simp; omega
  have HE : Hid (k.inputE id b = 4 ∧ k.input id b = k) := Lib.hid (by
    have h1 : k.inputE id b = 4 := by unfold Kn.inputE; rw [HJ.out, if_neg hj0, if_pos hfull]
    exact ⟨h1, by unfold Kn.input; rw [h1]; rfl⟩)
  go_wp2_with fail
  go_ret
  rw [HE.out.1, HE.out.2]
  exact ⟨rfl, HK2.out, HG2.out.of_non⟩
 have d1 : decide (((k.waits id).length : Int) + (b.length : Int) > 64) = false := by simp; omega
 have HE : Hid (k.inputE id b = 0 ∧ k.input id b = { k with inp := updI k.inp id (k.waits id ++ b) }) := Lib.hid (by
   have h1 : k.inputE id b = 0 := by unfold Kn.inputE; rw [HJ.out, if_neg hj0, if_neg hfull]
   exact ⟨h1, by unfold Kn.input; rw [h1]; rfl⟩)
 go_wp2_with fail
 obtain ⟨V, hV⟩ : ∃ x, x = u2.drew := ⟨_, rfl⟩
 have hgV : Chg Non u2 V := by rw [hV]; exact (Chg.refl Non u2).drew
 have HKV := Lib.hid (HK2.out.non hgV)
 have HGV := Lib.hid (HG2.out.then_non hgV)
 obtain ⟨hmm, hin⟩ := HMM.out
 replace hmm := hmm.keep hgV (fun e => e)
 have hinV := hin.keep hgV (fun _ _ e => e)
 have HInV := Lib.hid hinV
 obtain ⟨vqV, hkV, _⟩ := HKV.out.cell
 have c9 : V.cell? ⟨ap, 9, none⟩ = some (.map (some q)) := blk_cell hkV 9 rfl
 have hapq : ¬ (⟨ap, 9, none⟩ : Addr).block = q := fun e => HK.out.apart.1 e
 have hlk : (Instr.lookup 62 (.map (some q)) (.int .i64 id) false).run Tryz.prog V = .ok (.slice Av (k.waits id).length cv) V := by
  have := lookV_run hmm id hid V rfl
  rw [HV.out] at this
  exact this
 have HCon : Hid (Calls Tryz.prog 50 #[.slice (some ⟨V.heap.size, 0, none⟩) 2 2] (V.alloc (.cells #[.slice Av (k.waits id).length cv, .slice Ab b.length cb] 50)) (RetB (V.alloc (.cells #[.slice Av (k.waits id).length cv, .slice Ab b.length cb] 50)) (k.waits id ++ b))) := Lib.hid (by
   have hga : Chg Non V (V.alloc (.cells #[.slice Av (k.waits id).length cv, .slice Ab b.length cb] 50)) := (Chg.refl Non V).alloc _
   have hbk := heap_alloc_new V (.cells #[.slice Av (k.waits id).length cv, .slice Ab b.length cb] 50)
   have hP : PartsV (V.alloc (.cells #[.slice Av (k.waits id).length cv, .slice Ab b.length cb] 50)) V.heap.size [(Av, k.waits id, cv), (Ab, b, cb)] := by
     intro i p hp
     have hi : i = 0 ∨ i = 1 := by have := (List.getElem?_eq_some_iff.1 hp).1; simp at this; omega
     rcases hi with rfl | rfl
     · simp at hp
       subst hp
       obtain ⟨_, _, e, _, _, hr, _⟩ := HBi.out
       injection e with e _ _
       subst e
       exact ⟨row_cell hbk (by simp), (hr.non hgV).non hga⟩
     · simp at hp
       subst hp
       exact ⟨row_cell hbk (by simp), (HRb.out.non HGV.out).non hga⟩
   have := SlConcat_ok V.heap.size [(Av, k.waits id, cv), (Ab, b, cb)] 2 _ hP (by simp [catV]; omega) (by simp)
   simpa [catV] using this)
 clear hkV hgV hin hinV HMM
 refine wp_region_held_drew (S := Chg (fun b => b = q) u2.drew) (by kernel_rfl) (Chg.refl _ _) (fun hHeld => ?_)
 clear hHeld
 rw [← hV]
 clear hV
 refine hp 0 27 (.pointer (some ⟨ap, 0, none⟩)) rfl (Chg.refl _ _) ?_
 refine hp 1 28 (.pointer (some ⟨ap, 0, none⟩)) rfl (Chg.refl _ _) ?_
 refine hp 2 29 (.pointer (some ⟨ap, 9, none⟩)) rfl (Chg.refl _ _) ?_
 refine hp 3 30 (.map (some q)) rfl (Chg.refl _ _) ?_ (he := (fun W hW => by have hc := hW.cell_some c9 hapq; go_simp))
 refine hp 4 31 (.int .i64 id) rfl (Chg.refl _ _) ?_
 refine hp 5 32 (.pointer (some ⟨ap, 0, none⟩)) rfl (Chg.refl _ _) ?_
 refine hp 6 33 (.pointer (some ⟨ap, 0, none⟩)) rfl (Chg.refl _ _) ?_
 refine hp 7 34 (.pointer (some ⟨ap, 9, none⟩)) rfl (Chg.refl _ _) ?_
 refine hp 8 35 (.map (some q)) rfl (Chg.refl _ _) ?_ (he := (fun W hW => by have hc := hW.cell_some c9 hapq; go_simp))
 refine hp 9 36 (.int .i64 id) rfl (Chg.refl _ _) ?_
 refine hp 11 38 (.slice Ab b.length cb) rfl (Chg.refl _ _) ?_
 refine h_one 10 (by kernel_rfl) rfl (by kernel_rfl) ?_
 intro K hK
 go_simp
 refine hK.out _ _ (Chg.refl _ _) (fun _ => ?_)
 clear hK K
 try simp only [Act.put, sA, sB, sC]
 refine h_one 12 (by kernel_rfl) rfl (by kernel_rfl) ?_
 intro K hK
 go_simp
 refine hK.out _ _ ((Chg.refl _ _).alloc _) (fun _ => ?_)
 clear hK K
 try simp only [Act.put, sA, sB, sC]
 refine h_one 13 (by kernel_rfl) rfl (by kernel_rfl) ?_
 intro K hK
 go_simp
 refine (HCon.out).mono ?_
 rintro e u6 ⟨A2, c2, rfl, q1, q2, q3, hg⟩
 have HU := Lib.hid hg
 have HQ3 := Lib.hid q3
 have hV0u : Chg (fun b => b = q) V u6 := (((Chg.refl Non V).alloc _).then_non HU.out).of_non
 obtain ⟨W7, hup, hm7, hg7⟩ := updV_run (hmm.keep (((Chg.refl Non V).alloc _).then_non HU.out) (fun e => e)) id hid (.slice A2 (k.waits id ++ b).length c2)
 rw [List.length_append] at hup
 clear hg q3
 refine hK.out _ _ hV0u (fun _ => ?_)
 clear hK K
 try simp only [Act.put, sA, sB, sC]
 refine h_one 14 (by kernel_rfl) rfl (by kernel_rfl) ?_
 intro K hK
 go_simp
 refine hK.out _ _ (hV0u.trans_same hg7) (fun _ => ?_)
 clear hK K
 try simp only [Act.put, sA, sB, sC]
 refine wpAnyH_done (by kernel_rfl) ?_ _
 go_wp2_with fail
 go_ret
 have hVu : Chg Non V u6 := ((Chg.refl Non V).alloc _).then_non HU.out
 have hNq : ∀ b, ¬ N b → ¬ b = q := fun b e e2 => e (by rw [e2]; exact HK.out.sub q (.inr (.inl rfl)))
 have hI7 : BytesV (fun x => ¬ N x) W7 (k.waits id ++ b) (.slice A2 (k.waits id ++ b).length c2) := ((own_bytes HQ3.out q1 q2).mono (fun x e e2 => by
   have h1 := hN x e2
   have h2 := HGV.out.size
   have e' : (V.alloc (.cells #[.slice Av (k.waits id).length cv, .slice Ab b.length cb] 50)).heap.size ≤ x := e
   simp at e'
   omega)).keep hg7 hNq
 have hKn := (HKV.out.non hVu).setInp hg7 hm7 (inpV.upd id ((HInV.out.keep hVu (fun _ _ e => e)).keep hg7 hNq) hI7 (by rw [List.length_append]; omega))
 rw [HE.out.1, HE.out.2]
 exact ⟨rfl, hKn, ((HGV.out.then_non hVu).of_non).trans_same (hg7.mono (fun x e => .inr (.inl e)) : Chg (KAt.own ⟨ap, q, v1, v2, v3, vp⟩) u6 _)⟩
end
end Go.Proofs.YtmnaleaghfbclaaGreatDoor
