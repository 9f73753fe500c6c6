import Derived.Test.YtmnaleaghfbclaaGreatDoorMgKernelNilA
import Derived.Test.YtmnaleaghfbclaaGreatDoorMgKernelNilD
import Derived.Test.YtmnaleaghfbclaaGreatDoorMgKernelNilF
import Derived.Test.YtmnaleaghfbclaaGreatDoorMgKernelNilH
import Derived.Deep.RegionHeld3
import Derived.Laws.BitsAllLaws
namespace Go.Proofs.YtmnaleaghfbclaaGreatDoor
set_option linter.unusedVariables false
set_option linter.unusedSimpArgs false
set_option maxHeartbeats 8000000
section
open Go.RowKit
theorem BytesV.bound {I : Nat → Prop} {w : World} {l : List UInt8} {v : Value} (h : BytesV I w l v) : BytesV (fun b => I b ∧ b < w.heap.size) w l v := by
 obtain ⟨A, c, h1, h2, h3, h4, h5⟩ := h
 refine ⟨A, c, h1, h2, h3, h4, fun b o e hl => ⟨h5 b o e hl, ?_⟩⟩
 subst e
 obtain ⟨b', o', e', hlt, _⟩ := h4.at_ (List.length_pos_iff.2 hl)
 injection e' with e'
 injection e' with e' _ _
 subst e'
 exact hlt
theorem ptV.bound {I : Nat → Prop} {w : World} {a : Pt} {vs : List Value} (h : ptV I w a vs) : ptV (fun b => I b ∧ b < w.heap.size) w a vs := by
 obtain ⟨m, h1, h2, h3⟩ := h
 exact ⟨m, h1, h2.bound, h3⟩
theorem msgV.bound {I : Nat → Prop} {w : World} {a : List UInt8} {vs : List Value} (h : msgV I w a vs) : msgV (fun b => I b ∧ b < w.heap.size) w a vs := by
 obtain ⟨m, h1, h2, h3⟩ := h
 exact ⟨m, h1, h2.bound, h3⟩
theorem rng_lt {w : World} {b o : Nat} {vs : List Value} (h : w.rangeAt b o vs) (h0 : 0 < vs.length) : b < w.heap.size := lt_of_cell (h 0 _ (List.getElem?_eq_getElem h0))
theorem SlV.bound {α : Type} {R R' : World → α → List Value → Prop} {I : Nat → Prop} {sz : Nat} {w : World} {l : List α} {v : Value} (hsz : 0 < sz) (h : SlV R I sz w l v) (hR : ∀ a vs, a ∈ l → R w a vs → R' w a vs) : SlV R' (fun b => I b ∧ b < w.heap.size) sz w l v := by
 obtain ⟨A, c, h1, h2, h3, h4⟩ := h
 refine ⟨A, c, h1, h2, h3, fun i a ha => ?_⟩
 obtain ⟨b, o, vs, e, hb, hl, hc, hr⟩ := h4 i a ha
 exact ⟨b, o, vs, e, ⟨hb, rng_lt hc (by omega)⟩, hl, hc, hR a vs (List.mem_of_getElem? ha) hr⟩
theorem quV.bound {I : Nat → Prop} {w : World} {a : Qu} {vs : List Value} (h : quV I w a vs) : quV (fun b => I b ∧ b < w.heap.size) w a vs := by
 obtain ⟨m, h1, h2, h3⟩ := h
 exact ⟨m, h1, h2.bound (by omega) (fun _ _ _ h => h.bound), h3⟩
theorem OwnL.mono {α : Type} {R R' : World → α → List Value → Prop} {B : Nat} {e : TypeId} {sz : Nat} {w : World} {v : Value} {l : List α} (h : OwnL R B e sz w v l) (hR : ∀ a vs, R w a vs → R' w a vs) : OwnL R' B e sz w v l := by
 obtain ⟨xss, h1, h2, h3, h4⟩ := h
 exact ⟨xss, h1, h2, h3, fun i a x ha hx => hR _ _ (h4 i a x ha hx)⟩
theorem OwnL.base {α : Type} {R : World → α → List Value → Prop} {B B' : Nat} {e : TypeId} {sz : Nat} {w : World} {v : Value} {l : List α} (h : OwnL R B e sz w v l) (hB : B' ≤ B) : OwnL R B' e sz w v l := by
 obtain ⟨xss, ⟨h1, h2⟩, h3⟩ := h
 refine ⟨xss, ⟨h1, ?_⟩, h3⟩
 rcases h2 with h0 | ⟨g, cap, cur, rfl, hb, hh, h4⟩
 ·exact .inl h0
 ·exact .inr ⟨g, cap, cur, rfl, by omega, hh, h4⟩
def Exc (B : Nat) (v : Value) : Nat → Prop := fun b => B ≤ b ∧ v.ownBlock ≠ some b
def freshP (a : Pn) : Pt := { id := a.id, size := a.size, keep := a.keep, r := List.replicate 8 0, pc := 0, st := 0, mem := fillL a.size.toNat a.img }
def freshQ (a : Ch) : Qu := ⟨a, []⟩
def freshS (c : Cfg) : Sta := ⟨0, c.ps.map freshP, c.cs.map freshQ⟩
theorem fits_part {c : Cfg} (h : fitsB c = true) {a : Pn} (ha : a ∈ c.ps) : ∃ n : Nat, a.size = n ∧ 16 ≤ n ∧ n ≤ 512 ∧ a.img.length ≤ n := by
 have h := (fits_iff.1 h).2.2.1
 unfold regionsBad at h
 rw [List.any_eq_false] at h
 have h := h a ha
 unfold regBad regMay at h
 simp at h
 refine ⟨a.size.toNat, ?_, ?_, ?_, ?_⟩ <;> omega
theorem fits_lens {c : Cfg} (h : fitsB c = true) : 1 ≤ c.ps.length ∧ c.ps.length ≤ 6 ∧ c.cs.length ≤ 8 := by
 obtain ⟨_, h2, _, _, h5⟩ := fits_iff.1 h
 unfold partsBad at h2
 unfold channelsBad at h5
 simp at h2 h5
 omega
theorem freshP_bd {a : Pn} (h : I64 a.id) (h2 : I64 a.size) : (freshP a).Bd := by
 refine ⟨by simp [freshP], fun i => ?_, by simp [freshP], by simp [freshP], h, h2⟩
 simp only [freshP, List.getD_eq_getElem?_getD, List.getElem?_replicate]
 split <;> simp
structure StaO (B : Nat) (w : World) (s : Sta) (b d : Value) : Prop where
 ps : OwnL (ptV (Exc B b)) B 69 14 w b s.parts
 qs : OwnL (quV (Exc B d)) B 95 6 w d s.queues
set_option maxRecDepth 100000 in
theorem fresh_ok (I : Nat → Prop) (w : World) (c : Cfg) (A1 A2 A3 : Option Addr) (c1 c2 c3 : Nat) (h : CfgR I w c A1 A2 A3 c1 c2 c3) (h20 : c.ps.length ≤ 1000) (hf : fitsB c = true) :
  Calls Tryz.prog 65 #[.agg #[.slice A1 c.ws.length c1, .slice A2 c.ps.length c2, .slice A3 c.cs.length c3]] w fun e w' => ∃ b d, e = .returned (.tuple #[.agg #[.int .i64 0, b, d], .int .i64 0]) ∧ StaO w.heap.size w' (freshS c) b d ∧ Chg Non w w' := by
 have HFt := Lib.hid (fun W (hg : Chg Non w W) => fits_ok I W c A1 A2 A3 c1 c2 c3 (h.non hg) h20)
 have HC := Lib.hid h
 have HP := Lib.hid (fun a (ha : a ∈ c.ps) => fits_part hf ha)
 have hl8 := (fits_lens hf).2.2
 rw [hf] at HFt
 clear h hf
 go_enter Tryz.func65, Tryz.ntmps65
 go_wp2_with fail
 refine (HFt.out _ (((Chg.refl Non w).alloc _).alloc _)).mono ?_
 rintro e u ⟨rfl, hg⟩
 obtain ⟨hb0, hb1, hlt, hgw⟩ := blk_call2 hg
 have HCu := Lib.hid (HC.out.non hgw)
 have k1 := blk_cell hb0 1 (v := .slice A2 c.ps.length c2) rfl
 have k2 := blk_cell hb0 2 (v := .slice A3 c.cs.length c3) rfl
 have hlt0 : w.heap.size < u.heap.size := by omega
 have HB0 := Lib.hid hb0
 have HB1 := Lib.hid hb1
 have HGW := Lib.hid hgw
 clear hg hb0 hb1 hgw
 have HV := Lib.hid ((Chg.refl Non u).alloc (.cells #[.int .i64 0, .slice none 0 0, .slice none 0 0] 30))
 go_wp2_with fail
 obtain ⟨v0, hv0⟩ : ∃ v, v = u.alloc (.cells #[.int .i64 0, .slice none 0 0, .slice none 0 0] 30) := ⟨_, rfl⟩
 rw [← hv0] at HV ⊢
 go_loopw [18] (fun iv wr => ∃ (k : Nat) (lv : Value), k ≤ c.ps.length ∧ iv = .int .i64 k ∧ Hid (OwnL (ptV (Exc (u.heap.size + 1) lv)) (u.heap.size + 1) 69 14 wr lv ((c.ps.take k).map freshP)) ∧ Hid (Chg (fun b => b = u.heap.size) v0 wr) ∧ Hid (wr.heap[u.heap.size]? = some (.cells #[.int .i64 0, lv, .slice none 0 0] 30 (0, 0)))) (fun iv _ => c.ps.length - (intOf iv).toNat)
 case atStart => exact ⟨0, _, Nat.zero_le _, rfl, Lib.hid (OwnL.nil _ _ _ _ _), Lib.hid (Chg.refl _ _), Lib.hid (by rw [hv0]; exact blk_new _ _)⟩
 case round =>
  obtain ⟨k, lv, hk, rfl, HO, HG, HB⟩ := hrel
  have HGu := Lib.hid (HV.out.then_new HG.out (fun x e => Nat.le_of_eq e.symm))
  have hlu := blk_lt HB.out
  by_cases hlt : k < c.ps.length
  ·obtain ⟨a, ha⟩ : ∃ a, c.ps[k]? = some a := ⟨_, List.getElem?_eq_getElem hlt⟩
   obtain ⟨b, o, m, rfl, k0, k1, k2, k3, k4, hbm, i1, i2, i3, hil, hbl⟩ := pn_at HCu.out.ps HGu.out ha
   have hltd : decide ((k : Int) < (c.ps.length : Int)) = true := by simpa using hlt
   obtain ⟨n, hn, hn1, hn2, hn3⟩ := HP.out a (List.mem_of_getElem? ha)
   have HS : Hid ((c.ps.take (k + 1)).map freshP = (c.ps.take k).map freshP ++ [freshP a]) := Lib.hid (by
     obtain ⟨hk, rfl⟩ := List.getElem?_eq_some_iff.1 ha
     rw [List.take_succ_eq_append_getElem hk, List.map_append]
     rfl)
   have hbd := Lib.hid (freshP_bd i1 i3)
   clear ha i1 i2 i3
   obtain ⟨x, y, z, kp, im⟩ := a
   simp only at k0 k1 k2 k3 k4 hbm hn hn3 hil
   subst hn
   have HBm := Lib.hid hbm
   obtain ⟨A4, c4, rfl, _⟩ := hbm
   go_wp2_with fail
   refine (fill_ok I n im _ _ (HBm.out.non ((Chg.refl _ _).alloc _)) hn2 hn3).mono ?_
   rintro e u3 ⟨m, rfl, hm, hg⟩
   have hb := blk_call hg
   have HGn := Lib.hid (((Chg.refl Non wr).alloc _).then_non hg)
   have HM := Lib.hid (hm.mono (I' := fun b => wr.heap.size ≤ b) (fun b (h : _ ≤ b) => by simp at h; omega))
   have m0 := blk_cell hb 0 (v := .int .i64 x) rfl
   have m2 := blk_cell hb 2 (v := .int .i64 n) rfl
   have m3 := blk_cell hb 3 (v := .bool kp) rfl
   have HB3 := Lib.hid (blk_keep HB.out HGn.out (fun e => e))
   have HO3 := Lib.hid (HO.out.non HGn.out (fun a vs h => h.keep HGn.out (fun _ _ e => e)))
   have f1 := blk_cell HB3.out 1 (v := lv) rfl
   have hlu3 := blk_lt HB3.out
   have hsz3 := HGn.out.size
   obtain ⟨A5, c5, rfl, hc5, hm5, _⟩ := hm
   clear hb hg HB k0 k1 k2 k3 k4
   go_wp2_with (first
     | (refine sel (some 41) (.build 69 _) ?_; refine wpList_valA rfl (some 41) (.agg #[.int .i64 x, .int .i64 n, .bool kp, .int .u32 0, .int .u32 0, .int .u32 0, .int .u32 0, .int .u32 0, .int .u32 0, .int .u32 0, .int .u32 0, .int .u32 0, .int .u8 0, .slice A5 (fillL n im).length c5]) rfl (by kernel_rfl) ?_)
     | (refine sel (some 43) (.call _) ?_; refine Vm_stop ?_))
   refine HoleV.mk ?_
   refine wpList_snocL (ptV (fun b => Exc (u.heap.size + 1) lv b ∧ b < u3.heap.size)) rfl (.tmp 32) (.tmp 42) 27 rfl (u.heap.size + 1) 69 _ 14 88 Tryz.underlying27 info_clPt rfl (by omega) lv ((c.ps.take k).map freshP) rfl ((HO3.out.mono (fun _ _ h => h.bound)).non ((Chg.refl Non u3).alloc _) (fun _ _ h => h.keep ((Chg.refl Non u3).alloc _) (fun _ _ e => e))) u3.heap.size (freshP ⟨x, y, n, kp, im⟩) #[.int .i64 x, .int .i64 n, .bool kp, .int .u32 0, .int .u32 0, .int .u32 0, .int .u32 0, .int .u32 0, .int .u32 0, .int .u32 0, .int .u32 0, .int .u32 0, .int .u8 0, .slice A5 (fillL n im).length c5] 69 rfl (blk_new _ _) rfl (by simp [Value.oneCell']) ?_ (by omega) (by simp; omega) (fun _ _ _ hg h => h.keep hg (fun b e => e.1.2)) ?_ ?_
   ·rw [List.length_map, List.length_take]; omega
   ·exact ⟨_, rfl, (HM.out.bound.non ((Chg.refl Non u3).alloc _)).mono (fun b e => ⟨⟨Nat.le_trans hlu e.1, fun e2 => by have := (HO.out.ge e2).2; omega⟩, e.2⟩), hbd.out, by have := fillL_len hn3; simp only [freshP, Int.toNat_natCast]; omega⟩
   intro v2 w2 ho hg hv
   have HO2 : Hid (OwnL (ptV (Exc (u.heap.size + 1) v2)) (u.heap.size + 1) 69 14 w2 v2 ((c.ps.take (k + 1)).map freshP)) := Lib.hid (by
     rw [HS.out]
     refine ho.mono (fun a vs h => h.mono (fun b e => ⟨e.1.1, fun e2 => ?_⟩))
     rcases hv b e2 with e3 | e3
     · exact e.1.2 e3
     · have := e.2; simp at e3; omega)
   have HG2 : Hid (Chg (fun b => b = u.heap.size) v0 w2) := Lib.hid (((HG.out.then_non HGn.out).alloc _).then_new hg (fun x e => by have := (HO.out.ge e).1; rw [hv0]; simp; omega))
   have HB2 := Lib.hid (blk_keep (blk_keep HB3.out ((Chg.refl Non _).alloc _) (fun e => e)) hg (fun e => by have := (HO.out.ge e).1; omega))
   have f2 := blk_free HB2.out 1
   have f3 := blk_cell HB2.out 1 (v := lv) rfl
   obtain ⟨A6, c6, hv6, hl6, hm6, _⟩ := ho.rd
   obtain ⟨n6, hn6⟩ : ∃ q, ((c.ps.take k).map freshP ++ [freshP ⟨x, y, n, kp, im⟩]).length = q := ⟨_, rfl⟩
   rw [hn6] at hv6
   subst hv6
   clear ho hg hv m0 m2 m3 f1
   go_wp2_with fail
   have hst := chg_set w2 u.heap.size 1 (.slice A6 n6 c6)
   exact ⟨⟨k + 1, _, by omega, by simp, Lib.hid (HO2.out.keep hst (fun g e e2 => by have := (HO2.out.ge e).1; omega) (fun a vs h => h.keep hst (fun b e e2 => by have := e.1; omega))), Lib.hid (HG2.out.trans_same hst), Lib.hid (blk_set 1 _ HB2.out)⟩, by simp [intOf]; omega⟩
  ·obtain rfl : k = c.ps.length := by omega
   have hltd : decide ((c.ps.length : Int) < (c.ps.length : Int)) = false := by simp
   rw [List.take_length] at HO
   have hc0 := blk_cell (blk_keep HB0.out HGu.out (fun e => e)) 2 (v := .slice A3 c.cs.length c3) rfl
   have hw0 : w.heap.size < wr.heap.size := by omega
   go_wp2_with fail
   obtain ⟨w1, hw1⟩ : ∃ x, x = wr := ⟨_, rfl⟩
   subst hw1
   go_loopw [49] (fun iv wr => ∃ (k : Nat) (lq : Value), k ≤ c.cs.length ∧ iv = .int .i64 k ∧ Hid (OwnL (quV Non) w1.heap.size 95 6 wr lq ((c.cs.take k).map freshQ)) ∧ Hid (Chg (fun b => b = u.heap.size) w1 wr) ∧ Hid (wr.heap[u.heap.size]? = some (.cells #[.int .i64 0, lv, lq] 30 (0, 0)))) (fun iv _ => c.cs.length - (intOf iv).toNat)
   case atStart => exact ⟨0, _, Nat.zero_le _, rfl, Lib.hid (OwnL.nil _ _ _ _ _), Lib.hid (Chg.refl _ _), HB⟩
   case round =>
    obtain ⟨k, lq, hk, rfl, HO2, HG2, HB2⟩ := hrel
    have HG2u := Lib.hid (HGu.out.then_new HG2.out (fun x e => Nat.le_of_eq e.symm))
    have hlu2 := blk_lt HB2.out
    have hw12 := HG2.out.size
    by_cases hlt : k < c.cs.length
    ·obtain ⟨a, ha⟩ : ∃ a, c.cs[k]? = some a := ⟨_, List.getElem?_eq_getElem hlt⟩
     obtain ⟨b, o, rfl, k0, k1, k2, k3, k4, hbd, hbl⟩ := ch_at HCu.out.cs HG2u.out ha
     have hltd : decide ((k : Int) < (c.cs.length : Int)) = true := by simpa using hlt
     have HS : Hid ((c.cs.take (k + 1)).map freshQ = (c.cs.take k).map freshQ ++ [freshQ a]) := Lib.hid (by
       obtain ⟨hk, rfl⟩ := List.getElem?_eq_some_iff.1 ha
       rw [List.take_succ_eq_append_getElem hk, List.map_append]
       rfl)
     have f1 := blk_cell HB2.out 2 (v := lq) rfl
     have HBD := Lib.hid hbd
     clear ha hbd
     obtain ⟨x1, x2, x3, x4, x5⟩ := a
     simp only at k0 k1 k2 k3 k4
     go_wp2_with (first
       | (refine sel (some 56) (.build 95 _) ?_; refine wpList_valA rfl (some 56) (.agg #[.int .i64 x1, .int .i64 x2, .int .i64 x3, .int .i64 x4, .int .i64 x5, .slice none 0 0]) rfl (by kernel_rfl) ?_)
       | (refine sel (some 58) (.call _) ?_; refine Vm_stop ?_))
     refine HoleV.mk ?_
     refine wpList_snocL (quV Non) rfl (.tmp 54) (.tmp 57) 28 rfl w1.heap.size 95 _ 6 64 Tryz.underlying28 info_clQu rfl (by omega) lq ((c.cs.take k).map freshQ) rfl (HO2.out.non (((Chg.refl Non wr).alloc _).alloc _) (fun _ _ h => h.keep (((Chg.refl Non wr).alloc _).alloc _) (fun _ _ e => e))) (wr.heap.size + 1) (freshQ ⟨x1, x2, x3, x4, x5⟩) #[.int .i64 x1, .int .i64 x2, .int .i64 x3, .int .i64 x4, .int .i64 x5, .slice none 0 0] 95 rfl (heap_alloc2_new _ _ _) rfl (by simp [Value.oneCell']) ?_ (by omega) (by simp; omega) (fun _ _ _ hg h => h.keep hg (fun b e => e.elim)) ?_ ?_
     ·rw [List.length_map, List.length_take]; omega
     ·exact ⟨_, rfl, ⟨none, 0, rfl, Nat.le_refl _, by simp, RdL.nil _ _ _ _ _⟩, HBD.out, by simp [freshQ]⟩
     intro v2 w2 ho hg hv
     have HO3 : Hid (OwnL (quV Non) w1.heap.size 95 6 w2 v2 ((c.cs.take (k + 1)).map freshQ)) := Lib.hid (by rw [HS.out]; exact ho)
     have HG3 : Hid (Chg (fun b => b = u.heap.size) w1 w2) := Lib.hid (((HG2.out.alloc _).alloc _).then_new hg (fun x e => (HO2.out.ge e).1))
     have HB3 := Lib.hid (blk_keep (blk_keep HB2.out (((Chg.refl Non _).alloc _).alloc _) (fun e => e)) hg (fun e => by have := (HO2.out.ge e).1; omega))
     have f2 := blk_free HB3.out 2
     have f3 := blk_cell HB3.out 2 (v := lq) rfl
     obtain ⟨A6, c6, hv6, hl6, hm6, _⟩ := ho.rd
     obtain ⟨n6, hn6⟩ : ∃ q, ((c.cs.take k).map freshQ ++ [freshQ ⟨x1, x2, x3, x4, x5⟩]).length = q := ⟨_, rfl⟩
     rw [hn6] at hv6
     subst hv6
     clear ho hg hv k0 k1 k2 k3 k4 f1
     go_wp2_with fail
     have hst := chg_set w2 u.heap.size 2 (.slice A6 n6 c6)
     exact ⟨⟨k + 1, _, by omega, by simp, Lib.hid (HO3.out.keep hst (fun g e e2 => by have := (HO3.out.ge e).1; omega) (fun a vs h => h.keep hst (fun b e e2 => e))), Lib.hid (HG3.out.trans_same hst), Lib.hid (blk_set 2 _ HB3.out)⟩, by simp [intOf]; omega⟩
    ·obtain rfl : k = c.cs.length := by omega
     have hltd : decide ((c.cs.length : Int) < (c.cs.length : Int)) = false := by simp
     rw [List.take_length] at HO2
     have hb0 := blk_keep HB1.out HG2u.out (fun e => e)
     have HR := Lib.hid hb0
     have HOp := Lib.hid (HO.out.keep HG2.out (fun g e e2 => by have := (HO.out.ge e).1; omega) (fun a vs h => h.keep HG2.out (fun b e e2 => by have := e.1; omega)))
     have s0 := blk_cell HB2.out 0 (v := .int .i64 0) rfl
     have s1 := blk_cell HB2.out 1 (v := lv) rfl
     have s2 := blk_cell HB2.out 2 (v := lq) rfl
     have o1 : lv.oneCell' = true := by obtain ⟨A, c, e, _⟩ := HO.out.rd; rw [e]; rfl
     have o2 : lq.oneCell' = true := by obtain ⟨A, c, e, _⟩ := HO2.out.rd; rw [e]; rfl
     have hu0 := HGW.out.size
     clear hb0
     go_wp2_with (refine sel none (.store 30 (.tmp 2) (.tmp 61)) ?_
                  refine wpList_store_rowA rfl 30 (.tmp 2) (.tmp 61) rfl (w.heap.size + 1) #[.int .i64 0, lv, lq] rfl rfl 30 _ HR.out (by kernel_rfl) rfl (by simp [Value.oneCell']; exact ⟨o1, o2⟩) ?_
                  intro W hgW hbW)
     have HW1 := Lib.hid (HOp.out.keep hgW (fun g e e2 => by have := (HOp.out.ge e).1; omega) (fun a vs h => h.keep hgW (fun b e e2 => by have := e.1; omega)))
     have HW2 := Lib.hid (HO2.out.keep hgW (fun g e e2 => by have := (HO2.out.ge e).1; omega) (fun a vs h => h.keep hgW (fun b e e2 => e)))
     have HWG := Lib.hid ((HGW.out.then_non HG2u.out).then_new hgW (fun x e => by omega))
     exact bodyPost_ret (res_ct Tryz.results65 _ _ (w.heap.size + 1) 30 #[.int .i64 0, lv, lq] (0, 0) _ _ rfl rfl hbW Tryz.underlying30 rfl (by kernel_rfl)) (by kernel_rfl) ⟨lv, lq, rfl, ⟨(HW1.out.base (by omega)).mono (fun _ _ h => h.mono (fun b e => ⟨by have := e.1; omega, e.2⟩)), (HW2.out.base (by omega)).mono (fun _ _ h => h.mono (fun b e => e.elim))⟩, HWG.out⟩
end
section
open Go.RowKit
def partOk (p : Pt) : Bool := decide (1 ≤ p.id) && decide (p.id ≤ 6) && regMay 0 p.size && decide ((p.mem.length : Int) = p.size) && decide ((p.st : Int) ≤ 4)
set_option maxRecDepth 100000 in
theorem spart_ok (p : Pt) (A : Option Addr) (c : Nat) (w : World) (h8 : p.r.length = 8) :
  Calls Tryz.prog 124 #[.agg (partC p (.slice A p.mem.length c))] w fun e w' => e = .returned (.bool (partOk p)) ∧ Chg Non w w' := by
 have HM := Lib.hid (fun W => regMay_ok 0 p.size W)
 have HE : Hid (partOk p = (decide (1 ≤ p.id) && decide (p.id ≤ 6) && regMay 0 p.size && decide ((p.mem.length : Int) = p.size) && decide ((p.st : Int) ≤ 4))) := Lib.hid rfl
 obtain ⟨C, hC⟩ : ∃ C, partC p (.slice A p.mem.length c) = C := ⟨_, rfl⟩
 have hb : PartB (w.alloc (.cells C 69)) w.heap.size p (.slice A p.mem.length c) := ⟨by unfold PartAt; rw [hC]; exact blk_new _ _, h8⟩
 have HB := Lib.hid hb
 obtain ⟨k0, k1, _, _, k12, k13⟩ := hb.cells
 rw [hC]
 obtain ⟨i, s, kp, r, pc, st, mem⟩ := p
 simp only at *
 obtain ⟨m, hm⟩ : ∃ m, regMay 0 s = m := ⟨_, rfl⟩
 obtain ⟨n, hn⟩ : ∃ n, mem.length = n := ⟨_, rfl⟩
 rw [hn] at k13 HB HE
 rw [hm] at HM HE
 clear hm hn hC hb
 by_cases h1 : 1 ≤ i
 ·by_cases h2 : i ≤ 6
  ·have d1 : decide (1 ≤ i) = true := by simpa using h1
   have d2 : decide (i ≤ 6) = true := by simpa using h2
   go_enter Tryz.func124, Tryz.ntmps124
   go_wp2_with fail
   refine (HM.out _).mono ?_
   rintro e u ⟨rfl, hg⟩
   have HB2 := Lib.hid (HB.out.non hg)
   obtain ⟨k0, k1, _, _, k12, k13⟩ := HB2.out.cells
   have HG := Lib.hid (((Chg.refl Non w).alloc _).then_non hg)
   clear hg HB
   go_wp2_with fail
   all_goals go_ret
   all_goals refine ⟨ret_b ?_, HG.out⟩
   all_goals rw [HE.out, Bool.eq_iff_iff]
   all_goals first
    | (simp_all; done)
    | (simp_all; omega)
    | trace_state
  ·have d1 : decide (1 ≤ i) = true := by simpa using h1
   have d2 : decide (i ≤ 6) = false := by simpa using h2
   go_enter Tryz.func124, Tryz.ntmps124
   go_wp2_with fail
   go_ret
   exact ⟨ret_b (by rw [HE.out, d1, d2]; rfl), (Chg.refl Non w).alloc _⟩
 ·have d1 : decide (1 ≤ i) = false := by simpa using h1
  go_enter Tryz.func124, Tryz.ntmps124
  go_wp2_with fail
  go_ret
  exact ⟨ret_b (by rw [HE.out, d1]; rfl), (Chg.refl Non w).alloc _⟩
theorem msgV_non {I : Nat → Prop} : ∀ W W' a vs, Chg Non W W' → msgV I W a vs → msgV I W' a vs := fun _ _ _ _ hg h => h.keep hg (fun _ _ e => e)
theorem quV_non {I : Nat → Prop} : ∀ W W' a vs, Chg Non W W' → quV I W a vs → quV I W' a vs := fun _ _ _ _ hg h => h.keep hg (fun _ _ e => e)
theorem ptV_non {I : Nat → Prop} : ∀ W W' a vs, Chg Non W W' → ptV I W a vs → ptV I W' a vs := fun _ _ _ _ hg h => h.keep hg (fun _ _ e => e)
theorem SlV.non {α : Type} {R : World → α → List Value → Prop} {I : Nat → Prop} {sz : Nat} {w w' : World} {l : List α} {v : Value} (h : SlV R I sz w l v) (hg : Chg Non w w') (hR : ∀ a vs, R w a vs → R w' a vs) : SlV R I sz w' l v := h.keep hg (fun _ _ e => e) (fun a vs _ => hR a vs)
set_option maxRecDepth 100000 in
theorem long_ok (size : Int) (A : Option Addr) (n c g : Nat) (w : World) (h : w.cell? ⟨g, 4, none⟩ = some (.int .i64 size)) :
  Calls Tryz.prog 142 #[.slice A n c, .pointer (some ⟨g, 0, none⟩)] w fun e w' => e = .returned (.bool (decide (size < (n : Int)))) ∧ Chg Non w w' := by
 go_enter Tryz.func142, Tryz.ntmps142
 go_wp2_with fail
 go_ret
 exact ⟨rfl, Chg.refl _ _⟩
def mayQ (q : Qu) : Bool := q.ch.may && decide ((q.msgs.length : Int) ≤ q.ch.cap) && !q.msgs.any fun m => decide (q.ch.size < (m.length : Int))
set_option maxRecDepth 100000 in
theorem mayQueue_ok (I : Nat → Prop) (q : Qu) (v : Value) (w : World) (h : SlV (msgV I) I 1 w q.msgs v) :
  Calls Tryz.prog 125 #[.agg (q.L v).toArray] w fun e w' => e = .returned (.bool (mayQ q)) ∧ Chg Non w w' := by
 obtain ⟨A, c, rfl, hc, hcm, hr⟩ := h
 have HR := Lib.hid hr
 have HM := Lib.hid (fun W => chMay_ok q.ch.id q.ch.src q.ch.dst q.ch.cap q.ch.size W)
 have HE : Hid (mayQ q = (q.ch.may && decide ((q.msgs.length : Int) ≤ q.ch.cap) && !q.msgs.any fun m => decide (q.ch.size < (m.length : Int)))) := Lib.hid rfl
 have HA := Lib.hid (fun W (hg : Chg Non w W) g (hb : ∀ W', Chg Non W W' → W'.cell? ⟨g, 4, none⟩ = some (.int .i64 q.ch.size)) => anyMay (msgV I) I msgV_non (fun m => decide (q.ch.size < (m.length : Int))) (.pointer (some ⟨g, 0, none⟩)) A q.msgs c W (hr.non hg (fun a vs h => msgV_non _ _ _ _ hg h)) (by
   rintro W' a vs hg2 ha ⟨m, rfl, ⟨A2, c2, rfl, _⟩, _⟩
   exact long_ok q.ch.size A2 a.length c2 g W' (hb W' hg2)) hc hcm)
 clear hr
 obtain ⟨⟨i, s, d, cap, sz⟩, ms⟩ := q
 simp only [Ch.may] at *
 obtain ⟨m, hm⟩ : ∃ m, chMay i s d cap sz = m := ⟨_, rfl⟩
 obtain ⟨x, hx⟩ : ∃ x, (ms.any fun m => decide (sz < (m.length : Int))) = x := ⟨_, rfl⟩
 rw [hx] at HE
 simp only [hx] at HA
 rw [hm] at HM HE
 clear hm hx
 show Calls _ _ #[.agg #[.int .i64 i, .int .i64 s, .int .i64 d, .int .i64 cap, .int .i64 sz, .slice A ms.length c]] _ _
 go_enter Tryz.func125, Tryz.ntmps125
 go_wp2_with fail
 refine (HM.out _).mono ?_
 rintro e u ⟨rfl, hg⟩
 have hb := blk_call hg
 have HB := Lib.hid hb
 have HG := Lib.hid (((Chg.refl Non w).alloc _).then_non hg)
 have k3 := blk_cell hb 3 (v := .int .i64 cap) rfl
 have k5 := blk_cell hb 5 (v := .slice A ms.length c) rfl
 clear hg hb
 cases m with
 | false =>
  go_wp2_with fail
  go_ret
  exact ⟨ret_b (by rw [HE.out]; rfl), HG.out⟩
 | true =>
  by_cases h1 : (ms.length : Int) ≤ cap
  ·have d1 : decide ((ms.length : Int) ≤ cap) = true := by simpa using h1
   go_wp2_with fail
   refine (HA.out _ HG.out _ (fun W' hg => blk_cell (blk_keep HB.out hg (fun e => e)) 4 (v := .int .i64 sz) rfl)).mono ?_
   rintro e u2 ⟨rfl, hg⟩
   have HG2 := Lib.hid (HG.out.then_non hg)
   clear hg
   go_wp2_with fail
   go_ret
   exact ⟨ret_b (by rw [HE.out, d1]; simp), HG2.out⟩
  ·have d1 : decide ((ms.length : Int) ≤ cap) = false := by simpa using h1
   go_wp2_with fail
   go_ret
   exact ⟨ret_b (by rw [HE.out, d1]; rfl), HG.out⟩
end
section
open Go.RowKit
abbrev PtV := Option Addr × List UInt8 × Nat
def PartsV (w : World) (b : Nat) (ps : List PtV) : Prop :=
 ∀ (i : Nat) p, ps[i]? = some p → w.cell? ⟨b, i, none⟩ = some (.slice p.1 p.2.1.length p.2.2) ∧ Rd w p.1 p.2.1
def catV (ps : List PtV) : List UInt8 := (ps.map (·.2.1)).flatten
theorem catV_snoc (ps : List PtV) (p : PtV) : catV (ps ++ [p]) = catV ps ++ p.2.1 := by simp [catV]
theorem catV_take (ps : List PtV) (k : Nat) : (catV (ps.take k)).length ≤ (catV ps).length := by
 conv => rhs; rw [← List.take_append_drop k ps]
 simp only [catV, List.map_append, List.flatten_append, List.length_append]
 omega
set_option maxRecDepth 100000 in
theorem SlConcat_ok (b : Nat) (ps : List PtV) (c : Nat) (w : World) (hP : PartsV w b ps) (hl : (catV ps).length ≤ 100000) (hn : ps.length ≤ 1000) :
  Calls Tryz.prog 50 #[.slice (some ⟨b, 0, none⟩) ps.length c] w (RetB w (catV ps)) := by
 have HP := Lib.hid hP
 clear hP
 go_enter Tryz.func50, Tryz.ntmps50
 go_wp2_with fail
 go_loopw [3, 11] (fun s i wr => ∃ k : Nat, k ≤ ps.length ∧ i = .int .i64 k ∧ s = .int .i64 ((catV (ps.take k)).length : Nat) ∧ w = wr) (fun _ i _ => ps.length - (intOf i).toNat)
 case atStart => exact ⟨0, Nat.zero_le _, rfl, rfl, rfl⟩
 case round =>
  obtain ⟨k, hk, rfl, rfl, rfl⟩ := hrel
  by_cases hlt : k < ps.length
  ·have hlti : decide ((k : Int) < (ps.length : Int)) = true := by simp; omega
   obtain ⟨⟨A, l, cl⟩, hpk⟩ : ∃ p, ps[k]? = some p := ⟨_, List.getElem?_eq_getElem hlt⟩
   obtain ⟨hc, hr⟩ := HP.out k _ hpk
   simp only at hc hr
   have ht : (catV (ps.take (k + 1))).length = (catV (ps.take k)).length + l.length := by
    rw [List.take_add_one, hpk, Option.toList_some, catV_snoc, List.length_append]
   have HT := Lib.hid ht
   have hle := catV_take ps (k + 1)
   rw [ht] at hle
   clear hr hpk ht
   obtain ⟨m, hm⟩ : ∃ m, (catV (ps.take k)).length = m := ⟨_, rfl⟩
   rw [hm] at hle HT ⊢
   have hneg : decide ((m : Int) + (l.length : Int) < 0) = false := by simp; omega
   go_wp2_with fail
   go_roundw
   case rel => exact ⟨k + 1, by omega, by go_num, by rw [HT.out]; go_num, trivial⟩
   case measure => simp [intOf]; omega
  ·have hkl : k = ps.length := by omega
   have hlti : decide ((k : Int) < (ps.length : Int)) = false := by simp; omega
   have ht : ps.take k = ps := List.take_of_length_le (by omega)
   rw [ht]
   clear ht
   go_wp2_with fail
   refine (SlGrow_nil (catV ps).length w (by omega)).mono ?_
   rintro e w1 ⟨v, rfl, ho, hg⟩
   have HO := Lib.hid ho
   have HG := Lib.hid hg
   clear ho hg
   go_wp2_with fail
   go_loopw [6, 27] (fun u i wr => ∃ k : Nat, k ≤ ps.length ∧ i = .int .i64 k ∧ Chg Non w wr ∧ OwnR w.heap.size wr u (catV (ps.take k))) (fun _ i _ => ps.length - (intOf i).toNat)
   case atStart => exact ⟨0, Nat.zero_le _, rfl, HG.out, HO.out⟩
   case round =>
    rename World => wi
    obtain ⟨j, hj, rfl, hgj, hoj⟩ := hrel
    have HGj := Lib.hid hgj
    have HOj := Lib.hid hoj
    clear hgj hoj
    by_cases hlt : j < ps.length
    ·have hlti : decide ((j : Int) < (ps.length : Int)) = true := by simp; omega
     obtain ⟨⟨A, l, cl⟩, hpk⟩ : ∃ p, ps[j]? = some p := ⟨_, List.getElem?_eq_getElem hlt⟩
     obtain ⟨hc, hr⟩ := HP.out j _ hpk
     simp only at hc hr
     have hci : wi.cell? ⟨b, j, none⟩ = some (.slice A l.length cl) := HGj.out.cell_some hc (fun e => e)
     have HRi := Lib.hid (hr.non HGj.out)
     have ht : catV (ps.take (j + 1)) = catV (ps.take j) ++ l := by rw [List.take_add_one, hpk, Option.toList_some, catV_snoc]
     have HT := Lib.hid ht
     have hle := catV_take ps (j + 1)
     rw [ht, List.length_append] at hle
     clear hr hpk ht hc
     go_wp2_with (refine sel (some 33) (.call _) ?_; refine Vm_stop ?_)
     refine HoleV.mk ?_
     refine wpList_appB rfl (.tmp 31) (.tmp 32) rfl w.heap.size u6 (catV (ps.take j)) rfl HOj.out A cl l rfl HRi.out (by omega) (by omega) HGj.out.size (by omega) ?_
     intro v2 w2 ho2 hg2 hat
     have HO2 := Lib.hid ho2
     have HG2 : Hid (Chg Non w w2) := Lib.hid (HGj.out.then_new hg2 (fun x hx => HOj.out.ge hx))
     clear ho2 hg2 hat
     go_wp2_with fail
     go_roundw
     case rel => exact ⟨j + 1, by omega, by go_num, HG2.out, by rw [HT.out]; exact HO2.out⟩
     case measure => simp [intOf]; omega
    ·have hjl : j = ps.length := by omega
     have hlti : decide ((j : Int) < (ps.length : Int)) = false := by simp; omega
     have ht : ps.take j = ps := List.take_of_length_le (by omega)
     rw [ht] at HOj
     clear ht
     obtain ⟨A, c2, rfl, h1, h2, h3⟩ := HOj.out.own
     have H3 := Lib.hid h3
     clear h3
     go_wp2_with fail
     go_ret
     exact ⟨A, c2, rfl, h1, h2, H3.out, HGj.out⟩
set_option maxRecDepth 100000 in
theorem cat_ok (b : Nat) (ps : List PtV) (c : Nat) (w : World) (hP : PartsV w b ps) (hl : (catV ps).length ≤ 100000) (hn : ps.length ≤ 1000) :
  Calls Tryz.prog 93 #[.slice (some ⟨b, 0, none⟩) ps.length c] w (RetB w (catV ps)) := by
 go_enter Tryz.func93, Tryz.ntmps93
 go_wp2_with fail
 refine (SlConcat_ok b ps c w hP hl hn).mono ?_
 rintro e w' ⟨A, c', rfl, hr⟩
 go_wp2_with fail
 go_ret
 exact ⟨A, c', rfl, hr⟩
end
section
open Go.RowKit
theorem there_no {l : List UInt8} {a n : Nat} (h : there l a n = false) : 512 < l.length ∨ (l.length ≤ 512 ∧ l.length < a + n) := by
 unfold there at h
 simp at h
 omega
theorem there_yes {l : List UInt8} {a n : Nat} (h : there l a n = true) : l.length ≤ 512 ∧ a + n ≤ l.length := (there_iff _ _ _).1 h
theorem rd_cut {w : World} {b o : Nat} {l : List UInt8} (h : Rd w (some ⟨b, o, none⟩) l) (a n : Nat) : Rd w (some ⟨b, o + a, none⟩) (cut l a n) := (h.drop a).take n
theorem cut_len {l : List UInt8} {a n : Nat} (h : a + n ≤ l.length) : (cut l a n).length = n := by
 unfold cut
 rw [List.length_take, List.length_drop]
 omega
theorem u8_cell {w : World} {b o : Nat} {l : List UInt8} (h : Rd w (some ⟨b, o, none⟩) l) (i : Nat) (hi : i < l.length) : w.cell? ⟨b, o + i, none⟩ = some (.int .u8 ((l.getD i 0).toNat : Nat)) := by
 obtain ⟨b', o', e, hc⟩ := h i l[i] (List.getElem?_eq_getElem hi)
 injection e with e
 injection e with e1 e2 _
 subst e1 e2
 rw [hc, List.getD_eq_getElem?_getD, List.getElem?_eq_getElem hi]
 rfl
set_option maxRecDepth 100000 in
theorem within_read (b o : Nat) (l : List UInt8) (c a n : Nat) (w : World) (hr : Rd w (some ⟨b, o, none⟩) l) (hc : l.length ≤ c) (hcm : c ≤ maxLen) (hn : 0 < n) (ht : there l a n = true)  :
  Calls Tryz.prog 91 #[.slice (some ⟨b, o, none⟩) l.length c, .int .i64 a, .int .i64 n, .func (.func 82) #[] #[]] w fun e w' => ∃ A2 c2, e = .returned (.tuple #[.slice A2 n c2, .int .i64 0]) ∧ n ≤ c2 ∧ c2 ≤ maxLen ∧ Own w.heap.size w' A2 (cut l a n) ∧ Chg Non w w' := by
 obtain ⟨h1, h2⟩ := there_yes ht
 have HR := Lib.hid hr
 have hk := cut_len h2
 have HK := Lib.hid hk
 have b1 : decide ((l.length : Int) > 512) = false := by simp; omega
 have b2 : decide ((a : Int) > (l.length : Int)) = false := by simp; omega
 have b3 : decide ((n : Int) > (l.length : Int) - (a : Int)) = false := by simp; omega
 clear hr ht hk
 go_enter Tryz.func91, Tryz.ntmps91
 go_wp2_with fail
 have hcl := SlClone_ok (some ⟨b, o + a, none⟩) (cut l a n) n w (rd_cut HR.out a n) (by have := HK.out; omega)
 rw [HK.out] at hcl
 refine hcl.mono ?_
 rintro e w1 ⟨A2, c2, rfl, q1, q2, q3, q4⟩
 rw [HK.out] at q1 ⊢
 have Q3 := Lib.hid q3
 have Q4 := Lib.hid q4
 clear q3 q4 hcl
 go_wp2_with fail
 go_ret2
 exact ⟨A2, c2, rfl, q1, q2, Q3.out, Q4.out⟩
set_option maxRecDepth 100000 in
theorem within_write (b o : Nat) (l : List UInt8) (c a n : Nat) (w : World) (hr : Rd w (some ⟨b, o, none⟩) l) (hc : l.length ≤ c) (hcm : c ≤ maxLen) (hn : 0 < n) (ht : there l a n = true) (z : List UInt8) (p1 p2 p3 : Value) (hF : ∀ v W, Chg Non w W → Calls Tryz.prog 92 #[v, p1, p2, p3] W (RetB W z)) :
  Calls Tryz.prog 91 #[.slice (some ⟨b, o, none⟩) l.length c, .int .i64 a, .int .i64 n, .func (.func 92) #[] #[p1, p2, p3]] w fun e w' => ∃ A2 c2, e = .returned (.tuple #[.slice A2 z.length c2, .int .i64 0]) ∧ z.length ≤ c2 ∧ c2 ≤ maxLen ∧ Own w.heap.size w' A2 z ∧ Chg Non w w' := by
 obtain ⟨h1, h2⟩ := there_yes ht
 have HR := Lib.hid hr
 have hk := cut_len h2
 have HK := Lib.hid hk
 have b1 : decide ((l.length : Int) > 512) = false := by simp; omega
 have b2 : decide ((a : Int) > (l.length : Int)) = false := by simp; omega
 have b3 : decide ((n : Int) > (l.length : Int) - (a : Int)) = false := by simp; omega
 have HF := Lib.hid hF
 clear hr ht hk hF
 go_enter Tryz.func91, Tryz.ntmps91
 go_wp2_with fail
 refine (HF.out _ _ (Chg.refl _ _)).mono ?_
 rintro e w1 ⟨A2, c2, rfl, q1, q2, q3, q4⟩
 have Q3 := Lib.hid q3
 have Q4 := Lib.hid q4
 clear q3 q4
 go_wp2_with fail
 go_ret2
 exact ⟨A2, c2, rfl, q1, q2, Q3.out, Q4.out⟩
set_option maxRecDepth 100000 in
theorem within_byte (b o : Nat) (l : List UInt8) (c a n : Nat) (w : World) (hr : Rd w (some ⟨b, o, none⟩) l) (hc : l.length ≤ c) (hcm : c ≤ maxLen) (hn : 0 < n) (ht : there l a n = true) (z : Value) (hF : Calls Tryz.prog 274 #[.slice (some ⟨b, o + a, none⟩) n n] w fun e w' => e = .returned z ∧ w = w') :
  Calls Tryz.prog 273 #[.slice (some ⟨b, o, none⟩) l.length c, .int .i64 a, .int .i64 n, .func (.func 274) #[] #[]] w fun e w' => e = .returned (.tuple #[z, .int .i64 0]) ∧ w = w' := by
 obtain ⟨h1, h2⟩ := there_yes ht
 have HR := Lib.hid hr
 have hk := cut_len h2
 have HK := Lib.hid hk
 have b1 : decide ((l.length : Int) > 512) = false := by simp; omega
 have b2 : decide ((a : Int) > (l.length : Int)) = false := by simp; omega
 have b3 : decide ((n : Int) > (l.length : Int) - (a : Int)) = false := by simp; omega
 have HF := Lib.hid hF
 clear hr ht hk hF
 go_enter Tryz.func273, Tryz.ntmps273
 go_wp2_with fail
 refine HF.out.mono ?_
 rintro e w1 ⟨rfl, rfl⟩
 go_wp2_with fail
 go_ret2
 exact ⟨rfl, rfl⟩
set_option maxRecDepth 100000 in
theorem within_no_slice (A : Option Addr) (l : List UInt8) (c a n : Nat) (F : Value) (w : World) (ha : (a : Int) ≤ 4294967295 * 3) (hn : (n : Int) ≤ 4294967295 * 3) (ht : there l a n = false) :
  Calls Tryz.prog 91 #[.slice A l.length c, .int .i64 a, .int .i64 n, F] w fun e w' => ∃ er : Int, (er == 0) = false ∧ e = .returned (.tuple #[.slice none 0 0, .int .i64 er]) ∧ w = w' := by
 rcases there_no ht with h | ⟨h1, h2⟩
 ·have b1 : decide ((l.length : Int) > 512) = true := by simp; omega
  clear ht
  go_enter Tryz.func91, Tryz.ntmps91
  go_wp2_with fail
  go_ret2
  exact ⟨3, rfl, rfl, rfl⟩
 ·have b1 : decide ((l.length : Int) > 512) = false := by simp; omega
  clear ht
  by_cases hb2 : l.length < a
  ·have b2 : decide ((a : Int) > (l.length : Int)) = true := by simp; omega
   go_enter Tryz.func91, Tryz.ntmps91
   go_wp2_with fail
   go_ret2
   exact ⟨180, rfl, rfl, rfl⟩
  ·have b2 : decide ((a : Int) > (l.length : Int)) = false := by simp; omega
   have b3 : decide ((n : Int) > (l.length : Int) - (a : Int)) = true := by simp; omega
   go_enter Tryz.func91, Tryz.ntmps91
   go_wp2_with fail
   go_ret2
   exact ⟨180, rfl, rfl, rfl⟩
set_option maxRecDepth 100000 in
theorem within_no_byte (A : Option Addr) (l : List UInt8) (c a n : Nat) (F : Value) (w : World) (ha : (a : Int) ≤ 4294967295 * 3) (hn : (n : Int) ≤ 4294967295 * 3) (ht : there l a n = false) :
  Calls Tryz.prog 273 #[.slice A l.length c, .int .i64 a, .int .i64 n, F] w fun e w' => ∃ er : Int, (er == 0) = false ∧ e = .returned (.tuple #[.int .u8 0, .int .i64 er]) ∧ w = w' := by
 rcases there_no ht with h | ⟨h1, h2⟩
 ·have b1 : decide ((l.length : Int) > 512) = true := by simp; omega
  clear ht
  go_enter Tryz.func273, Tryz.ntmps273
  go_wp2_with fail
  go_ret2
  exact ⟨3, rfl, rfl, rfl⟩
 ·have b1 : decide ((l.length : Int) > 512) = false := by simp; omega
  clear ht
  by_cases hb2 : l.length < a
  ·have b2 : decide ((a : Int) > (l.length : Int)) = true := by simp; omega
   go_enter Tryz.func273, Tryz.ntmps273
   go_wp2_with fail
   go_ret2
   exact ⟨180, rfl, rfl, rfl⟩
  ·have b2 : decide ((a : Int) > (l.length : Int)) = false := by simp; omega
   have b3 : decide ((n : Int) > (l.length : Int) - (a : Int)) = true := by simp; omega
   go_enter Tryz.func273, Tryz.ntmps273
   go_wp2_with fail
   go_ret2
   exact ⟨180, rfl, rfl, rfl⟩
set_option maxRecDepth 100000 in
theorem within_no_word (A : Option Addr) (l : List UInt8) (c a n : Nat) (F : Value) (w : World) (ha : (a : Int) ≤ 4294967295 * 3) (hn : (n : Int) ≤ 4294967295 * 3) (ht : there l a n = false) :
  Calls Tryz.prog 275 #[.slice A l.length c, .int .i64 a, .int .i64 n, F] w fun e w' => ∃ er : Int, (er == 0) = false ∧ e = .returned (.tuple #[.int .u32 0, .int .i64 er]) ∧ w = w' := by
 rcases there_no ht with h | ⟨h1, h2⟩
 ·have b1 : decide ((l.length : Int) > 512) = true := by simp; omega
  clear ht
  go_enter Tryz.func275, Tryz.ntmps275
  go_wp2_with fail
  go_ret2
  exact ⟨3, rfl, rfl, rfl⟩
 ·have b1 : decide ((l.length : Int) > 512) = false := by simp; omega
  clear ht
  by_cases hb2 : l.length < a
  ·have b2 : decide ((a : Int) > (l.length : Int)) = true := by simp; omega
   go_enter Tryz.func275, Tryz.ntmps275
   go_wp2_with fail
   go_ret2
   exact ⟨180, rfl, rfl, rfl⟩
  ·have b2 : decide ((a : Int) > (l.length : Int)) = false := by simp; omega
   have b3 : decide ((n : Int) > (l.length : Int) - (a : Int)) = true := by simp; omega
   go_enter Tryz.func275, Tryz.ntmps275
   go_wp2_with fail
   go_ret2
   exact ⟨180, rfl, rfl, rfl⟩
set_option maxRecDepth 100000 in
theorem load1_ok (b o : Nat) (x : Nat) (w : World) (hc : w.cell? ⟨b, o, none⟩ = some (.int .u8 x)) :
  Calls Tryz.prog 274 #[.slice (some ⟨b, o, none⟩) 1 1] w fun e w' => e = .returned (.int .u8 x) ∧ w = w' := by
 go_enter Tryz.func274, Tryz.ntmps274
 go_wp2_with fail
 go_ret
 exact ⟨rfl, rfl⟩
set_option maxRecDepth 100000 in
theorem write1_ok (b o : Nat) (l : List UInt8) (c a : Nat) (B : Option Addr) (y : List UInt8) (cy p1 p2 p3 : Nat) (v : Value) (w : World) (hr : Rd w (some ⟨b, o, none⟩) l) (hry : Rd w B y) (hc : l.length ≤ c) (hcm : c ≤ maxLen)
  (h1 : l.length ≤ 512) (h2 : a + y.length ≤ l.length) (e1 : w.cell? ⟨p1, 0, none⟩ = some (.slice (some ⟨b, o, none⟩) l.length c)) (e2 : w.cell? ⟨p2, 0, none⟩ = some (.int .i64 a)) (e3 : w.cell? ⟨p3, 0, none⟩ = some (.slice B y.length cy)) :
  Calls Tryz.prog 92 #[v, .pointer (some ⟨p1, 0, none⟩), .pointer (some ⟨p2, 0, none⟩), .pointer (some ⟨p3, 0, none⟩)] w (RetB w (put l a y)) := by
 have HR := Lib.hid hr
 have HRy := Lib.hid hry
 clear hr hry
 have g1 : (a : Int) + (y.length : Int) ≤ (l.length : Int) := by omega
 obtain ⟨q, hq⟩ : ∃ q, a + y.length = q := ⟨_, rfl⟩
 obtain ⟨A3, hA3⟩ : ∃ A3 : Option Addr, (if c = q then some ⟨b, o, none⟩ else some ⟨b, o + q, none⟩) = A3 := ⟨_, rfl⟩
 have hql : q ≤ l.length := by omega
 have hqi : (q : Int) ≤ (l.length : Int) := by omega
 have hR3 : Hid (Rd w A3 (l.drop q)) := Lib.hid (by
   rw [← hA3]
   split
   · rw [List.drop_eq_nil_of_le (by omega)]
     exact Rd.nil _ _
   · exact HR.out.drop q)
 go_enter Tryz.func92, Tryz.ntmps92
 go_wp2_with fail
 refine wp_region_held_drew (S := fun W => W.cell? ⟨p1, 0, none⟩ = some (.slice (some ⟨b, o, none⟩) l.length c) ∧ W.cell? ⟨p2, 0, none⟩ = some (.int .i64 a) ∧ W.cell? ⟨p3, 0, none⟩ = some (.slice B y.length cy)) (by kernel_rfl) ⟨e1, e2, e3⟩ (fun hHeld => ?_)
 refine hp 0 6 (.slice (some ⟨b, o, none⟩) l.length c) rfl hHeld ?_ (he := (fun W hW => by obtain ⟨e1, e2, e3⟩ := hW; go_simp))
 refine hp 1 7 (.int .i64 a) rfl hHeld ?_ (he := (fun W hW => by obtain ⟨e1, e2, e3⟩ := hW; go_simp))
 refine hp 3 9 (.slice B y.length cy) rfl hHeld ?_ (he := (fun W hW => by obtain ⟨e1, e2, e3⟩ := hW; go_simp))
 refine hp 4 10 (.slice (some ⟨b, o, none⟩) l.length c) rfl hHeld ?_ (he := (fun W hW => by obtain ⟨e1, e2, e3⟩ := hW; go_simp))
 refine hp 5 11 (.int .i64 a) rfl hHeld ?_ (he := (fun W hW => by obtain ⟨e1, e2, e3⟩ := hW; go_simp))
 refine hp 6 12 (.slice B y.length cy) rfl hHeld ?_ (he := (fun W hW => by obtain ⟨e1, e2, e3⟩ := hW; go_simp))
 refine hp 2 8 (.slice (some ⟨b, o, none⟩) a c) rfl hHeld ?_ (he := (fun W hW => by obtain ⟨e1, e2, e3⟩ := hW; go_simp; intro h; omega))
 refine hp 7 13 (.int .i64 y.length) rfl hHeld ?_ (he := (fun W hW => by obtain ⟨e1, e2, e3⟩ := hW; go_simp))
 refine hp 8 14 (.int .i64 (q : Nat)) rfl hHeld ?_ (he := (fun W hW => by obtain ⟨e1, e2, e3⟩ := hW; go_simp; rw [Go.IntWalk.i64_in _ (by omega)]; omega))
 refine hp 9 15 (.slice A3 (l.length - q) (c - q)) rfl hHeld ?_ (he := (fun W hW => by rw [← hA3]; go_simp))
 refine h_one 10 (by kernel_rfl) rfl (by kernel_rfl) ?_
 intro K hK
 go_simp
 have hps : PartsV (w.drew.alloc (.cells #[.slice (some ⟨b, o, none⟩) a c, .slice B y.length cy, .slice A3 (l.length - q) (c - q)] 50)) w.heap.size [(some ⟨b, o, none⟩, l.take a, c), (B, y, cy), (A3, l.drop q, c - q)] := by
  have hg : Chg Non w (w.drew.alloc (.cells #[.slice (some ⟨b, o, none⟩) a c, .slice B y.length cy, .slice A3 (l.length - q) (c - q)] 50)) := ((Chg.refl Non w).drew).alloc _
  have hb := heap_alloc_new w.drew (.cells #[.slice (some ⟨b, o, none⟩) a c, .slice B y.length cy, .slice A3 (l.length - q) (c - q)] 50)
  intro i p hp
  have hi : i = 0 ∨ i = 1 ∨ i = 2 := by have := (List.getElem?_eq_some_iff.1 hp).1; simp at this; omega
  rcases hi with rfl | rfl | rfl
  ·simp at hp
   subst hp
   refine ⟨row_cell hb ?_, (HR.out.take a).non hg⟩
   simp
   omega
  ·simp at hp
   subst hp
   exact ⟨row_cell hb (by simp), HRy.out.non hg⟩
  ·simp at hp
   subst hp
   exact ⟨row_cell hb (by simp), hR3.out.non hg⟩
 have HPs := Lib.hid hps
 have hcv : catV [(some ⟨b, o, none⟩, l.take a, c), (B, y, cy), (A3, l.drop q, c - q)] = put l a y := by simp [catV, put, hq]
 have HCv := Lib.hid hcv
 have hS2 : (w.drew.alloc (.cells #[.slice (some ⟨b, o, none⟩) a c, .slice B y.length cy, .slice A3 (l.length - q) (c - q)] 50)).cell? ⟨p1, 0, none⟩ = some (.slice (some ⟨b, o, none⟩) l.length c) ∧ (w.drew.alloc (.cells #[.slice (some ⟨b, o, none⟩) a c, .slice B y.length cy, .slice A3 (l.length - q) (c - q)] 50)).cell? ⟨p2, 0, none⟩ = some (.int .i64 a) ∧ (w.drew.alloc (.cells #[.slice (some ⟨b, o, none⟩) a c, .slice B y.length cy, .slice A3 (l.length - q) (c - q)] 50)).cell? ⟨p3, 0, none⟩ = some (.slice B y.length cy) := ⟨(((Chg.refl Non w).drew).alloc _).cell_some e1 (fun e => e), (((Chg.refl Non w).drew).alloc _).cell_some e2 (fun e => e), (((Chg.refl Non w).drew).alloc _).cell_some e3 (fun e => e)⟩
 refine hK.out _ _ hS2 (fun _ => ?_)
 clear hK K hps hcv
 refine h_one 11 (by kernel_rfl) rfl (by kernel_rfl) ?_
 intro K hK
 go_simp
 have hpl : (put l a y).length = l.length := put_len (by omega)
 refine (cat_ok w.heap.size [(some ⟨b, o, none⟩, l.take a, c), (B, y, cy), (A3, l.drop q, c - q)] 3 _ HPs.out (by rw [HCv.out, hpl]; omega) (by simp)).mono ?_
 rintro e w1 ⟨A4, c4, rfl, q1, q2, q3, q4⟩
 rw [HCv.out] at q1 q3 ⊢
 have Q3 := Lib.hid (q3.mono (show w.heap.size ≤ _ by simp))
 have Q4 := Lib.hid ((((Chg.refl Non w).drew).alloc _).then_non q4)
 refine hK.out _ _ ⟨Q4.out.cell_some e1 (fun e => e), Q4.out.cell_some e2 (fun e => e), Q4.out.cell_some e3 (fun e => e)⟩ (fun _ => ?_)
 clear hK K q3 q4
 refine h_one 12 (by kernel_rfl) rfl (by kernel_rfl) ?_
 intro K hK
 go_simp
 refine hK.out _ _ ⟨Q4.out.cell_some e1 (fun e => e), Q4.out.cell_some e2 (fun e => e), Q4.out.cell_some e3 (fun e => e)⟩ (fun _ => ?_)
 clear hK K
 refine wpAnyH_done (by kernel_rfl) ?_ _
 go_wp2_with fail
 go_ret
 exact ⟨A4, c4, by rw [hpl]; rfl, q1, q2, Q3.out, Q4.out⟩
end
section
open Go.RowKit
theorem or_ok (a b m i : Nat) (ha : a = 2 ^ i * m) (hb : b < 2 ^ i) (hs : a + b < 4294967296) : bits .or .u32 (a : Int) (b : Int) = (a : Int) + (b : Int) := by
 rw [u32_or_nat a b (by omega) (by omega), ha, ← Nat.two_pow_add_eq_or_of_lt hb]
 simp
set_option maxRecDepth 100000 in
theorem load32_1_ok (b o : Nat) (x0 x1 x2 x3 : Nat) (w : World) (h0 : x0 < 256) (h1 : x1 < 256) (h2 : x2 < 256) (h3 : x3 < 256) (c0 : w.cell? ⟨b, o, none⟩ = some (.int .u8 x0)) (c1 : w.cell? ⟨b, o + 1, none⟩ = some (.int .u8 x1)) (c2 : w.cell? ⟨b, o + 2, none⟩ = some (.int .u8 x2)) (c3 : w.cell? ⟨b, o + 3, none⟩ = some (.int .u8 x3)) :
  Calls Tryz.prog 276 #[.slice (some ⟨b, o, none⟩) 4 4] w fun e w' => e = .returned (.int .u32 ((x0 * 16777216 + x1 * 65536 + x2 * 256 + x3 : Nat) : Int)) ∧ Chg Non w w' := by
 go_enter Tryz.func276, Tryz.ntmps276
 go_wp2_with fail
 refine wp_region_held_drew (S := fun W => W.cell? ⟨b, o, none⟩ = some (.int .u8 x0) ∧ W.cell? ⟨b, o + 1, none⟩ = some (.int .u8 x1) ∧ W.cell? ⟨b, o + 2, none⟩ = some (.int .u8 x2) ∧ W.cell? ⟨b, o + 3, none⟩ = some (.int .u8 x3)) (by kernel_rfl) ⟨c0, c1, c2, c3⟩ (fun hHeld => ?_)
 refine hp 0 3 (.slice (some ⟨b, o, none⟩) 4 4) rfl hHeld ?_ (he := (fun W hW => by obtain ⟨e0, e1, e2, e3⟩ := hW; go_simp))
 refine hp 1 4 (.pointer (some ⟨b, o, none⟩)) rfl hHeld ?_ (he := (fun W hW => by obtain ⟨e0, e1, e2, e3⟩ := hW; go_simp))
 refine hp 2 5 (.int .u8 x0) rfl hHeld ?_ (he := (fun W hW => by obtain ⟨e0, e1, e2, e3⟩ := hW; go_simp))
 refine hp 3 6 (.int .u32 ((x0 : Nat) : Int)) rfl hHeld ?_ (he := (fun W hW => by obtain ⟨e0, e1, e2, e3⟩ := hW; go_simp; exact Go.IntWalk.u32_in _ (by omega)))
 refine hp 4 7 (.int .u32 ((x0 * 16777216 : Nat) : Int)) rfl hHeld ?_ (he := (fun W hW => by go_simp; exact Go.IntWalk.u32_in _ (by omega)))
 refine hp 5 8 (.slice (some ⟨b, o, none⟩) 4 4) rfl hHeld ?_ (he := (fun W hW => by obtain ⟨e0, e1, e2, e3⟩ := hW; go_simp))
 refine hp 6 9 (.pointer (some ⟨b, o + 1, none⟩)) rfl hHeld ?_ (he := (fun W hW => by obtain ⟨e0, e1, e2, e3⟩ := hW; go_simp))
 refine hp 7 10 (.int .u8 x1) rfl hHeld ?_ (he := (fun W hW => by obtain ⟨e0, e1, e2, e3⟩ := hW; go_simp))
 refine hp 8 11 (.int .u32 ((x1 : Nat) : Int)) rfl hHeld ?_ (he := (fun W hW => by obtain ⟨e0, e1, e2, e3⟩ := hW; go_simp; exact Go.IntWalk.u32_in _ (by omega)))
 refine hp 9 12 (.int .u32 ((x1 * 65536 : Nat) : Int)) rfl hHeld ?_ (he := (fun W hW => by go_simp; exact Go.IntWalk.u32_in _ (by omega)))
 refine hp 10 13 (.int .u32 ((x0 * 16777216 + x1 * 65536 : Nat) : Int)) rfl hHeld ?_ (he := (fun W hW => by go_simp; have h := or_ok (x0 * 16777216) (x1 * 65536) x0 24 (by omega) (by omega) (by omega); simpa using h))
 refine hp 11 14 (.slice (some ⟨b, o, none⟩) 4 4) rfl hHeld ?_ (he := (fun W hW => by obtain ⟨e0, e1, e2, e3⟩ := hW; go_simp))
 refine hp 12 15 (.pointer (some ⟨b, o + 2, none⟩)) rfl hHeld ?_ (he := (fun W hW => by obtain ⟨e0, e1, e2, e3⟩ := hW; go_simp))
 refine hp 13 16 (.int .u8 x2) rfl hHeld ?_ (he := (fun W hW => by obtain ⟨e0, e1, e2, e3⟩ := hW; go_simp))
 refine hp 14 17 (.int .u32 ((x2 : Nat) : Int)) rfl hHeld ?_ (he := (fun W hW => by obtain ⟨e0, e1, e2, e3⟩ := hW; go_simp; exact Go.IntWalk.u32_in _ (by omega)))
 refine hp 15 18 (.int .u32 ((x2 * 256 : Nat) : Int)) rfl hHeld ?_ (he := (fun W hW => by go_simp; exact Go.IntWalk.u32_in _ (by omega)))
 refine hp 16 19 (.int .u32 ((x0 * 16777216 + x1 * 65536 + x2 * 256 : Nat) : Int)) rfl hHeld ?_ (he := (fun W hW => by go_simp; have h := or_ok (x0 * 16777216 + x1 * 65536) (x2 * 256) (x0 * 256 + x1) 16 (by omega) (by omega) (by omega); simpa using h))
 refine hp 17 20 (.slice (some ⟨b, o, none⟩) 4 4) rfl hHeld ?_ (he := (fun W hW => by obtain ⟨e0, e1, e2, e3⟩ := hW; go_simp))
 refine hp 18 21 (.pointer (some ⟨b, o + 3, none⟩)) rfl hHeld ?_ (he := (fun W hW => by obtain ⟨e0, e1, e2, e3⟩ := hW; go_simp))
 refine hp 19 22 (.int .u8 x3) rfl hHeld ?_ (he := (fun W hW => by obtain ⟨e0, e1, e2, e3⟩ := hW; go_simp))
 refine hp 20 23 (.int .u32 ((x3 : Nat) : Int)) rfl hHeld ?_ (he := (fun W hW => by obtain ⟨e0, e1, e2, e3⟩ := hW; go_simp; exact Go.IntWalk.u32_in _ (by omega)))
 refine hp 21 24 (.int .u32 ((x0 * 16777216 + x1 * 65536 + x2 * 256 + x3 : Nat) : Int)) rfl hHeld ?_ (he := (fun W hW => by go_simp; have h := or_ok (x0 * 16777216 + x1 * 65536 + x2 * 256) x3 (x0 * 65536 + x1 * 256 + x2) 8 (by omega) (by omega) (by omega); simpa using h))
 refine hp 22 2 (.int .u32 ((x0 * 16777216 + x1 * 65536 + x2 * 256 + x3 : Nat) : Int)) rfl hHeld ?_ (he := (fun W hW => by obtain ⟨e0, e1, e2, e3⟩ := hW; go_simp))
 refine wpAnyH_done (by kernel_rfl) ?_ _
 go_wp2_with fail
 go_ret
 exact ⟨rfl, (Chg.refl Non _).drew⟩
set_option maxRecDepth 100000 in
theorem within_load32 (b o : Nat) (l : List UInt8) (c a : Nat) (w : World) (hr : Rd w (some ⟨b, o, none⟩) l) (hc : l.length ≤ c) (hcm : c ≤ maxLen) (ht : there l a 4 = true) (q r s t : Nat) (hq : q < 256) (hrr : r < 256) (hs : s < 256) (htt : t < 256) (hcut : (cut l a 4).map UInt8.toNat = [q, r, s, t]) :
  Calls Tryz.prog 275 #[.slice (some ⟨b, o, none⟩) l.length c, .int .i64 a, .int .i64 (4 : Nat), .func (.func 276) #[] #[]] w fun e w' => e = .returned (.tuple #[.int .u32 ((q * 16777216 + r * 65536 + s * 256 + t : Nat) : Int), .int .i64 0]) ∧ Chg Non w w' := by
 obtain ⟨h1, h2⟩ := there_yes ht
 have hk := cut_len h2
 have b1 : decide ((l.length : Int) > 512) = false := by simp; omega
 have b2 : decide ((a : Int) > (l.length : Int)) = false := by simp; omega
 have b3 : decide ((4 : Int) > (l.length : Int) - (a : Int)) = false := by simp; omega
 have hrc := rd_cut hr a 4
 have hcell : ∀ i, i < 4 → w.cell? ⟨b, o + a + i, none⟩ = some (.int .u8 (([q, r, s, t].getD i 0 : Nat))) := by
  intro i hi
  rw [u8_cell hrc i (by omega), ← hcut]
  congr 3
  rw [List.getD_eq_getElem?_getD, List.getD_eq_getElem?_getD, List.getElem?_map, List.getElem?_eq_getElem (by omega)]
  rfl
 have c0 := hcell 0 (by omega)
 have c1 := hcell 1 (by omega)
 have c2 := hcell 2 (by omega)
 have c3 := hcell 3 (by omega)
 simp only [Nat.add_zero] at c0
 have HL := Lib.hid (load32_1_ok b (o + a) q r s t w hq hrr hs htt c0 c1 c2 c3)
 have g1 : (a : Int) + 4 ≤ (l.length : Int) := by omega
 clear hr ht hk hrc hcell c0 c1 c2 c3 hcut
 go_enter Tryz.func275, Tryz.ntmps275
 go_wp2_with fail
 refine HL.out.mono ?_
 rintro e w1 ⟨rfl, hg⟩
 have HG := Lib.hid hg
 clear hg
 go_wp2_with fail
 go_ret2
 exact ⟨rfl, HG.out⟩
theorem cut_four (l : List UInt8) (a : Nat) (h : a + 4 ≤ l.length) : ∃ q r s t : Nat, q < 256 ∧ r < 256 ∧ s < 256 ∧ t < 256 ∧ (cut l a 4).map UInt8.toNat = [q, r, s, t] ∧ num32 (cut l a 4) = q * 16777216 + r * 65536 + s * 256 + t := by
 have hl := cut_len h
 match hq : cut l a 4, hl with
 | [x0, x1, x2, x3], _ =>
  refine ⟨x0.toNat, x1.toNat, x2.toNat, x3.toNat, x0.toNat_lt, x1.toNat_lt, x2.toNat_lt, x3.toNat_lt, rfl, ?_⟩
  simp only [num32, List.foldl]
  omega
theorem cut_one (l : List UInt8) (a : Nat) (h : a + 1 ≤ l.length) : ∃ x : UInt8, cut l a 1 = [x] := by
 have hl := cut_len h
 match hq : cut l a 1, hl with
 | [x], _ => exact ⟨x, rfl⟩
set_option maxRecDepth 100000 in
theorem Read_yes (A : Option Addr) (l : List UInt8) (c a n : Nat) (w : World) (hr : Rd w A l) (hc : l.length ≤ c) (hcm : c ≤ maxLen) (hn : 0 < n) (ht : there l a n = true) :
  Calls Tryz.prog 232 #[.slice A l.length c, .int .i64 a, .int .i64 n] w fun e w' => ∃ A2 c2, e = .returned (.tuple #[.slice A2 n c2, .int .i64 0]) ∧ n ≤ c2 ∧ c2 ≤ maxLen ∧ Own w.heap.size w' A2 (cut l a n) ∧ Chg Non w w' := by
 obtain ⟨b, o, rfl, _⟩ := hr.at_ (by have := (there_yes ht).2; omega)
 have HW := Lib.hid (within_read b o l c a n w hr hc hcm hn ht)
 clear hr ht
 go_enter Tryz.func232, Tryz.ntmps232
 go_wp2_with fail
 refine HW.out.mono ?_
 rintro e w1 ⟨A2, c2, rfl, q1, q2, q3, q4⟩
 have Q3 := Lib.hid q3
 have Q4 := Lib.hid q4
 clear q3 q4
 go_wp2_with fail
 go_ret2
 exact ⟨A2, c2, rfl, q1, q2, Q3.out, Q4.out⟩
set_option maxRecDepth 100000 in
theorem Read_no (A : Option Addr) (l : List UInt8) (c a n : Nat) (w : World) (ha : (a : Int) ≤ 4294967295 * 3) (hn : (n : Int) ≤ 4294967295 * 3) (ht : there l a n = false) :
  Calls Tryz.prog 232 #[.slice A l.length c, .int .i64 a, .int .i64 n] w fun e w' => ∃ er : Int, (er == 0) = false ∧ e = .returned (.tuple #[.slice none 0 0, .int .i64 er]) ∧ w = w' := by
 have HW := Lib.hid (fun F => within_no_slice A l c a n F w ha hn ht)
 clear ht
 go_enter Tryz.func232, Tryz.ntmps232
 go_wp2_with fail
 refine (HW.out _).mono ?_
 rintro e w1 ⟨er, he, rfl, rfl⟩
 go_wp2_with fail
 go_ret2
 exact ⟨er, he, rfl, rfl⟩
set_option maxRecDepth 100000 in
theorem Load_no (A : Option Addr) (l : List UInt8) (c a : Nat) (w : World) (ha : (a : Int) ≤ 4294967295 * 3) (ht : there l a 1 = false) :
  Calls Tryz.prog 265 #[.slice A l.length c, .int .i64 a] w fun e w' => ∃ er : Int, (er == 0) = false ∧ e = .returned (.tuple #[.int .u8 0, .int .i64 er]) ∧ w = w' := by
 have HW := Lib.hid (fun F => within_no_byte A l c a 1 F w ha (by omega) ht)
 clear ht
 go_enter Tryz.func265, Tryz.ntmps265
 go_wp2_with fail
 refine (HW.out _).mono ?_
 rintro e w1 ⟨er, he, rfl, rfl⟩
 go_wp2_with fail
 go_ret2
 exact ⟨er, he, rfl, rfl⟩
set_option maxRecDepth 100000 in
theorem Load32_no (A : Option Addr) (l : List UInt8) (c a : Nat) (w : World) (ha : (a : Int) ≤ 4294967295 * 3) (ht : there l a 4 = false) :
  Calls Tryz.prog 268 #[.slice A l.length c, .int .i64 a] w fun e w' => ∃ er : Int, (er == 0) = false ∧ e = .returned (.tuple #[.int .u32 0, .int .i64 er]) ∧ w = w' := by
 have HW := Lib.hid (fun F => within_no_word A l c a 4 F w ha (by omega) ht)
 clear ht
 go_enter Tryz.func268, Tryz.ntmps268
 go_wp2_with fail
 refine (HW.out _).mono ?_
 rintro e w1 ⟨er, he, rfl, rfl⟩
 go_wp2_with fail
 go_ret2
 exact ⟨er, he, rfl, rfl⟩
set_option maxRecDepth 100000 in
theorem Load_yes (A : Option Addr) (l : List UInt8) (c a : Nat) (x : UInt8) (w : World) (hr : Rd w A l) (hc : l.length ≤ c) (hcm : c ≤ maxLen) (ht : there l a 1 = true) (hx : cut l a 1 = [x]) :
  Calls Tryz.prog 265 #[.slice A l.length c, .int .i64 a] w fun e w' => e = .returned (.tuple #[.int .u8 x.toNat, .int .i64 0]) ∧ w = w' := by
 obtain ⟨b, o, rfl, _⟩ := hr.at_ (by have := (there_yes ht).2; omega)
 have hcell := u8_cell (rd_cut hr a 1) 0 (by rw [hx]; simp)
 rw [hx, Nat.add_zero] at hcell
 have HW := Lib.hid (within_byte b o l c a 1 w hr hc hcm (by omega) ht (.int .u8 x.toNat) (load1_ok b (o + a) x.toNat w hcell))
 clear hr ht hcell
 go_enter Tryz.func265, Tryz.ntmps265
 go_wp2_with fail
 refine HW.out.mono ?_
 rintro e w1 ⟨rfl, rfl⟩
 go_wp2_with fail
 go_ret2
 exact ⟨rfl, rfl⟩
set_option maxRecDepth 100000 in
theorem Load32_yes (A : Option Addr) (l : List UInt8) (c a : Nat) (w : World) (hr : Rd w A l) (hc : l.length ≤ c) (hcm : c ≤ maxLen) (ht : there l a 4 = true) :
  Calls Tryz.prog 268 #[.slice A l.length c, .int .i64 a] w fun e w' => e = .returned (.tuple #[.int .u32 ((num32 (cut l a 4) : Nat) : Int), .int .i64 0]) ∧ Chg Non w w' := by
 obtain ⟨b, o, rfl, _⟩ := hr.at_ (by have := (there_yes ht).2; omega)
 obtain ⟨q, r, s, t, hq, hrr, hs, htt, hcut, hnum⟩ := cut_four l a (there_yes ht).2
 rw [hnum]
 have HW := Lib.hid (within_load32 b o l c a w hr hc hcm ht q r s t hq hrr hs htt hcut)
 clear hr ht hcut hnum
 go_enter Tryz.func268, Tryz.ntmps268
 go_wp2_with fail
 refine HW.out.mono ?_
 rintro e w1 ⟨rfl, hg⟩
 have HG := Lib.hid hg
 clear hg
 go_wp2_with fail
 go_ret2
 exact ⟨rfl, HG.out⟩
end
section
open Go.RowKit
set_option maxRecDepth 100000 in
theorem Write_yes (A : Option Addr) (l : List UInt8) (c a : Nat) (B : Option Addr) (y : List UInt8) (cy : Nat) (w : World) (hr : Rd w A l) (hry : Rd w B y) (hc : l.length ≤ c) (hcm : c ≤ maxLen) (hn : 0 < y.length) (ht : there l a y.length = true) :
  Calls Tryz.prog 52 #[.slice A l.length c, .int .i64 a, .slice B y.length cy] w fun e w' => ∃ A2 c2, e = .returned (.tuple #[.slice A2 l.length c2, .int .i64 0]) ∧ l.length ≤ c2 ∧ c2 ≤ maxLen ∧ Own w.heap.size w' A2 (put l a y) ∧ Chg Non w w' := by
 obtain ⟨h1, h2⟩ := there_yes ht
 obtain ⟨b, o, rfl, _⟩ := hr.at_ (by omega)
 have HR := Lib.hid hr
 have HRy := Lib.hid hry
 have hpl : (put l a y).length = l.length := put_len h2
 have HPl := Lib.hid hpl
 have HT := Lib.hid ht
 clear hr hry ht hpl
 go_enter Tryz.func52, Tryz.ntmps52
 go_wp2_with fail
 have hg0 : Chg Non w (((w.alloc (.cells #[.slice (some ⟨b, o, none⟩) l.length c] 50)).alloc (.cells #[.int .i64 a] 3)).alloc (.cells #[.slice B y.length cy] 50)) := (((Chg.refl Non w).alloc _).alloc _).alloc _
 have HG0 := Lib.hid hg0
 have hw := within_write b o l c a y.length _ (HR.out.non hg0) hc hcm hn HT.out (put l a y) (.pointer (some ⟨w.heap.size, 0, none⟩)) (.pointer (some ⟨w.heap.size + 1, 0, none⟩)) (.pointer (some ⟨w.heap.size + 1 + 1, 0, none⟩)) (fun v W hg => write1_ok b o l c a B y cy w.heap.size (w.heap.size + 1) (w.heap.size + 1 + 1) v W ((HR.out.non HG0.out).non hg) ((HRy.out.non HG0.out).non hg) hc hcm h1 h2 (hg.cell_some (row_cell (al_3_0 w _ _ _) rfl) (fun e => e)) (hg.cell_some (row_cell (al_3_1 w _ _ _) rfl) (fun e => e)) (hg.cell_some (row_cell (al_3_2 w _ _ _) rfl) (fun e => e)))
 rw [HPl.out] at hw
 have HW := Lib.hid hw
 clear hg0 hw
 refine HW.out.mono ?_
 rintro e w1 ⟨A2, c2, rfl, q1, q2, q3, q4⟩
 have Q3 := Lib.hid (q3.mono (show w.heap.size ≤ _ by simp; omega))
 have Q4 := Lib.hid (HG0.out.then_non q4)
 clear q3 q4
 go_wp2_with fail
 go_ret2
 exact ⟨A2, c2, rfl, q1, q2, Q3.out, Q4.out⟩
set_option maxRecDepth 100000 in
theorem Write_no (A : Option Addr) (l : List UInt8) (c a : Nat) (B : Option Addr) (n cy : Nat) (w : World) (ha : (a : Int) ≤ 4294967295 * 3) (hn : (n : Int) ≤ 4294967295 * 3) (ht : there l a n = false) :
  Calls Tryz.prog 52 #[.slice A l.length c, .int .i64 a, .slice B n cy] w fun e w' => ∃ er : Int, (er == 0) = false ∧ e = .returned (.tuple #[.slice none 0 0, .int .i64 er]) ∧ Chg Non w w' := by
 have HW := Lib.hid (fun F W => within_no_slice A l c a n F W ha hn ht)
 clear ht
 go_enter Tryz.func52, Tryz.ntmps52
 go_wp2_with fail
 refine (HW.out _ _).mono ?_
 rintro e w1 ⟨er, he, rfl, rfl⟩
 go_wp2_with fail
 go_ret2
 exact ⟨er, he, rfl, (((Chg.refl Non w).alloc _).alloc _).alloc _⟩
set_option maxRecDepth 100000 in
theorem Store_yes (A : Option Addr) (l : List UInt8) (c a x : Nat) (w : World) (hx : x < 256) (hr : Rd w A l) (hc : l.length ≤ c) (hcm : c ≤ maxLen) (ht : there l a 1 = true) :
  Calls Tryz.prog 267 #[.slice A l.length c, .int .i64 a, .int .u8 x] w fun e w' => ∃ A2 c2, e = .returned (.tuple #[.slice A2 l.length c2, .int .i64 0]) ∧ l.length ≤ c2 ∧ c2 ≤ maxLen ∧ Own w.heap.size w' A2 (put l a [UInt8.ofNat x]) ∧ Chg Non w w' := by
 have hb : Rd (w.alloc (.cells #[.int .u8 x] 5)) (some ⟨w.heap.size, 0, none⟩) [UInt8.ofNat x] := by
  intro i y hy
  refine ⟨_, _, rfl, ?_⟩
  have hi : i = 0 := by have := (List.getElem?_eq_some_iff.1 hy).1; simp at this; omega
  subst hi
  simp at hy
  subst hy
  rw [cell_of_one (heap_alloc_new _ _), UInt8.toNat_ofNat']
  congr 2
  omega
 have HW := Lib.hid (Write_yes A l c a (some ⟨w.heap.size, 0, none⟩) [UInt8.ofNat x] 1 (w.alloc (.cells #[.int .u8 x] 5)) (hr.non ((Chg.refl Non w).alloc _)) hb hc hcm (by simp) ht)
 clear hr hb ht
 go_enter Tryz.func267, Tryz.ntmps267
 go_wp2_with fail
 refine HW.out.mono ?_
 rintro e w1 ⟨A2, c2, rfl, q1, q2, q3, q4⟩
 have Q3 := Lib.hid (q3.mono (show w.heap.size ≤ _ by simp))
 have Q4 := Lib.hid (((Chg.refl Non w).alloc _).then_non q4)
 clear q3 q4
 go_wp2_with fail
 go_ret2
 exact ⟨A2, c2, rfl, q1, q2, Q3.out, Q4.out⟩
set_option maxRecDepth 100000 in
theorem Store_no (A : Option Addr) (l : List UInt8) (c a x : Nat) (w : World) (ha : (a : Int) ≤ 4294967295 * 3) (ht : there l a 1 = false) :
  Calls Tryz.prog 267 #[.slice A l.length c, .int .i64 a, .int .u8 x] w fun e w' => ∃ er : Int, (er == 0) = false ∧ e = .returned (.tuple #[.slice none 0 0, .int .i64 er]) ∧ Chg Non w w' := by
 have HW := Lib.hid (fun B cy W => Write_no A l c a B 1 cy W ha (by omega) ht)
 clear ht
 go_enter Tryz.func267, Tryz.ntmps267
 go_wp2_with fail
 refine (HW.out _ _ _).mono ?_
 rintro e w1 ⟨er, he, rfl, q4⟩
 have Q4 := Lib.hid (((Chg.refl Non w).alloc _).then_non q4)
 clear q4
 go_wp2_with fail
 go_ret2
 exact ⟨er, he, rfl, Q4.out⟩
end
end Go.Proofs.YtmnaleaghfbclaaGreatDoor
