/- KernelTime, part 10 of 28: contracts of the functions that it reaches, and the laws that they need, merged and shortened (from my texts XFresh, XMay, XDoP, XVmH, XVmI). -/
import Derived.Test.YtmnaleaghfbclaaGreatDoorMgKernelTimeA
import Derived.Test.YtmnaleaghfbclaaGreatDoorMgKernelTimeD
import Derived.Test.YtmnaleaghfbclaaGreatDoorMgKernelTimeE
import Derived.Test.YtmnaleaghfbclaaGreatDoorMgKernelTimeF
import Derived.Test.YtmnaleaghfbclaaGreatDoorMgKernelTimeI
import Derived.StillTailTactics
import Derived.Laws.BitsAllLaws
namespace Go.Proofs.YtmnaleaghfbclaaGreatDoor
set_option linter.unusedVariables false
set_option linter.unusedSimpArgs false
set_option maxHeartbeats 8000000
section
open Go.RowKit
theorem BytesV.bound {I : Nat → Prop} {w : World} {l : List UInt8} {v : Value} (h : BytesV I w l v) : BytesV (fun b => I b ∧ b < w.heap.size) w l v := by
 obtain ⟨A, c, h1, h2, h3, h4, h5⟩ := h
 refine ⟨A, c, h1, h2, h3, h4, fun b o e hl => ⟨h5 b o e hl, ?_⟩⟩
 subst e
 obtain ⟨b', o', e', hlt, _⟩ := h4.at_ (List.length_pos_iff.2 hl)
 injection e' with e'
 injection e' with e' _ _
 subst e'
 exact hlt
theorem ptV.bound {I : Nat → Prop} {w : World} {a : Pt} {vs : List Value} (h : ptV I w a vs) : ptV (fun b => I b ∧ b < w.heap.size) w a vs := by
 obtain ⟨m, h1, h2, h3⟩ := h
 exact ⟨m, h1, h2.bound, h3⟩
theorem msgV.bound {I : Nat → Prop} {w : World} {a : List UInt8} {vs : List Value} (h : msgV I w a vs) : msgV (fun b => I b ∧ b < w.heap.size) w a vs := by
 obtain ⟨m, h1, h2, h3⟩ := h
 exact ⟨m, h1, h2.bound, h3⟩
theorem rng_lt {w : World} {b o : Nat} {vs : List Value} (h : w.rangeAt b o vs) (h0 : 0 < vs.length) : b < w.heap.size := lt_of_cell (h 0 _ (List.getElem?_eq_getElem h0))
theorem SlV.bound {α : Type} {R R' : World → α → List Value → Prop} {I : Nat → Prop} {sz : Nat} {w : World} {l : List α} {v : Value} (hsz : 0 < sz) (h : SlV R I sz w l v) (hR : ∀ a vs, a ∈ l → R w a vs → R' w a vs) : SlV R' (fun b => I b ∧ b < w.heap.size) sz w l v := by
 obtain ⟨A, c, h1, h2, h3, h4⟩ := h
 refine ⟨A, c, h1, h2, h3, fun i a ha => ?_⟩
 obtain ⟨b, o, vs, e, hb, hl, hc, hr⟩ := h4 i a ha
 exact ⟨b, o, vs, e, ⟨hb, rng_lt hc (by omega)⟩, hl, hc, hR a vs (List.mem_of_getElem? ha) hr⟩
theorem quV.bound {I : Nat → Prop} {w : World} {a : Qu} {vs : List Value} (h : quV I w a vs) : quV (fun b => I b ∧ b < w.heap.size) w a vs := by
 obtain ⟨m, h1, h2, h3⟩ := h
 exact ⟨m, h1, h2.bound (by omega) (fun _ _ _ h => h.bound), h3⟩
theorem OwnL.mono {α : Type} {R R' : World → α → List Value → Prop} {B : Nat} {e : TypeId} {sz : Nat} {w : World} {v : Value} {l : List α} (h : OwnL R B e sz w v l) (hR : ∀ a vs, R w a vs → R' w a vs) : OwnL R' B e sz w v l := by
 obtain ⟨xss, h1, h2, h3, h4⟩ := h
 exact ⟨xss, h1, h2, h3, fun i a x ha hx => hR _ _ (h4 i a x ha hx)⟩
theorem OwnL.base {α : Type} {R : World → α → List Value → Prop} {B B' : Nat} {e : TypeId} {sz : Nat} {w : World} {v : Value} {l : List α} (h : OwnL R B e sz w v l) (hB : B' ≤ B) : OwnL R B' e sz w v l := by
 obtain ⟨xss, ⟨h1, h2⟩, h3⟩ := h
 refine ⟨xss, ⟨h1, ?_⟩, h3⟩
 rcases h2 with h0 | ⟨g, cap, cur, rfl, hb, hh, h4⟩
 ·exact .inl h0
 ·exact .inr ⟨g, cap, cur, rfl, by omega, hh, h4⟩
def Exc (B : Nat) (v : Value) : Nat → Prop := fun b => B ≤ b ∧ v.ownBlock ≠ some b
def freshP (a : Pn) : Pt := { id := a.id, size := a.size, keep := a.keep, r := List.replicate 8 0, pc := 0, st := 0, mem := fillL a.size.toNat a.img }
def freshQ (a : Ch) : Qu := ⟨a, []⟩
def freshS (c : Cfg) : Sta := ⟨0, c.ps.map freshP, c.cs.map freshQ⟩
theorem fits_part {c : Cfg} (h : fitsB c = true) {a : Pn} (ha : a ∈ c.ps) : ∃ n : Nat, a.size = n ∧ 16 ≤ n ∧ n ≤ 512 ∧ a.img.length ≤ n := by
 have h := (fits_iff.1 h).2.2.1
 unfold regionsBad at h
 rw [List.any_eq_false] at h
 have h := h a ha
 unfold regBad regMay at h
 simp at h
 refine ⟨a.size.toNat, ?_, ?_, ?_, ?_⟩ <;> omega
theorem fits_lens {c : Cfg} (h : fitsB c = true) : 1 ≤ c.ps.length ∧ c.ps.length ≤ 6 ∧ c.cs.length ≤ 8 := by
 obtain ⟨_, h2, _, _, h5⟩ := fits_iff.1 h
 unfold partsBad at h2
 unfold channelsBad at h5
 simp at h2 h5
 omega
theorem freshP_bd {a : Pn} (h : I64 a.id) (h2 : I64 a.size) : (freshP a).Bd := by
 refine ⟨by simp [freshP], fun i => ?_, by simp [freshP], by simp [freshP], h, h2⟩
 simp only [freshP, List.getD_eq_getElem?_getD, List.getElem?_replicate]
 split <;> simp
structure StaO (B : Nat) (w : World) (s : Sta) (b d : Value) : Prop where
 ps : OwnL (ptV (Exc B b)) B 69 14 w b s.parts
 qs : OwnL (quV (Exc B d)) B 95 6 w d s.queues
set_option maxRecDepth 100000 in
theorem fresh_ok (I : Nat → Prop) (w : World) (c : Cfg) (A1 A2 A3 : Option Addr) (c1 c2 c3 : Nat) (h : CfgR I w c A1 A2 A3 c1 c2 c3) (h20 : c.ps.length ≤ 1000) (hf : fitsB c = true) :
  Calls Tryz.prog 65 #[.agg #[.slice A1 c.ws.length c1, .slice A2 c.ps.length c2, .slice A3 c.cs.length c3]] w fun e w' => ∃ b d, e = .returned (.tuple #[.agg #[.int .i64 0, b, d], .int .i64 0]) ∧ StaO w.heap.size w' (freshS c) b d ∧ Chg Non w w' := by
 have HFt := Lib.hid (fun W (hg : Chg Non w W) => fits_ok I W c A1 A2 A3 c1 c2 c3 (h.non hg) h20)
 have HC := Lib.hid h
 have HP := Lib.hid (fun a (ha : a ∈ c.ps) => fits_part hf ha)
 have hl8 := (fits_lens hf).2.2
 rw [hf] at HFt
 clear h hf
 go_enter Tryz.func65, Tryz.ntmps65
 go_wp2_with fail
 refine (HFt.out _ (((Chg.refl Non w).alloc _).alloc _)).mono ?_
 rintro e u ⟨rfl, hg⟩
 obtain ⟨hb0, hb1, hlt, hgw⟩ := blk_call2 hg
 have HCu := Lib.hid (HC.out.non hgw)
 have k1 := blk_cell hb0 1 (v := .slice A2 c.ps.length c2) rfl
 have k2 := blk_cell hb0 2 (v := .slice A3 c.cs.length c3) rfl
 have hlt0 : w.heap.size < u.heap.size := by omega
 have HB0 := Lib.hid hb0
 have HB1 := Lib.hid hb1
 have HGW := Lib.hid hgw
 clear hg hb0 hb1 hgw
 have HV := Lib.hid ((Chg.refl Non u).alloc (.cells #[.int .i64 0, .slice none 0 0, .slice none 0 0] 30))
 go_wp2_with fail
 obtain ⟨v0, hv0⟩ : ∃ v, v = u.alloc (.cells #[.int .i64 0, .slice none 0 0, .slice none 0 0] 30) := ⟨_, rfl⟩
 rw [← hv0] at HV ⊢
 go_loopw [18] (fun iv wr => ∃ (k : Nat) (lv : Value), k ≤ c.ps.length ∧ iv = .int .i64 k ∧ Hid (OwnL (ptV (Exc (u.heap.size + 1) lv)) (u.heap.size + 1) 69 14 wr lv ((c.ps.take k).map freshP)) ∧ Hid (Chg (fun b => b = u.heap.size) v0 wr) ∧ Hid (wr.heap[u.heap.size]? = some (.cells #[.int .i64 0, lv, .slice none 0 0] 30 (0, 0)))) (fun iv _ => c.ps.length - (intOf iv).toNat)
 case atStart => exact ⟨0, _, Nat.zero_le _, rfl, Lib.hid (OwnL.nil _ _ _ _ _), Lib.hid (Chg.refl _ _), Lib.hid (by rw [hv0]; exact blk_new _ _)⟩
 case round =>
  obtain ⟨k, lv, hk, rfl, HO, HG, HB⟩ := hrel
  have HGu := Lib.hid (HV.out.then_new HG.out (fun x e => Nat.le_of_eq e.symm))
  have hlu := blk_lt HB.out
  by_cases hlt : k < c.ps.length
  ·obtain ⟨a, ha⟩ : ∃ a, c.ps[k]? = some a := ⟨_, List.getElem?_eq_getElem hlt⟩
   obtain ⟨b, o, m, rfl, k0, k1, k2, k3, k4, hbm, i1, i2, i3, hil, hbl⟩ := pn_at HCu.out.ps HGu.out ha
   have hltd : decide ((k : Int) < (c.ps.length : Int)) = true := by simpa using hlt
   obtain ⟨n, hn, hn1, hn2, hn3⟩ := HP.out a (List.mem_of_getElem? ha)
   have HS : Hid ((c.ps.take (k + 1)).map freshP = (c.ps.take k).map freshP ++ [freshP a]) := Lib.hid (by
     obtain ⟨hk, rfl⟩ := List.getElem?_eq_some_iff.1 ha
     rw [List.take_succ_eq_append_getElem hk, List.map_append]
     rfl)
   have hbd := Lib.hid (freshP_bd i1 i3)
   clear ha i1 i2 i3
   obtain ⟨x, y, z, kp, im⟩ := a
   simp only at k0 k1 k2 k3 k4 hbm hn hn3 hil
   subst hn
   have HBm := Lib.hid hbm
   obtain ⟨A4, c4, rfl, _⟩ := hbm
   go_wp2_with fail
   refine (fill_ok I n im _ _ (HBm.out.non ((Chg.refl _ _).alloc _)) hn2 hn3).mono ?_
   rintro e u3 ⟨m, rfl, hm, hg⟩
   have hb := blk_call hg
   have HGn := Lib.hid (((Chg.refl Non wr).alloc _).then_non hg)
   have HM := Lib.hid (hm.mono (I' := fun b => wr.heap.size ≤ b) (fun b (h : _ ≤ b) => by simp at h; omega))
   have m0 := blk_cell hb 0 (v := .int .i64 x) rfl
   have m2 := blk_cell hb 2 (v := .int .i64 n) rfl
   have m3 := blk_cell hb 3 (v := .bool kp) rfl
   have HB3 := Lib.hid (blk_keep HB.out HGn.out (fun e => e))
   have HO3 := Lib.hid (HO.out.non HGn.out (fun a vs h => h.keep HGn.out (fun _ _ e => e)))
   have f1 := blk_cell HB3.out 1 (v := lv) rfl
   have hlu3 := blk_lt HB3.out
   have hsz3 := HGn.out.size
   obtain ⟨A5, c5, rfl, hc5, hm5, _⟩ := hm
   clear hb hg HB k0 k1 k2 k3 k4
   go_wp2_with (first
     | (refine sel (some 41) (.build 69 _) ?_; refine wpList_valA rfl (some 41) (.agg #[.int .i64 x, .int .i64 n, .bool kp, .int .u32 0, .int .u32 0, .int .u32 0, .int .u32 0, .int .u32 0, .int .u32 0, .int .u32 0, .int .u32 0, .int .u32 0, .int .u8 0, .slice A5 (fillL n im).length c5]) rfl (by kernel_rfl) ?_)
     | (refine sel (some 43) (.call _) ?_; refine Vm_stop ?_))
   refine HoleV.mk ?_
   refine wpList_snocL (ptV (fun b => Exc (u.heap.size + 1) lv b ∧ b < u3.heap.size)) rfl (.tmp 32) (.tmp 42) 27 rfl (u.heap.size + 1) 69 _ 14 88 Tryz.underlying27 info_clPt rfl (by omega) lv ((c.ps.take k).map freshP) rfl ((HO3.out.mono (fun _ _ h => h.bound)).non ((Chg.refl Non u3).alloc _) (fun _ _ h => h.keep ((Chg.refl Non u3).alloc _) (fun _ _ e => e))) u3.heap.size (freshP ⟨x, y, n, kp, im⟩) #[.int .i64 x, .int .i64 n, .bool kp, .int .u32 0, .int .u32 0, .int .u32 0, .int .u32 0, .int .u32 0, .int .u32 0, .int .u32 0, .int .u32 0, .int .u32 0, .int .u8 0, .slice A5 (fillL n im).length c5] 69 rfl (blk_new _ _) rfl (by simp [Value.oneCell']) ?_ (by omega) (by simp; omega) (fun _ _ _ hg h => h.keep hg (fun b e => e.1.2)) ?_ ?_
   ·rw [List.length_map, List.length_take]; omega
   ·exact ⟨_, rfl, (HM.out.bound.non ((Chg.refl Non u3).alloc _)).mono (fun b e => ⟨⟨Nat.le_trans hlu e.1, fun e2 => by have := (HO.out.ge e2).2; omega⟩, e.2⟩), hbd.out, by have := fillL_len hn3; simp only [freshP, Int.toNat_natCast]; omega⟩
   intro v2 w2 ho hg hv
   have HO2 : Hid (OwnL (ptV (Exc (u.heap.size + 1) v2)) (u.heap.size + 1) 69 14 w2 v2 ((c.ps.take (k + 1)).map freshP)) := Lib.hid (by
     rw [HS.out]
     refine ho.mono (fun a vs h => h.mono (fun b e => ⟨e.1.1, fun e2 => ?_⟩))
     rcases hv b e2 with e3 | e3
     · exact e.1.2 e3
     · have := e.2; simp at e3; omega)
   have HG2 : Hid (Chg (fun b => b = u.heap.size) v0 w2) := Lib.hid (((HG.out.then_non HGn.out).alloc _).then_new hg (fun x e => by have := (HO.out.ge e).1; rw [hv0]; simp; omega))
   have HB2 := Lib.hid (blk_keep (blk_keep HB3.out ((Chg.refl Non _).alloc _) (fun e => e)) hg (fun e => by have := (HO.out.ge e).1; omega))
   have f2 := blk_free HB2.out 1
   have f3 := blk_cell HB2.out 1 (v := lv) rfl
   obtain ⟨A6, c6, hv6, hl6, hm6, _⟩ := ho.rd
   obtain ⟨n6, hn6⟩ : ∃ q, ((c.ps.take k).map freshP ++ [freshP ⟨x, y, n, kp, im⟩]).length = q := ⟨_, rfl⟩
   rw [hn6] at hv6
   subst hv6
   clear ho hg hv m0 m2 m3 f1
   go_wp2_with fail
   have hst := chg_set w2 u.heap.size 1 (.slice A6 n6 c6)
   exact ⟨⟨k + 1, _, by omega, by simp, Lib.hid (HO2.out.keep hst (fun g e e2 => by have := (HO2.out.ge e).1; omega) (fun a vs h => h.keep hst (fun b e e2 => by have := e.1; omega))), Lib.hid (HG2.out.trans_same hst), Lib.hid (blk_set 1 _ HB2.out)⟩, by simp [intOf]; omega⟩
  ·obtain rfl : k = c.ps.length := by omega
   have hltd : decide ((c.ps.length : Int) < (c.ps.length : Int)) = false := by simp
   rw [List.take_length] at HO
   have hc0 := blk_cell (blk_keep HB0.out HGu.out (fun e => e)) 2 (v := .slice A3 c.cs.length c3) rfl
   have hw0 : w.heap.size < wr.heap.size := by omega
   go_wp2_with fail
   obtain ⟨w1, hw1⟩ : ∃ x, x = wr := ⟨_, rfl⟩
   subst hw1
   go_loopw [49] (fun iv wr => ∃ (k : Nat) (lq : Value), k ≤ c.cs.length ∧ iv = .int .i64 k ∧ Hid (OwnL (quV Non) w1.heap.size 95 6 wr lq ((c.cs.take k).map freshQ)) ∧ Hid (Chg (fun b => b = u.heap.size) w1 wr) ∧ Hid (wr.heap[u.heap.size]? = some (.cells #[.int .i64 0, lv, lq] 30 (0, 0)))) (fun iv _ => c.cs.length - (intOf iv).toNat)
   case atStart => exact ⟨0, _, Nat.zero_le _, rfl, Lib.hid (OwnL.nil _ _ _ _ _), Lib.hid (Chg.refl _ _), HB⟩
   case round =>
    obtain ⟨k, lq, hk, rfl, HO2, HG2, HB2⟩ := hrel
    have HG2u := Lib.hid (HGu.out.then_new HG2.out (fun x e => Nat.le_of_eq e.symm))
    have hlu2 := blk_lt HB2.out
    have hw12 := HG2.out.size
    by_cases hlt : k < c.cs.length
    ·obtain ⟨a, ha⟩ : ∃ a, c.cs[k]? = some a := ⟨_, List.getElem?_eq_getElem hlt⟩
     obtain ⟨b, o, rfl, k0, k1, k2, k3, k4, hbd, hbl⟩ := ch_at HCu.out.cs HG2u.out ha
     have hltd : decide ((k : Int) < (c.cs.length : Int)) = true := by simpa using hlt
     have HS : Hid ((c.cs.take (k + 1)).map freshQ = (c.cs.take k).map freshQ ++ [freshQ a]) := Lib.hid (by
       obtain ⟨hk, rfl⟩ := List.getElem?_eq_some_iff.1 ha
       rw [List.take_succ_eq_append_getElem hk, List.map_append]
       rfl)
     have f1 := blk_cell HB2.out 2 (v := lq) rfl
     have HBD := Lib.hid hbd
     clear ha hbd
     obtain ⟨x1, x2, x3, x4, x5⟩ := a
     simp only at k0 k1 k2 k3 k4
     go_wp2_with (first
       | (refine sel (some 56) (.build 95 _) ?_; refine wpList_valA rfl (some 56) (.agg #[.int .i64 x1, .int .i64 x2, .int .i64 x3, .int .i64 x4, .int .i64 x5, .slice none 0 0]) rfl (by kernel_rfl) ?_)
       | (refine sel (some 58) (.call _) ?_; refine Vm_stop ?_))
     refine HoleV.mk ?_
     refine wpList_snocL (quV Non) rfl (.tmp 54) (.tmp 57) 28 rfl w1.heap.size 95 _ 6 64 Tryz.underlying28 info_clQu rfl (by omega) lq ((c.cs.take k).map freshQ) rfl (HO2.out.non (((Chg.refl Non wr).alloc _).alloc _) (fun _ _ h => h.keep (((Chg.refl Non wr).alloc _).alloc _) (fun _ _ e => e))) (wr.heap.size + 1) (freshQ ⟨x1, x2, x3, x4, x5⟩) #[.int .i64 x1, .int .i64 x2, .int .i64 x3, .int .i64 x4, .int .i64 x5, .slice none 0 0] 95 rfl (heap_alloc2_new _ _ _) rfl (by simp [Value.oneCell']) ?_ (by omega) (by simp; omega) (fun _ _ _ hg h => h.keep hg (fun b e => e.elim)) ?_ ?_
     ·rw [List.length_map, List.length_take]; omega
     ·exact ⟨_, rfl, ⟨none, 0, rfl, Nat.le_refl _, by simp, RdL.nil _ _ _ _ _⟩, HBD.out, by simp [freshQ]⟩
     intro v2 w2 ho hg hv
     have HO3 : Hid (OwnL (quV Non) w1.heap.size 95 6 w2 v2 ((c.cs.take (k + 1)).map freshQ)) := Lib.hid (by rw [HS.out]; exact ho)
     have HG3 : Hid (Chg (fun b => b = u.heap.size) w1 w2) := Lib.hid (((HG2.out.alloc _).alloc _).then_new hg (fun x e => (HO2.out.ge e).1))
     have HB3 := Lib.hid (blk_keep (blk_keep HB2.out (((Chg.refl Non _).alloc _).alloc _) (fun e => e)) hg (fun e => by have := (HO2.out.ge e).1; omega))
     have f2 := blk_free HB3.out 2
     have f3 := blk_cell HB3.out 2 (v := lq) rfl
     obtain ⟨A6, c6, hv6, hl6, hm6, _⟩ := ho.rd
     obtain ⟨n6, hn6⟩ : ∃ q, ((c.cs.take k).map freshQ ++ [freshQ ⟨x1, x2, x3, x4, x5⟩]).length = q := ⟨_, rfl⟩
     rw [hn6] at hv6
     subst hv6
     clear ho hg hv k0 k1 k2 k3 k4 f1
     go_wp2_with fail
     have hst := chg_set w2 u.heap.size 2 (.slice A6 n6 c6)
     exact ⟨⟨k + 1, _, by omega, by simp, Lib.hid (HO3.out.keep hst (fun g e e2 => by have := (HO3.out.ge e).1; omega) (fun a vs h => h.keep hst (fun b e e2 => e))), Lib.hid (HG3.out.trans_same hst), Lib.hid (blk_set 2 _ HB3.out)⟩, by simp [intOf]; omega⟩
    ·obtain rfl : k = c.cs.length := by omega
     have hltd : decide ((c.cs.length : Int) < (c.cs.length : Int)) = false := by simp
     rw [List.take_length] at HO2
     have hb0 := blk_keep HB1.out HG2u.out (fun e => e)
     have HR := Lib.hid hb0
     have HOp := Lib.hid (HO.out.keep HG2.out (fun g e e2 => by have := (HO.out.ge e).1; omega) (fun a vs h => h.keep HG2.out (fun b e e2 => by have := e.1; omega)))
     have s0 := blk_cell HB2.out 0 (v := .int .i64 0) rfl
     have s1 := blk_cell HB2.out 1 (v := lv) rfl
     have s2 := blk_cell HB2.out 2 (v := lq) rfl
     have o1 : lv.oneCell' = true := by obtain ⟨A, c, e, _⟩ := HO.out.rd; rw [e]; rfl
     have o2 : lq.oneCell' = true := by obtain ⟨A, c, e, _⟩ := HO2.out.rd; rw [e]; rfl
     have hu0 := HGW.out.size
     clear hb0
     go_wp2_with (refine sel none (.store 30 (.tmp 2) (.tmp 61)) ?_
                  refine wpList_store_rowA rfl 30 (.tmp 2) (.tmp 61) rfl (w.heap.size + 1) #[.int .i64 0, lv, lq] rfl rfl 30 _ HR.out (by kernel_rfl) rfl (by simp [Value.oneCell']; exact ⟨o1, o2⟩) ?_
                  intro W hgW hbW)
     have HW1 := Lib.hid (HOp.out.keep hgW (fun g e e2 => by have := (HOp.out.ge e).1; omega) (fun a vs h => h.keep hgW (fun b e e2 => by have := e.1; omega)))
     have HW2 := Lib.hid (HO2.out.keep hgW (fun g e e2 => by have := (HO2.out.ge e).1; omega) (fun a vs h => h.keep hgW (fun b e e2 => e)))
     have HWG := Lib.hid ((HGW.out.then_non HG2u.out).then_new hgW (fun x e => by omega))
     exact bodyPost_ret (res_ct Tryz.results65 _ _ (w.heap.size + 1) 30 #[.int .i64 0, lv, lq] (0, 0) _ _ rfl rfl hbW Tryz.underlying30 rfl (by kernel_rfl)) (by kernel_rfl) ⟨lv, lq, rfl, ⟨(HW1.out.base (by omega)).mono (fun _ _ h => h.mono (fun b e => ⟨by have := e.1; omega, e.2⟩)), (HW2.out.base (by omega)).mono (fun _ _ h => h.mono (fun b e => e.elim))⟩, HWG.out⟩
end
section
open Go.RowKit
def partOk (p : Pt) : Bool := decide (1 ≤ p.id) && decide (p.id ≤ 6) && regMay 0 p.size && decide ((p.mem.length : Int) = p.size) && decide ((p.st : Int) ≤ 4)
set_option maxRecDepth 100000 in
theorem spart_ok (p : Pt) (A : Option Addr) (c : Nat) (w : World) (h8 : p.r.length = 8) :
  Calls Tryz.prog 124 #[.agg (partC p (.slice A p.mem.length c))] w fun e w' => e = .returned (.bool (partOk p)) ∧ Chg Non w w' := by
 have HM := Lib.hid (fun W => regMay_ok 0 p.size W)
 have HE : Hid (partOk p = (decide (1 ≤ p.id) && decide (p.id ≤ 6) && regMay 0 p.size && decide ((p.mem.length : Int) = p.size) && decide ((p.st : Int) ≤ 4))) := Lib.hid rfl
 obtain ⟨C, hC⟩ : ∃ C, partC p (.slice A p.mem.length c) = C := ⟨_, rfl⟩
 have hb : PartB (w.alloc (.cells C 69)) w.heap.size p (.slice A p.mem.length c) := ⟨by unfold PartAt; rw [hC]; exact blk_new _ _, h8⟩
 have HB := Lib.hid hb
 obtain ⟨k0, k1, _, _, k12, k13⟩ := hb.cells
 rw [hC]
 obtain ⟨i, s, kp, r, pc, st, mem⟩ := p
 simp only at *
 obtain ⟨m, hm⟩ : ∃ m, regMay 0 s = m := ⟨_, rfl⟩
 obtain ⟨n, hn⟩ : ∃ n, mem.length = n := ⟨_, rfl⟩
 rw [hn] at k13 HB HE
 rw [hm] at HM HE
 clear hm hn hC hb
 by_cases h1 : 1 ≤ i
 ·by_cases h2 : i ≤ 6
  ·have d1 : decide (1 ≤ i) = true := by simpa using h1
   have d2 : decide (i ≤ 6) = true := by simpa using h2
   go_enter Tryz.func124, Tryz.ntmps124
   go_wp2_with fail
   refine (HM.out _).mono ?_
   rintro e u ⟨rfl, hg⟩
   have HB2 := Lib.hid (HB.out.non hg)
   obtain ⟨k0, k1, _, _, k12, k13⟩ := HB2.out.cells
   have HG := Lib.hid (((Chg.refl Non w).alloc _).then_non hg)
   clear hg HB
   go_wp2_with fail
   all_goals go_ret
   all_goals refine ⟨ret_b ?_, HG.out⟩
   all_goals rw [HE.out, Bool.eq_iff_iff]
   all_goals first
    | (simp_all; done)
    | (simp_all; omega)
    | trace_state
  ·have d1 : decide (1 ≤ i) = true := by simpa using h1
   have d2 : decide (i ≤ 6) = false := by simpa using h2
   go_enter Tryz.func124, Tryz.ntmps124
   go_wp2_with fail
   go_ret
   exact ⟨ret_b (by rw [HE.out, d1, d2]; rfl), (Chg.refl Non w).alloc _⟩
 ·have d1 : decide (1 ≤ i) = false := by simpa using h1
  go_enter Tryz.func124, Tryz.ntmps124
  go_wp2_with fail
  go_ret
  exact ⟨ret_b (by rw [HE.out, d1]; rfl), (Chg.refl Non w).alloc _⟩
theorem msgV_non {I : Nat → Prop} : ∀ W W' a vs, Chg Non W W' → msgV I W a vs → msgV I W' a vs := fun _ _ _ _ hg h => h.keep hg (fun _ _ e => e)
theorem quV_non {I : Nat → Prop} : ∀ W W' a vs, Chg Non W W' → quV I W a vs → quV I W' a vs := fun _ _ _ _ hg h => h.keep hg (fun _ _ e => e)
theorem ptV_non {I : Nat → Prop} : ∀ W W' a vs, Chg Non W W' → ptV I W a vs → ptV I W' a vs := fun _ _ _ _ hg h => h.keep hg (fun _ _ e => e)
theorem SlV.non {α : Type} {R : World → α → List Value → Prop} {I : Nat → Prop} {sz : Nat} {w w' : World} {l : List α} {v : Value} (h : SlV R I sz w l v) (hg : Chg Non w w') (hR : ∀ a vs, R w a vs → R w' a vs) : SlV R I sz w' l v := h.keep hg (fun _ _ e => e) (fun a vs _ => hR a vs)
set_option maxRecDepth 100000 in
theorem long_ok (size : Int) (A : Option Addr) (n c g : Nat) (w : World) (h : w.cell? ⟨g, 4, none⟩ = some (.int .i64 size)) :
  Calls Tryz.prog 142 #[.slice A n c, .pointer (some ⟨g, 0, none⟩)] w fun e w' => e = .returned (.bool (decide (size < (n : Int)))) ∧ Chg Non w w' := by
 go_enter Tryz.func142, Tryz.ntmps142
 go_wp2_with fail
 go_ret
 exact ⟨rfl, Chg.refl _ _⟩
def mayQ (q : Qu) : Bool := q.ch.may && decide ((q.msgs.length : Int) ≤ q.ch.cap) && !q.msgs.any fun m => decide (q.ch.size < (m.length : Int))
set_option maxRecDepth 100000 in
theorem mayQueue_ok (I : Nat → Prop) (q : Qu) (v : Value) (w : World) (h : SlV (msgV I) I 1 w q.msgs v) :
  Calls Tryz.prog 125 #[.agg (q.L v).toArray] w fun e w' => e = .returned (.bool (mayQ q)) ∧ Chg Non w w' := by
 obtain ⟨A, c, rfl, hc, hcm, hr⟩ := h
 have HR := Lib.hid hr
 have HM := Lib.hid (fun W => chMay_ok q.ch.id q.ch.src q.ch.dst q.ch.cap q.ch.size W)
 have HE : Hid (mayQ q = (q.ch.may && decide ((q.msgs.length : Int) ≤ q.ch.cap) && !q.msgs.any fun m => decide (q.ch.size < (m.length : Int)))) := Lib.hid rfl
 have HA := Lib.hid (fun W (hg : Chg Non w W) g (hb : ∀ W', Chg Non W W' → W'.cell? ⟨g, 4, none⟩ = some (.int .i64 q.ch.size)) => anyMay (msgV I) I msgV_non (fun m => decide (q.ch.size < (m.length : Int))) (.pointer (some ⟨g, 0, none⟩)) A q.msgs c W (hr.non hg (fun a vs h => msgV_non _ _ _ _ hg h)) (by
   rintro W' a vs hg2 ha ⟨m, rfl, ⟨A2, c2, rfl, _⟩, _⟩
   exact long_ok q.ch.size A2 a.length c2 g W' (hb W' hg2)) hc hcm)
 clear hr
 obtain ⟨⟨i, s, d, cap, sz⟩, ms⟩ := q
 simp only [Ch.may] at *
 obtain ⟨m, hm⟩ : ∃ m, chMay i s d cap sz = m := ⟨_, rfl⟩
 obtain ⟨x, hx⟩ : ∃ x, (ms.any fun m => decide (sz < (m.length : Int))) = x := ⟨_, rfl⟩
 rw [hx] at HE
 simp only [hx] at HA
 rw [hm] at HM HE
 clear hm hx
 show Calls _ _ #[.agg #[.int .i64 i, .int .i64 s, .int .i64 d, .int .i64 cap, .int .i64 sz, .slice A ms.length c]] _ _
 go_enter Tryz.func125, Tryz.ntmps125
 go_wp2_with fail
 refine (HM.out _).mono ?_
 rintro e u ⟨rfl, hg⟩
 have hb := blk_call hg
 have HB := Lib.hid hb
 have HG := Lib.hid (((Chg.refl Non w).alloc _).then_non hg)
 have k3 := blk_cell hb 3 (v := .int .i64 cap) rfl
 have k5 := blk_cell hb 5 (v := .slice A ms.length c) rfl
 clear hg hb
 cases m with
 | false =>
  go_wp2_with fail
  go_ret
  exact ⟨ret_b (by rw [HE.out]; rfl), HG.out⟩
 | true =>
  by_cases h1 : (ms.length : Int) ≤ cap
  ·have d1 : decide ((ms.length : Int) ≤ cap) = true := by simpa using h1
   go_wp2_with fail
   refine (HA.out _ HG.out _ (fun W' hg => blk_cell (blk_keep HB.out hg (fun e => e)) 4 (v := .int .i64 sz) rfl)).mono ?_
   rintro e u2 ⟨rfl, hg⟩
   have HG2 := Lib.hid (HG.out.then_non hg)
   clear hg
   go_wp2_with fail
   go_ret
   exact ⟨ret_b (by rw [HE.out, d1]; simp), HG2.out⟩
  ·have d1 : decide ((ms.length : Int) ≤ cap) = false := by simpa using h1
   go_wp2_with fail
   go_ret
   exact ⟨ret_b (by rw [HE.out, d1]; rfl), HG.out⟩
end
section
open Go.RowKit
structure Wld where
 frames : Int
 tick : Int
 ver : Int
 qs : List Qu
 inp : List UInt8
def qidP (id : Nat) : Qu → Bool := fun q => decide (q.ch.id = (id : Int))
def putQ (q : Qu) (m : List UInt8) : Qu := { q with msgs := (if (q.msgs.length : Int) = q.ch.cap then q.msgs.drop 1 else q.msgs) ++ [m] }
def low32 (n : Int) : Nat := (n % 4294967296).toNat
def sendV (p : Pt) (w : Wld) : Bool × Wld :=
 let i := idxOf (qidP (p.g 0)) w.qs
 match (if i < 0 then none else w.qs[i.toNat]?) with
 | none => (false, w)
 | some q =>
  if there p.mem (p.g 1) (p.g 2) = true ∧ q.ch.src = p.id ∧ (p.g 2 : Int) ≤ q.ch.size then
   (true, { w with qs := w.qs.set i.toNat (putQ q (cut p.mem (p.g 1) (p.g 2))) })
  else (false, w)
def recvV (p : Pt) (w : Wld) : Bool × Pt × Wld :=
 let i := idxOf (qidP (p.g 0)) w.qs
 match (if i < 0 then none else w.qs[i.toNat]?) with
 | none => (false, p, w)
 | some q =>
  if there p.mem (p.g 1) (p.g 2) = true ∧ q.ch.dst = p.id then
   match q.msgs with
   | [] => (true, p.set 0 0, w)
   | m :: rest => (true, ({ p with mem := put p.mem (p.g 1) (m.take (p.g 2)) } : Pt).set 0 ((m.length + 1) % 4294967296), { w with qs := w.qs.set i.toNat { q with msgs := rest } })
  else (false, p, w)
def inputV (p : Pt) (w : Wld) : Pt × Wld :=
 match w.inp with
 | [] => (p.set 0 0, w)
 | x :: r => (p.set 0 (x.toNat + 1), { w with inp := r })
def doV (n : Int) (p : Pt) (w : Wld) : Pt × Wld × Bool :=
 if n = 0 then (p, w, true)
 else if n = 1 then (if (sendV p w).1 = true then (p, (sendV p w).2, false) else ({ p with st := 4 }, w, false))
 else if n = 2 then (if (recvV p w).1 = true then ((recvV p w).2.1, (recvV p w).2.2, false) else ({ p with st := 4 }, w, false))
 else if n = 3 then ((p.set 0 (low32 w.frames)).set 1 (low32 w.tick), w, false)
 else if n = 4 then ((inputV p w).1, (inputV p w).2, false)
 else if n = 5 then ((p.set 0 (low32 p.id)).set 1 (low32 w.ver), w, false)
 else if n = 6 then ({ p with st := 1 }, w, false)
 else ({ p with st := 4 }, w, false)
end
section
open Go.RowKit
set_option maxRecDepth 100000 in
theorem set_ok (b : Nat) (p : Pt) (m : Value) (op a b2 c n : Nat) (w : World) (hp : PartB w b p m) (ha : a < 8) (hn : n < 65536) :
  Calls Tryz.prog 241 #[.pointer (some ⟨b, 0, none⟩), .agg #[.int .u8 op, .int .u8 a, .int .u8 b2, .int .u8 c, .int .i64 n]] w fun e w' => e = .returned (.bool true) ∧ PartB w' b (p.set a (n)) m ∧ Chg (fun k => k = b) w w' := by
 have hai : (a : Int) < 8 := by omega
 have hlt0 := hp.lt
 have hg : Chg Non w (w.alloc (.cells #[.int .u8 op, .int .u8 a, .int .u8 b2, .int .u8 c, .int .i64 n] 143)).drew := ((Chg.refl Non w).alloc _).drew
 have hp2 := hp.non hg
 obtain ⟨⟨z, c0, c1, c2, c3, c4⟩, _⟩ := (Blk5.mk (blockN ((Chg.refl Non _).drew) (heap_alloc_new w (.cells #[.int .u8 op, .int .u8 a, .int .u8 b2, .int .u8 c, .int .i64 n] 143)))).all
 clear hp
 go_enter Tryz.func241, Tryz.ntmps241
 go_wp2_with fail
 refine wp_region_still_tail 9 (by kernel_rfl) (by kernel_rfl) ?_
 simp only [List.take_succ_cons, List.take_zero, List.drop_succ_cons, List.drop_zero]
 change wpStill _ _ (w.alloc (.cells #[.int .u8 op, .int .u8 a, .int .u8 b2, .int .u8 c, .int .i64 n] 143)).drew (fun a' => wpList _ _ _ _ a' (w.alloc (.cells #[.int .u8 op, .int .u8 a, .int .u8 b2, .int .u8 c, .int .i64 n] 143)).drew) _ _
 generalize (w.alloc (.cells #[.int .u8 op, .int .u8 a, .int .u8 b2, .int .u8 c, .int .i64 n] 143)).drew = w2 at hg hp2 z c0 c1 c2 c3 c4 ⊢
 have HP := Lib.hid hp2
 have HG := Lib.hid hg
 have hlt := hp2.lt
 have hf := hp2.frozen (3 + a)
 have hca := hp2.reg a ha
 clear hp2 hg
 repeat still_step
 refine wpStill_nil ?_
 go_wp2_with fail
 go_ret
 exact ⟨rfl, HP.out.setReg a n ha, HG.out.non_then (setAt w2 b (3 + a) _)⟩
set_option maxRecDepth 100000 in
theorem high_ok (b : Nat) (p : Pt) (m : Value) (op a b2 c n : Nat) (w : World) (hp : PartB w b p m) (ha : a < 8) (hn : n < 65536) (r : Nat) (hr : p.g a = r) (hb : r < 4294967296) :
  Calls Tryz.prog 242 #[.pointer (some ⟨b, 0, none⟩), .agg #[.int .u8 op, .int .u8 a, .int .u8 b2, .int .u8 c, .int .i64 n]] w fun e w' => e = .returned (.bool true) ∧ PartB w' b (p.set a ((r * 65536 % 4294967296) ||| n)) m ∧ Chg (fun k => k = b) w w' := by
 have hai : (a : Int) < 8 := by omega
 have hlt0 := hp.lt
 have hg : Chg Non w (w.alloc (.cells #[.int .u8 op, .int .u8 a, .int .u8 b2, .int .u8 c, .int .i64 n] 143)).drew := ((Chg.refl Non w).alloc _).drew
 have hp2 := hp.non hg
 obtain ⟨⟨z, c0, c1, c2, c3, c4⟩, _⟩ := (Blk5.mk (blockN ((Chg.refl Non _).drew) (heap_alloc_new w (.cells #[.int .u8 op, .int .u8 a, .int .u8 b2, .int .u8 c, .int .i64 n] 143)))).all
 clear hp
 go_enter Tryz.func242, Tryz.ntmps242
 go_wp2_with fail
 refine wp_region_still_tail 18 (by kernel_rfl) (by kernel_rfl) ?_
 simp only [List.take_succ_cons, List.take_zero, List.drop_succ_cons, List.drop_zero]
 change wpStill _ _ (w.alloc (.cells #[.int .u8 op, .int .u8 a, .int .u8 b2, .int .u8 c, .int .i64 n] 143)).drew (fun a' => wpList _ _ _ _ a' (w.alloc (.cells #[.int .u8 op, .int .u8 a, .int .u8 b2, .int .u8 c, .int .i64 n] 143)).drew) _ _
 generalize (w.alloc (.cells #[.int .u8 op, .int .u8 a, .int .u8 b2, .int .u8 c, .int .i64 n] 143)).drew = w2 at hg hp2 z c0 c1 c2 c3 c4 ⊢
 have HP := Lib.hid hp2
 have HG := Lib.hid hg
 have hlt := hp2.lt
 have hf := hp2.frozen (3 + a)
 have hca := hp2.reg a ha
 rw [hr] at hca
 have hor : bits .or .u32 ((r : Int) * 65536 % 4294967296) (n : Int) = (((r * 65536 % 4294967296) ||| n : Nat) : Int) := by have := u32_or_nat (r * 65536 % 4294967296) n (by omega) (by omega); simpa using this
 clear hp2 hg
 repeat still_step
 refine wpStill_nil ?_
 go_wp2_with fail
 go_ret
 exact ⟨rfl, by rw [hor]; exact HP.out.setReg a _ ha, HG.out.non_then (setAt w2 b (3 + a) _)⟩
set_option maxRecDepth 100000 in
theorem move_ok (b : Nat) (p : Pt) (m : Value) (op a b2 c n : Nat) (w : World) (hp : PartB w b p m) (ha : a < 8) (hb2 : b2 < 8) :
  Calls Tryz.prog 247 #[.pointer (some ⟨b, 0, none⟩), .agg #[.int .u8 op, .int .u8 a, .int .u8 b2, .int .u8 c, .int .i64 n]] w fun e w' => e = .returned (.bool true) ∧ PartB w' b (p.set a (p.g b2)) m ∧ Chg (fun k => k = b) w w' := by
 have hai : (a : Int) < 8 := by omega
 have hlt0 := hp.lt
 have hg : Chg Non w (w.alloc (.cells #[.int .u8 op, .int .u8 a, .int .u8 b2, .int .u8 c, .int .i64 n] 143)).drew := ((Chg.refl Non w).alloc _).drew
 have hp2 := hp.non hg
 obtain ⟨⟨z, c0, c1, c2, c3, c4⟩, _⟩ := (Blk5.mk (blockN ((Chg.refl Non _).drew) (heap_alloc_new w (.cells #[.int .u8 op, .int .u8 a, .int .u8 b2, .int .u8 c, .int .i64 n] 143)))).all
 clear hp
 go_enter Tryz.func247, Tryz.ntmps247
 go_wp2_with fail
 refine wp_region_still_tail 13 (by kernel_rfl) (by kernel_rfl) ?_
 simp only [List.take_succ_cons, List.take_zero, List.drop_succ_cons, List.drop_zero]
 change wpStill _ _ (w.alloc (.cells #[.int .u8 op, .int .u8 a, .int .u8 b2, .int .u8 c, .int .i64 n] 143)).drew (fun a' => wpList _ _ _ _ a' (w.alloc (.cells #[.int .u8 op, .int .u8 a, .int .u8 b2, .int .u8 c, .int .i64 n] 143)).drew) _ _
 generalize (w.alloc (.cells #[.int .u8 op, .int .u8 a, .int .u8 b2, .int .u8 c, .int .i64 n] 143)).drew = w2 at hg hp2 z c0 c1 c2 c3 c4 ⊢
 have HP := Lib.hid hp2
 have HG := Lib.hid hg
 have hlt := hp2.lt
 have hf := hp2.frozen (3 + a)
 have hca := hp2.reg a ha
 have hbi : (b2 : Int) < 8 := by omega
 have hcb := hp2.reg b2 hb2
 clear hp2 hg
 repeat still_step
 refine wpStill_nil ?_
 go_wp2_with fail
 go_ret
 exact ⟨rfl, HP.out.setReg a _ ha, HG.out.non_then (setAt w2 b (3 + a) _)⟩
set_option maxRecDepth 100000 in
theorem address_ok (b : Nat) (p : Pt) (m : Value) (op a b2 c n : Nat) (w : World) (hp : PartB w b p m) (hb2 : b2 < 8) (r : Nat) (hr : p.g b2 = r) (hn : n < 65536) (hb : r < 4294967296) :
  Calls Tryz.prog 266 #[.pointer (some ⟨b, 0, none⟩), .agg #[.int .u8 op, .int .u8 a, .int .u8 b2, .int .u8 c, .int .i64 n]] w fun e w' => e = .returned (.int .i64 ((r + n : Nat) : Int)) ∧ Chg Non w w' := by
 have hbi : (b2 : Int) < 8 := by omega
 have hg : Chg Non w (w.alloc (.cells #[.int .u8 op, .int .u8 a, .int .u8 b2, .int .u8 c, .int .i64 n] 143)).drew := ((Chg.refl Non w).alloc _).drew
 have hp2 := hp.non hg
 have hc := hp2.reg b2 hb2
 rw [hr] at hc
 obtain ⟨⟨z, c0, c1, c2, c3, c4⟩, _⟩ := (Blk5.mk (blockN ((Chg.refl Non _).drew) (heap_alloc_new w (.cells #[.int .u8 op, .int .u8 a, .int .u8 b2, .int .u8 c, .int .i64 n] 143)))).all
 have HG := Lib.hid hg
 clear hp hp2 hg
 go_enter Tryz.func266, Tryz.ntmps266
 go_wp2_with fail
 refine wp_region_held_drew (S := fun W => W.cell? ⟨b, 3 + b2, none⟩ = some (.int .u32 r) ∧ W.cell? ⟨w.heap.size, 2, none⟩ = some (.int .u8 b2) ∧ W.cell? ⟨w.heap.size, 4, none⟩ = some (.int .i64 n)) (by kernel_rfl) ⟨hc, c2, c4⟩ (fun hHeld => ?_)
 refine hp 0 5 (.pointer (some ⟨b, 0, none⟩)) rfl hHeld ?_ (he := (fun W hW => by obtain ⟨e1, e2, e3⟩ := hW; go_simp))
 refine hp 1 6 (.pointer (some ⟨w.heap.size, 2, none⟩)) rfl hHeld ?_ (he := (fun W hW => by obtain ⟨e1, e2, e3⟩ := hW; go_simp))
 refine hp 2 7 (.int .u8 b2) rfl hHeld ?_ (he := (fun W hW => by obtain ⟨e1, e2, e3⟩ := hW; go_simp))
 refine hp 3 8 (.pointer (some ⟨b, 0, none⟩)) rfl hHeld ?_ (he := (fun W hW => by obtain ⟨e1, e2, e3⟩ := hW; go_simp))
 refine hp 4 9 (.pointer (some ⟨b, 3, none⟩)) rfl hHeld ?_ (he := (fun W hW => by obtain ⟨e1, e2, e3⟩ := hW; go_simp))
 refine hp 5 10 (.pointer (some ⟨b, 3 + b2, none⟩)) rfl hHeld ?_ (he := (fun W hW => by obtain ⟨e1, e2, e3⟩ := hW; go_simp))
 refine hp 6 11 (.int .u32 r) rfl hHeld ?_ (he := (fun W hW => by obtain ⟨e1, e2, e3⟩ := hW; go_simp))
 refine hp 7 12 (.int .i64 r) rfl hHeld ?_ (he := (fun W hW => by obtain ⟨e1, e2, e3⟩ := hW; go_simp; exact Go.IntWalk.i64_in _ (by omega)))
 refine hp 8 13 (.pointer (some ⟨w.heap.size, 4, none⟩)) rfl hHeld ?_ (he := (fun W hW => by obtain ⟨e1, e2, e3⟩ := hW; go_simp))
 refine hp 9 14 (.int .i64 n) rfl hHeld ?_ (he := (fun W hW => by obtain ⟨e1, e2, e3⟩ := hW; go_simp))
 refine hp 10 15 (.int .i64 ((r + n : Nat) : Int)) rfl hHeld ?_ (he := (fun W hW => by obtain ⟨e1, e2, e3⟩ := hW; go_simp; exact Go.IntWalk.i64_in _ (by omega)))
 refine hp 11 4 (.int .i64 ((r + n : Nat) : Int)) rfl hHeld ?_ (he := (fun W hW => by obtain ⟨e1, e2, e3⟩ := hW; go_simp))
 refine wpAnyH_done (by kernel_rfl) ?_ _
 go_wp2_with fail
 go_ret
 exact ⟨rfl, HG.out⟩
end
section
open Go.RowKit
theorem mk2_4 (x y : Nat) : mk2 4 x y = (x + y) % 4294967296 := by unfold mk2; rw [if_pos rfl]
theorem mk2_5 (x y : Nat) : mk2 5 x y = (x + 4294967296 - y) % 4294967296 := by unfold mk2; rw [if_neg (by decide), if_pos rfl]
theorem mk2_6 (x y : Nat) : mk2 6 x y = x * y % 4294967296 := by unfold mk2; rw [if_neg (by decide), if_neg (by decide), if_pos rfl]
theorem mk2_7 (x y : Nat) : mk2 7 x y = x &&& y := by unfold mk2; rw [if_neg (by decide), if_neg (by decide), if_neg (by decide), if_pos rfl]
theorem mk2_8 (x y : Nat) : mk2 8 x y = x ||| y := by unfold mk2; rw [if_neg (by decide), if_neg (by decide), if_neg (by decide), if_neg (by decide), if_pos rfl]
theorem mk2_9 (x y : Nat) : mk2 9 x y = x ^^^ y := by unfold mk2; rw [if_neg (by decide), if_neg (by decide), if_neg (by decide), if_neg (by decide), if_neg (by decide), if_pos rfl]
theorem mk2_10 (x y : Nat) : mk2 10 x y = x * 2 ^ (y % 32) % 4294967296 := by unfold mk2; rw [if_neg (by decide), if_neg (by decide), if_neg (by decide), if_neg (by decide), if_neg (by decide), if_neg (by decide), if_pos rfl]
theorem mk2_11 (x y : Nat) : mk2 11 x y = x / 2 ^ (y % 32) := by unfold mk2; rw [if_neg (by decide), if_neg (by decide), if_neg (by decide), if_neg (by decide), if_neg (by decide), if_neg (by decide), if_neg (by decide), if_pos rfl]
theorem mk2_12 (x y : Nat) : mk2 12 x y = if x < y then 1 else 0 := by unfold mk2; rw [if_neg (by decide), if_neg (by decide), if_neg (by decide), if_neg (by decide), if_neg (by decide), if_neg (by decide), if_neg (by decide), if_neg (by decide), if_pos rfl]
set_option maxRecDepth 100000 in
theorem mk_add (x y : Nat) (w : World) (hx : x < 4294967296) (hy : y < 4294967296) :
  Calls Tryz.prog 248 #[.int .u32 x, .int .u32 y] w fun e w' => e = .returned (.int .u32 ((mk2 4 x y : Nat) : Int)) ∧ w = w' := by
 go_enter Tryz.func248, Tryz.ntmps248
 go_wp2_with fail
 go_ret
 refine ⟨?_, rfl⟩
 show Ending.returned (Value.int .u32 (((x : Int) + y) % 4294967296)) = _
 rw [mk2_4, show ((x : Int) + y) % 4294967296 = (((x + y) % 4294967296 : Nat) : Int) from by omega]
set_option maxRecDepth 100000 in
theorem mk_sub (x y : Nat) (w : World) (hx : x < 4294967296) (hy : y < 4294967296) :
  Calls Tryz.prog 249 #[.int .u32 x, .int .u32 y] w fun e w' => e = .returned (.int .u32 ((mk2 5 x y : Nat) : Int)) ∧ w = w' := by
 go_enter Tryz.func249, Tryz.ntmps249
 go_wp2_with fail
 go_ret
 refine ⟨?_, rfl⟩
 show Ending.returned (Value.int .u32 (((x : Int) - y) % 4294967296)) = _
 rw [mk2_5, show ((x : Int) - y) % 4294967296 = (((x + 4294967296 - y) % 4294967296 : Nat) : Int) from by omega]
set_option maxRecDepth 100000 in
theorem mk_mul (x y : Nat) (w : World) (hx : x < 4294967296) (hy : y < 4294967296) :
  Calls Tryz.prog 250 #[.int .u32 x, .int .u32 y] w fun e w' => e = .returned (.int .u32 ((mk2 6 x y : Nat) : Int)) ∧ w = w' := by
 go_enter Tryz.func250, Tryz.ntmps250
 go_wp2_with fail
 go_ret
 refine ⟨?_, rfl⟩
 show Ending.returned (Value.int .u32 (((x : Int) * y) % 4294967296)) = _
 rw [mk2_6, show ((x : Int) * y) % 4294967296 = ((x * y % 4294967296 : Nat) : Int) from by rw [Int.natCast_emod, Int.natCast_mul]; rfl]
set_option maxRecDepth 100000 in
theorem mk_and (x y : Nat) (w : World) (hx : x < 4294967296) (hy : y < 4294967296) :
  Calls Tryz.prog 251 #[.int .u32 x, .int .u32 y] w fun e w' => e = .returned (.int .u32 ((mk2 7 x y : Nat) : Int)) ∧ w = w' := by
 go_enter Tryz.func251, Tryz.ntmps251
 go_wp2_with fail
 go_ret
 refine ⟨?_, rfl⟩
 show Ending.returned (Value.int .u32 (bits .and .u32 (x : Int) (y : Int))) = _
 rw [mk2_7, show bits .and .u32 (x : Int) (y : Int) = ((x &&& y : Nat) : Int) from u32_and_nat x y hx hy]
set_option maxRecDepth 100000 in
theorem mk_or (x y : Nat) (w : World) (hx : x < 4294967296) (hy : y < 4294967296) :
  Calls Tryz.prog 252 #[.int .u32 x, .int .u32 y] w fun e w' => e = .returned (.int .u32 ((mk2 8 x y : Nat) : Int)) ∧ w = w' := by
 go_enter Tryz.func252, Tryz.ntmps252
 go_wp2_with fail
 go_ret
 refine ⟨?_, rfl⟩
 show Ending.returned (Value.int .u32 (bits .or .u32 (x : Int) (y : Int))) = _
 rw [mk2_8, show bits .or .u32 (x : Int) (y : Int) = ((x ||| y : Nat) : Int) from u32_or_nat x y hx hy]
set_option maxRecDepth 100000 in
theorem mk_xor (x y : Nat) (w : World) (hx : x < 4294967296) (hy : y < 4294967296) :
  Calls Tryz.prog 253 #[.int .u32 x, .int .u32 y] w fun e w' => e = .returned (.int .u32 ((mk2 9 x y : Nat) : Int)) ∧ w = w' := by
 go_enter Tryz.func253, Tryz.ntmps253
 go_wp2_with fail
 go_ret
 refine ⟨?_, rfl⟩
 show Ending.returned (Value.int .u32 (bits .xor .u32 (x : Int) (y : Int))) = _
 rw [mk2_9, show bits .xor .u32 (x : Int) (y : Int) = ((x ^^^ y : Nat) : Int) from u32_xor_nat x y hx hy]
set_option maxRecDepth 100000 in
theorem mk_shl (x y : Nat) (w : World) (hx : x < 4294967296) (hy : y < 4294967296) :
  Calls Tryz.prog 254 #[.int .u32 x, .int .u32 y] w fun e w' => e = .returned (.int .u32 ((mk2 10 x y : Nat) : Int)) ∧ w = w' := by
 go_enter Tryz.func254, Tryz.ntmps254
 go_wp2_with fail
 go_ret
 refine ⟨?_, rfl⟩
 show Ending.returned (Value.int .u32 ((x : Int) * 2 ^ (y % 32) % 4294967296)) = _
 rw [mk2_10, show (x : Int) * 2 ^ (y % 32) % 4294967296 = ((x * 2 ^ (y % 32) % 4294967296 : Nat) : Int) from by rw [Int.natCast_emod, Int.natCast_mul, Int.natCast_pow]; rfl]
set_option maxRecDepth 100000 in
theorem mk_shr (x y : Nat) (w : World) (hx : x < 4294967296) (hy : y < 4294967296) :
  Calls Tryz.prog 255 #[.int .u32 x, .int .u32 y] w fun e w' => e = .returned (.int .u32 ((mk2 11 x y : Nat) : Int)) ∧ w = w' := by
 go_enter Tryz.func255, Tryz.ntmps255
 go_wp2_with fail
 go_ret
 refine ⟨?_, rfl⟩
 show Ending.returned (Value.int .u32 ((x : Int) / 2 ^ (y % 32))) = _
 rw [mk2_11, show (x : Int) / 2 ^ (y % 32) = ((x / 2 ^ (y % 32) : Nat) : Int) from by rw [Int.natCast_ediv, Int.natCast_pow]; rfl]
set_option maxRecDepth 100000 in
theorem mk_less (x y : Nat) (w : World) :
  Calls Tryz.prog 256 #[.int .u32 x, .int .u32 y] w fun e w' => e = .returned (.int .u32 ((mk2 12 x y : Nat) : Int)) ∧ w = w' := by
 by_cases h : x < y
 ·have hb : decide ((x : Int) < (y : Int)) = true := by simp; omega
  rw [show mk2 12 x y = 1 by rw [mk2_12, if_pos h]]
  go_enter Tryz.func256, Tryz.ntmps256
  go_wp2_with fail
  go_ret
  exact ⟨rfl, rfl⟩
 ·have hb : decide ((x : Int) < (y : Int)) = false := by simp; omega
  rw [show mk2 12 x y = 0 by rw [mk2_12, if_neg h]]
  go_enter Tryz.func256, Tryz.ntmps256
  go_wp2_with fail
  go_ret
  exact ⟨rfl, rfl⟩
end
end Go.Proofs.YtmnaleaghfbclaaGreatDoor
