/- KernelTime, part 7 of 28: contracts of the functions that it reaches, and the laws that they need, merged and shortened (from my texts XValB, XValC, XValD, XApart). -/
import Derived.Test.YtmnaleaghfbclaaGreatDoorMgKernelTimeA
import Derived.Test.YtmnaleaghfbclaaGreatDoorMgKernelTimeE
import Derived.Test.YtmnaleaghfbclaaGreatDoorMgKernelTimeF
namespace Go.Proofs.YtmnaleaghfbclaaGreatDoor
set_option linter.unusedVariables false
set_option linter.unusedSimpArgs false
set_option maxHeartbeats 8000000
section
open Go.RowKit
theorem mk_func : ∀ (fn : Fn) (first cap : Array Value) (w : World), (Instr.makeFunc fn first cap).run Tryz.prog w = .ok (.func fn first cap) w := fun _ _ _ _ => rfl
theorem pn_at {I : Nat → Prop} {w w' : World} {A : Option Addr} {ps : List Pn} (hr : RdL (pnV I) I 5 w A ps) (hg : Chg Non w w') {k : Nat} {a : Pn} (hk : ps[k]? = some a) :
  ∃ b o m, A = some ⟨b, o, none⟩ ∧ w'.cell? ⟨b, o + k * 5, none⟩ = some (.int .i64 a.id) ∧ w'.cell? ⟨b, o + k * 5 + 1, none⟩ = some (.int .i64 a.base) ∧ w'.cell? ⟨b, o + k * 5 + 2, none⟩ = some (.int .i64 a.size) ∧ w'.cell? ⟨b, o + k * 5 + 3, none⟩ = some (.bool a.keep) ∧ w'.cell? ⟨b, o + k * 5 + 4, none⟩ = some m ∧
   BytesV I w' a.img m ∧ I64 a.id ∧ I64 a.base ∧ I64 a.size ∧ a.img.length ≤ 140737488351232 ∧ b < w'.heap.size := by
 obtain ⟨b, o, vs, rfl, _, hl, hc, m, rfl, hb, ⟨h1, h2, h3⟩, h4⟩ := hr k a hk
 have h0 := hg.cell_some (hc 0 (.int .i64 a.id) rfl) (fun e => e)
 exact ⟨b, o, m, rfl, h0, hg.cell_some (hc 1 _ rfl) (fun e => e), hg.cell_some (hc 2 _ rfl) (fun e => e), hg.cell_some (hc 3 _ rfl) (fun e => e), hg.cell_some (hc 4 _ rfl) (fun e => e), hb.non hg, h1, h2, h3, h4, lt_of_cell h0⟩
theorem ch_at {I : Nat → Prop} {w w' : World} {A : Option Addr} {cs : List Ch} (hr : RdL chV I 5 w A cs) (hg : Chg Non w w') {k : Nat} {a : Ch} (hk : cs[k]? = some a) :
  ∃ b o, A = some ⟨b, o, none⟩ ∧ w'.cell? ⟨b, o + k * 5, none⟩ = some (.int .i64 a.id) ∧ w'.cell? ⟨b, o + k * 5 + 1, none⟩ = some (.int .i64 a.src) ∧ w'.cell? ⟨b, o + k * 5 + 2, none⟩ = some (.int .i64 a.dst) ∧ w'.cell? ⟨b, o + k * 5 + 3, none⟩ = some (.int .i64 a.cap) ∧ w'.cell? ⟨b, o + k * 5 + 4, none⟩ = some (.int .i64 a.size) ∧ a.Bd ∧ b < w'.heap.size := by
 obtain ⟨b, o, vs, rfl, _, hl, hc, rfl, h1⟩ := hr k a hk
 have h0 := hg.cell_some (hc 0 (.int .i64 a.id) rfl) (fun e => e)
 exact ⟨b, o, rfl, h0, hg.cell_some (hc 1 _ rfl) (fun e => e), hg.cell_some (hc 2 _ rfl) (fun e => e), hg.cell_some (hc 3 _ rfl) (fun e => e), hg.cell_some (hc 4 _ rfl) (fun e => e), h1, lt_of_cell h0⟩
theorem pnV_non {I : Nat → Prop} : ∀ W W' a vs, Chg Non W W' → pnV I W a vs → pnV I W' a vs := fun _ _ _ _ hg h => h.keep hg (fun _ _ e => e)
theorem part1_ok (id : Int) (g : Nat) (m : Value) (a : Pn) (w : World) (h : w.cell? ⟨g, 0, none⟩ = some (.int .i64 id)) :
  Calls Tryz.prog 203 #[.agg #[.int .i64 a.id, .int .i64 a.base, .int .i64 a.size, .bool a.keep, m], .pointer (some ⟨g, 0, none⟩)] w fun e w' => e = .returned (.bool (a.id == id)) ∧ Chg Non w w' := by
 have hlt : g < w.heap.size := lt_of_cell h
 obtain ⟨x, b, s, k, i⟩ := a
 simp only
 go_enter Tryz.func203, Tryz.ntmps203
 go_wp2_with fail
 go_ret
 exact ⟨rfl, (Chg.refl _ _).alloc _⟩
def PartP (ps : List Pn) (id : Int) (w : World) (e : Ending) (w' : World) : Prop :=
 (∃ (k : Nat) (a : Pn) (m : Value), ps[k]? = some a ∧ idxOf (fun p : Pn => p.id == id) ps = k ∧ e = .returned (.tuple #[.agg #[.int .i64 a.id, .int .i64 a.base, .int .i64 a.size, .bool a.keep, m], .bool true]) ∧ BytesV (From w.heap.size) w' a.img m ∧ Chg Non w w') ∨
 (idxOf (fun p : Pn => p.id == id) ps = -1 ∧ e = .returned (.tuple #[.agg #[.int .i64 0, .int .i64 0, .int .i64 0, .bool false, .slice none 0 0], .bool false]) ∧ Chg Non w w')
theorem idx_get {α : Type} {p : α → Bool} {l : List α} {k : Nat} (h : idxOf p l = (k : Int)) : ∃ a, l[k]? = some a ∧ p a = true := by
 unfold idxOf at h
 cases hf : l.findIdx? p with
 | none => rw [hf] at h; simp at h
 | some i =>
  rw [hf] at h
  simp only at h
  obtain rfl : i = k := by omega
  obtain ⟨hi, hp, _⟩ := List.findIdx?_eq_some_iff_getElem.1 hf
  exact ⟨l[i], List.getElem?_eq_getElem hi, hp⟩
set_option maxRecDepth 100000 in
theorem cPart_ok (I : Nat → Prop) (va vd : Value) (A : Option Addr) (ps : List Pn) (c : Nat) (id : Int) (w : World) (hr : RdL (pnV I) I 5 w A ps) (hc : ps.length ≤ c) (hm : c ≤ maxLen) :
  Calls Tryz.prog 187 #[.agg #[va, .slice A ps.length c, vd], .int .i64 id] w (PartP ps id w) := by
 have HI := Lib.hid (fun W (hg : Chg Non w W) x (hq : Asks (pnV I) aggV ps (fun p : Pn => p.id == id) W 203 [x]) => idxPart (pnV I) I pnV_non (fun p : Pn => p.id == id) x A ps c W (hr.non hg (fun a vs h => pnV_non _ _ _ _ hg h)) hq hc hm)
 have HQ := Lib.hid (fun W (hcell : W.cell? ⟨w.heap.size + 1, 0, none⟩ = some (.int .i64 id)) => show Asks (pnV I) aggV ps (fun p : Pn => p.id == id) W 203 [.pointer (some ⟨w.heap.size + 1, 0, none⟩)] from by
   rintro W' a vs hg ha ⟨m, rfl, _⟩
   exact part1_ok id (w.heap.size + 1) m a W' (hg.cell_some hcell (fun e => e)))
 have HR := Lib.hid hr
 have hmf := mk_func
 unfold maxLen at hm
 clear hr
 obtain ⟨j, hj⟩ : ∃ j, idxOf (fun p : Pn => p.id == id) ps = j := ⟨_, rfl⟩
 have hjb := idx_bd (fun p : Pn => p.id == id) ps
 have HJ := Lib.hid hj
 simp only [hj] at HI hjb
 clear hj
 go_enter Tryz.func187, Tryz.ntmps187
 go_wp2_with fail
 refine (HI.out _ (((((Chg.refl Non w).alloc _).alloc _).alloc _)) _ (HQ.out _ ?hcell)).mono ?_
 case hcell =>
  rw [World.cell?_alloc_old _ _ _ (by simp)]
  simp
 rintro e u ⟨rfl, hg⟩
 obtain ⟨b0, b1, b2, hlt, hgw⟩ := blk_call3 hg
 have HB2 := Lib.hid b2
 have HGw := Lib.hid hgw
 have k1 := blk_cell b0 1 (v := .slice A ps.length c) rfl
 clear b0 b1 b2 hg hgw
 by_cases hneg : j < 0
 ·have hj1 : j = -1 := by omega
  have hd : decide (j < 0) = true := by simpa using hneg
  have HJ1 := Lib.hid hj1
  clear hneg hj1
  have r0 := blk_cell HB2.out 0 (v := .int .i64 0) rfl
  have r1 := blk_cell HB2.out 1 (v := .int .i64 0) rfl
  have r2 := blk_cell HB2.out 2 (v := .int .i64 0) rfl
  have r3 := blk_cell HB2.out 3 (v := .bool false) rfl
  have r4 := blk_cell HB2.out 4 (v := .slice none 0 0) rfl
  have f0 := blk_free HB2.out 0
  have f1 := blk_free HB2.out 1
  have f2 := blk_free HB2.out 2
  have f3 := blk_free HB2.out 3
  have f4 := blk_free HB2.out 4
  go_wp2_with fail
  have hbW := blk_set 4 (.slice none 0 0) (blk_set 3 (.bool false) (blk_set 2 (.int .i64 0) (blk_set 1 (.int .i64 0) (blk_set 0 (.int .i64 0) HB2.out))))
  have hgW := HGw.out.then_new ((((chg_set u (w.heap.size + 1 + 1) 0 (.int .i64 0)).trans_same (chg_set _ _ 1 (.int .i64 0))).trans_same (chg_set _ _ 2 (.int .i64 0))).trans_same ((chg_set _ _ 3 (.bool false)).trans_same (chg_set _ _ 4 (.slice none 0 0)))) (fun x e => by omega)
  exact bodyPost_ret (res_ct Tryz.results187 _ _ (w.heap.size + 1 + 1) 83 _ (0, 0) _ (.bool false) (by kernel_rfl) (by kernel_rfl) hbW Tryz.underlying83 rfl (by kernel_rfl)) (by kernel_rfl) (Or.inr ⟨by rw [HJ.out, HJ1.out], rfl, hgW⟩)
 ·obtain ⟨k, rfl⟩ : ∃ k : Nat, j = k := ⟨j.toNat, by omega⟩
  have hd : decide ((k : Int) < 0) = false := by rw [decide_eq_false_iff_not]; exact hneg
  obtain ⟨a, ha, hpa⟩ := idx_get HJ.out
  have hkl := (List.getElem?_eq_some_iff.1 ha).1
  obtain ⟨b, o, m, rfl, q0, q1, q2, q3, q4, hbv, i1, i2, i3, i4, hbl⟩ := pn_at HR.out HGw.out ha
  obtain ⟨A2, c2, rfl, g1, g2, g3, g4⟩ := hbv
  have hk0 : (0 : Int) ≤ (k : Int) := by omega
  have hki : (k : Int) < (ps.length : Int) := by omega
  have HA := Lib.hid ha
  have HCl := Lib.hid (fun W (hg : Chg Non u W) => SlClone_ok A2 a.img c2 W (g3.non hg) (by omega))
  clear ha hpa g3 g4 hneg
  obtain ⟨x, bs, s, kp, im⟩ := a
  simp only at q0 q1 q2 q3 q4 i1 i2 i3 i4 g1 HCl
  go_wp2_with fail
  refine (HCl.out _ ((Chg.refl Non u).alloc _)).mono ?_
  rintro e v ⟨A3, c3, rfl, n1, n2, n3, n4⟩
  have hbl7 := blk_call n4
  have hg3 := chg_set v u.heap.size 4 (.slice A3 im.length c3)
  have hb7 := blk_set 4 (.slice A3 im.length c3) hbl7
  simp only [List.setIfInBounds_toArray, List.set_cons_zero, List.set_cons_succ] at hb7
  have hv1 : Chg Non u v := ((Chg.refl Non u).alloc _).then_non n4
  have hr2 := blk_keep (blk_keep HB2.out hv1 (fun e => e)) hg3 (by omega)
  have hby : BytesV (From u.heap.size) (v.setCell ⟨u.heap.size, 4, none⟩ (.slice A3 im.length c3)) im (.slice A3 im.length c3) :=
   ⟨A3, c3, rfl, n1, n2, n3.rd.keep hg3 (fun b o e hl hs => by subst e; have := n3.ge hl; simp at this; omega), fun b o e hl => by subst e; have := n3.ge hl; simp at this; show u.heap.size ≤ b; omega⟩
  have p4 := blk_cell hbl7 4 (v := .slice A2 im.length c2) rfl
  have pf4 := blk_free hbl7 4
  have HB7 := Lib.hid hb7
  have HR2 := Lib.hid hr2
  have HBy := Lib.hid hby
  have HG3 := Lib.hid ((HGw.out.then_non hv1).then_new hg3 (fun x e => by omega))
  clear hbl7 hg3 hb7 hr2 hby n3 n4 hv1
  go_wp2_with (first
    | (refine sel (some 24) (.load 83 (.tmp 7)) ?_
       refine wpList_load_mid rfl 83 (.tmp 7) rfl u.heap.size 0 rfl [.int .i64 x, .int .i64 bs, .int .i64 s, .bool kp, .slice A3 im.length c3] _ (blk_range HB7.out) Tryz.underlying83 rfl (by kernel_rfl) ?_)
    | (refine sel none (.store 83 (.tmp 4) (.tmp 24)) ?_
       refine wpList_store_rowA rfl 83 (.tmp 4) (.tmp 24) rfl (w.heap.size + 1 + 1) #[.int .i64 x, .int .i64 bs, .int .i64 s, .bool kp, .slice A3 im.length c3] rfl rfl 83 _ HR2.out (by kernel_rfl) rfl (by simp [Value.oneCell']) ?_
       intro W hgW hbW
       have HBW := Lib.hid hbW
       have HGW := Lib.hid (HG3.out.then_new hgW (fun x e => by omega))
       have HByW := Lib.hid (HBy.out.keep hgW (fun b hb e => by have hb : u.heap.size ≤ b := hb; omega))
       clear hgW hbW))
  exact bodyPost_ret (res_ct Tryz.results187 _ _ (w.heap.size + 1 + 1) 83 _ (0, 0) _ (.bool true) (by kernel_rfl) (by kernel_rfl) HBW.out Tryz.underlying83 rfl (by kernel_rfl)) (by kernel_rfl) (Or.inl ⟨k, ⟨x, bs, s, kp, im⟩, .slice A3 im.length c3, HA.out, HJ.out, rfl, HByW.out.mono (fun b hb => by have hb : u.heap.size ≤ b := hb; show w.heap.size ≤ b; omega), HGW.out⟩)
end
section
open Go.RowKit
def hasB (ps : List Pn) (id : Int) : Bool := ps.any fun p => p.id == id
theorem hasB_idx {ps : List Pn} {id j : Int} (h : idxOf (fun p : Pn => p.id == id) ps = j) : hasB ps id = decide (0 ≤ j) := by
 rw [← h, idx_ge]; rfl
set_option maxRecDepth 100000 in
theorem has_ok (I : Nat → Prop) (va vd : Value) (A : Option Addr) (ps : List Pn) (c : Nat) (id : Int) (w : World) (hr : RdL (pnV I) I 5 w A ps) (hc : ps.length ≤ c) (hm : c ≤ maxLen) (h1 : va.oneCell' = true) (h2 : vd.oneCell' = true) :
  Calls Tryz.prog 170 #[.agg #[va, .slice A ps.length c, vd], .int .i64 id] w fun e w' => e = .returned (.bool (hasB ps id)) ∧ Chg Non w w' := by
 have HP := Lib.hid (fun W (hg : Chg Non w W) => cPart_ok I va vd A ps c id W (hr.non hg (fun a vs h => pnV_non _ _ _ _ hg h)) hc hm)
 clear hr
 go_enter Tryz.func170, Tryz.ntmps170
 go_wp2_with fail
 refine (HP.out _ ((Chg.refl Non w).alloc _)).mono ?_
 rintro e u (⟨k, a, m, ha, hj, rfl, ⟨A2, c2, rfl, _⟩, hg⟩ | ⟨hj, rfl, hg⟩)
 ·have HE := Lib.hid (hasB_idx hj)
  have HG := Lib.hid (((Chg.refl Non w).alloc _).then_non hg)
  clear hj hg ha
  go_wp2_with fail
  go_ret
  exact ⟨ret_b (by rw [HE.out]; simp), HG.out.alloc _⟩
 ·have HE := Lib.hid (hasB_idx hj)
  have HG := Lib.hid (((Chg.refl Non w).alloc _).then_non hg)
  clear hj hg
  go_wp2_with fail
  go_ret
  exact ⟨ret_b (by rw [HE.out]; simp), HG.out.alloc _⟩
structure CfgB (I : Nat → Prop) (w : World) (c : Cfg) (g : Nat) (A1 A2 A3 : Option Addr) (c1 c2 c3 : Nat) : Prop where
 box : w.heap[g]? = some (.cells #[.slice A1 c.ws.length c1, .slice A2 c.ps.length c2, .slice A3 c.cs.length c3] 26 (0, 0))
 ws : RdL winV I 2 w A1 c.ws
 ps : RdL (pnV I) I 5 w A2 c.ps
 cs : RdL chV I 5 w A3 c.cs
 l1 : c.ws.length ≤ c1 ∧ c1 ≤ maxLen
 l2 : c.ps.length ≤ c2 ∧ c2 ≤ maxLen
 l3 : c.cs.length ≤ c3 ∧ c3 ≤ maxLen
theorem winV_non : ∀ W W' a vs, Chg Non W W' → winV W a vs → winV W' a vs := fun _ _ _ _ _ h => h
theorem chV_non : ∀ W W' a vs, Chg Non W W' → chV W a vs → chV W' a vs := fun _ _ _ _ _ h => h
theorem CfgB.non {I : Nat → Prop} {w w' : World} {c : Cfg} {g : Nat} {A1 A2 A3 : Option Addr} {c1 c2 c3 : Nat} (h : CfgB I w c g A1 A2 A3 c1 c2 c3) (hg : Chg Non w w') : CfgB I w' c g A1 A2 A3 c1 c2 c3 :=
 ⟨blk_keep h.box hg (fun e => e), h.ws.non hg (fun _ _ h => h), h.ps.non hg (fun a vs h => pnV_non _ _ _ _ hg h), h.cs.non hg (fun _ _ h => h), h.l1, h.l2, h.l3⟩
def winBad (c : Cfg) (a : Win) : Bool := decide (a.part ≠ 0) && !hasB c.ps a.part
set_option maxRecDepth 100000 in
theorem win1_ok (I : Nat → Prop) (w : World) (c : Cfg) (g : Nat) (A1 A2 A3 : Option Addr) (c1 c2 c3 : Nat) (h : CfgB I w c g A1 A2 A3 c1 c2 c3) (a : Win) :
  Calls Tryz.prog 169 #[.agg #[.int .i64 a.len, .int .i64 a.part], .pointer (some ⟨g, 0, none⟩)] w fun e w' => e = .returned (.bool (winBad c a)) ∧ Chg Non w w' := by
 obtain ⟨l, p⟩ := a
 have hlt := blk_lt h.box
 have k0 := blk_cell h.box 0 (v := .slice A1 c.ws.length c1) rfl
 have k1 := blk_cell h.box 1 (v := .slice A2 c.ps.length c2) rfl
 have k2 := blk_cell h.box 2 (v := .slice A3 c.cs.length c3) rfl
 have HH := Lib.hid (fun W (hg : Chg Non w W) => has_ok I (.slice A1 c.ws.length c1) (.slice A3 c.cs.length c3) A2 c.ps c2 p W (h.non hg).ps h.l2.1 h.l2.2 rfl rfl)
 have HE : Hid (winBad c ⟨l, p⟩ = (decide (p ≠ 0) && !hasB c.ps p)) := Lib.hid rfl
 obtain ⟨q, hq⟩ : ∃ q, hasB c.ps p = q := ⟨_, rfl⟩
 simp only [hq] at HH HE
 simp only
 clear h hq
 by_cases h0 : p = 0
 ·subst h0
  go_enter Tryz.func169, Tryz.ntmps169
  go_wp2_with fail
  go_ret
  exact ⟨ret_b (by rw [HE.out]; rfl), (Chg.refl _ _).alloc _⟩
 ·have hne : (p != 0) = true := by simpa using h0
  go_enter Tryz.func169, Tryz.ntmps169
  go_wp2_with fail
  refine (HH.out _ ((Chg.refl Non w).alloc _)).mono ?_
  rintro e u ⟨rfl, hg⟩
  go_wp2_with fail
  go_ret
  exact ⟨ret_b (by rw [HE.out]; simp [h0]), ((Chg.refl Non w).alloc _).then_non hg⟩
def windowsBad (c : Cfg) : Bool := !schMay c.ws || c.ws.any (winBad c)
set_option maxRecDepth 100000 in
theorem windows_ok (I : Nat → Prop) (w : World) (c : Cfg) (A1 A2 A3 : Option Addr) (c1 c2 c3 : Nat) (h : ∀ W g, Chg Non w W → W.heap[g]? = some (.cells #[.slice A1 c.ws.length c1, .slice A2 c.ps.length c2, .slice A3 c.cs.length c3] 26 (0, 0)) → CfgB I W c g A1 A2 A3 c1 c2 c3) :
  Calls Tryz.prog 149 #[.agg #[.slice A1 c.ws.length c1, .slice A2 c.ps.length c2, .slice A3 c.cs.length c3]] w fun e w' => e = .returned (.bool (windowsBad c)) ∧ Chg Non w w' := by
 have HB := Lib.hid (h (w.alloc (.cells #[.slice A1 c.ws.length c1, .slice A2 c.ps.length c2, .slice A3 c.cs.length c3] 26)) w.heap.size ((Chg.refl Non w).alloc _) (blk_new _ _))
 have hmf := mk_func
 have HM := Lib.hid (schMay_ok I A1 c.ws c1 _ HB.out.ws HB.out.l1.1 HB.out.l1.2)
 have HQ := Lib.hid (fun W (hg : Chg Non (w.alloc (.cells #[.slice A1 c.ws.length c1, .slice A2 c.ps.length c2, .slice A3 c.cs.length c3] 26)) W) => anyWindows winV I winV_non (winBad c) (.pointer (some ⟨w.heap.size, 0, none⟩)) A1 c.ws c1 W (HB.out.non hg).ws (by
   rintro W' a vs hg2 ha ⟨rfl, _⟩
   exact win1_ok I W' c w.heap.size A1 A2 A3 c1 c2 c3 ((HB.out.non hg).non hg2) a) HB.out.l1.1 HB.out.l1.2)
 have HE : Hid (windowsBad c = (!schMay c.ws || c.ws.any (winBad c))) := Lib.hid rfl
 obtain ⟨m, hm⟩ : ∃ m, schMay c.ws = m := ⟨_, rfl⟩
 obtain ⟨q, hq⟩ : ∃ q, c.ws.any (winBad c) = q := ⟨_, rfl⟩
 simp only [hm] at HM HE
 simp only [hq] at HQ HE
 clear h hm hq
 cases m with
 | false =>
  go_enter Tryz.func149, Tryz.ntmps149
  go_wp2_with fail
  refine HM.out.mono ?_
  rintro e u ⟨rfl, hg⟩
  go_wp2_with fail
  go_ret
  exact ⟨ret_b (by rw [HE.out]; rfl), ((Chg.refl Non w).alloc _).then_non hg⟩
 | true =>
  go_enter Tryz.func149, Tryz.ntmps149
  go_wp2_with fail
  refine HM.out.mono ?_
  rintro e u ⟨rfl, hg⟩
  have HG := Lib.hid hg
  have k0 := blk_cell (blk_call hg) 0 (v := .slice A1 c.ws.length c1) rfl
  clear hg
  go_wp2_with fail
  refine (HQ.out _ HG.out).mono ?_
  rintro e u2 ⟨rfl, hg⟩
  go_wp2_with fail
  go_ret
  exact ⟨ret_b (by rw [HE.out]; rfl), (((Chg.refl Non w).alloc _).then_non HG.out).then_non hg⟩
def regBad (a : Pn) : Bool := !regMay a.base a.size || decide ((a.img.length : Int) > a.size)
set_option maxRecDepth 100000 in
theorem reg1_ok (w : World) (a : Pn) (A : Option Addr) (c : Nat) :
  Calls Tryz.prog 172 #[.agg #[.int .i64 a.id, .int .i64 a.base, .int .i64 a.size, .bool a.keep, .slice A a.img.length c]] w fun e w' => e = .returned (.bool (regBad a)) ∧ Chg Non w w' := by
 obtain ⟨x, b, s, k, im⟩ := a
 simp only
 have HM := Lib.hid (fun W => regMay_ok b s W)
 have HE : Hid (regBad ⟨x, b, s, k, im⟩ = (!regMay b s || decide ((im.length : Int) > s))) := Lib.hid rfl
 obtain ⟨m, hm⟩ : ∃ m, regMay b s = m := ⟨_, rfl⟩
 simp only [hm] at HM HE
 clear hm
 obtain ⟨n, hn⟩ : ∃ n, im.length = n := ⟨_, rfl⟩
 rw [hn] at HE ⊢
 clear hn
 cases m with
 | false =>
  go_enter Tryz.func172, Tryz.ntmps172
  go_wp2_with fail
  refine (HM.out _).mono ?_
  rintro e u ⟨rfl, hg⟩
  go_wp2_with fail
  go_ret
  exact ⟨ret_b (by rw [HE.out]; rfl), ((Chg.refl Non w).alloc _).then_non hg⟩
 | true =>
  go_enter Tryz.func172, Tryz.ntmps172
  go_wp2_with fail
  refine (HM.out _).mono ?_
  rintro e u ⟨rfl, hg⟩
  have hb := blk_call hg
  have k2 := blk_cell hb 2 (v := .int .i64 s) rfl
  have k4 := blk_cell hb 4 (v := .slice A n c) rfl
  clear hb
  go_wp2_with fail
  go_ret
  exact ⟨ret_b (by rw [HE.out]; rfl), ((Chg.refl Non w).alloc _).then_non hg⟩
def regionsBad (c : Cfg) : Bool := c.ps.any regBad
set_option maxRecDepth 100000 in
theorem regions_ok (I : Nat → Prop) (w : World) (c : Cfg) (va vd : Value) (A2 : Option Addr) (c2 : Nat) (hr : RdL (pnV I) I 5 w A2 c.ps) (h1 : c.ps.length ≤ c2) (h2 : c2 ≤ maxLen) (o1 : va.oneCell' = true) (o2 : vd.oneCell' = true) :
  Calls Tryz.prog 151 #[.agg #[va, .slice A2 c.ps.length c2, vd]] w fun e w' => e = .returned (.bool (regionsBad c)) ∧ Chg Non w w' := by
 have HQ := Lib.hid (fun W (hg : Chg Non w W) => anyRegions (pnV I) I pnV_non regBad A2 c.ps c2 W (hr.non hg (fun a vs h => pnV_non _ _ _ _ hg h)) (by
   rintro W' a vs hg2 ha ⟨m, rfl, ⟨A, c, rfl, _⟩, _⟩
   exact reg1_ok W' a A c) h1 h2)
 have HE : Hid (regionsBad c = c.ps.any regBad) := Lib.hid rfl
 clear hr
 go_enter Tryz.func151, Tryz.ntmps151
 go_wp2_with fail
 refine (HQ.out _ ((Chg.refl Non w).alloc _)).mono ?_
 rintro e u ⟨rfl, hg⟩
 go_wp2_with fail
 go_ret
 exact ⟨rfl, ((Chg.refl Non w).alloc _).then_non hg⟩
def chBad (c : Cfg) (a : Ch) : Bool := !hasB c.ps a.src || !hasB c.ps a.dst
set_option maxRecDepth 100000 in
theorem ch1_ok (I : Nat → Prop) (w : World) (c : Cfg) (g : Nat) (A1 A2 A3 : Option Addr) (c1 c2 c3 : Nat) (h : CfgB I w c g A1 A2 A3 c1 c2 c3) (a : Ch) :
  Calls Tryz.prog 175 #[.agg #[.int .i64 a.id, .int .i64 a.src, .int .i64 a.dst, .int .i64 a.cap, .int .i64 a.size], .pointer (some ⟨g, 0, none⟩)] w fun e w' => e = .returned (.bool (chBad c a)) ∧ Chg Non w w' := by
 obtain ⟨id, src, dst, cap, size⟩ := a
 have hlt := blk_lt h.box
 have HB := Lib.hid h
 have k0 := blk_cell h.box 0 (v := .slice A1 c.ws.length c1) rfl
 have k1 := blk_cell h.box 1 (v := .slice A2 c.ps.length c2) rfl
 have k2 := blk_cell h.box 2 (v := .slice A3 c.cs.length c3) rfl
 have H1 := Lib.hid (fun W (hg : Chg Non w W) => has_ok I (.slice A1 c.ws.length c1) (.slice A3 c.cs.length c3) A2 c.ps c2 src W (h.non hg).ps h.l2.1 h.l2.2 rfl rfl)
 have H2 := Lib.hid (fun W (hg : Chg Non w W) => has_ok I (.slice A1 c.ws.length c1) (.slice A3 c.cs.length c3) A2 c.ps c2 dst W (h.non hg).ps h.l2.1 h.l2.2 rfl rfl)
 have HE : Hid (chBad c ⟨id, src, dst, cap, size⟩ = (!hasB c.ps src || !hasB c.ps dst)) := Lib.hid rfl
 obtain ⟨q1, hq1⟩ : ∃ q, hasB c.ps src = q := ⟨_, rfl⟩
 obtain ⟨q2, hq2⟩ : ∃ q, hasB c.ps dst = q := ⟨_, rfl⟩
 simp only [hq1] at H1 HE
 simp only [hq2] at H2 HE
 simp only
 clear h hq1 hq2
 cases q1 with
 | false =>
  go_enter Tryz.func175, Tryz.ntmps175
  go_wp2_with fail
  refine (H1.out _ ((Chg.refl Non w).alloc _)).mono ?_
  rintro e u ⟨rfl, hg⟩
  go_wp2_with fail
  go_ret
  exact ⟨ret_b (by rw [HE.out]; rfl), ((Chg.refl Non w).alloc _).then_non hg⟩
 | true =>
  go_enter Tryz.func175, Tryz.ntmps175
  go_wp2_with fail
  refine (H1.out _ ((Chg.refl Non w).alloc _)).mono ?_
  rintro e u ⟨rfl, hg⟩
  have hgw := ((Chg.refl Non w).alloc _).then_non hg
  have HG := Lib.hid hgw
  have hb := blk_keep HB.out.box hgw (fun e => e)
  have j0 := blk_cell hb 0 (v := .slice A1 c.ws.length c1) rfl
  have j1 := blk_cell hb 1 (v := .slice A2 c.ps.length c2) rfl
  have j2 := blk_cell hb 2 (v := .slice A3 c.cs.length c3) rfl
  have jd := blk_cell (blk_call hg) 2 (v := .int .i64 dst) rfl
  clear hb hg hgw
  go_wp2_with fail
  refine (H2.out _ HG.out).mono ?_
  rintro e u2 ⟨rfl, hg⟩
  go_wp2_with fail
  go_ret
  exact ⟨ret_b (by rw [HE.out]; rfl), HG.out.then_non hg⟩
end
section
open Go.RowKit
def rise : List Int → Bool
 | a :: b :: t => decide (a < b) && rise (b :: t)
 | _ => true
theorem rise_iff : ∀ {l : List Int}, rise l = true ↔ ∀ i a b, l[i]? = some a → l[i + 1]? = some b → a < b
 | [] => by simp [rise]
 | [a] => by simp [rise]
 | a :: b :: t => by
  simp only [rise, Bool.and_eq_true, decide_eq_true_eq, rise_iff (l := b :: t)]
  constructor
  ·rintro ⟨h1, h2⟩ i x y hx hy
   cases i with
   | zero =>
    simp only [List.getElem?_cons_zero, Option.some.injEq, List.getElem?_cons_succ, Nat.zero_add] at hx hy
    subst hx hy
    exact h1
   | succ i =>
    rw [List.getElem?_cons_succ] at hx hy
    exact h2 i x y hx hy
  ·intro h
   exact ⟨h 0 a b rfl rfl, fun i x y hx hy => h (i + 1) x y (by rw [List.getElem?_cons_succ]; exact hx) (by rw [List.getElem?_cons_succ]; exact hy)⟩
def Ch.may (a : Ch) : Bool := chMay a.id a.src a.dst a.cap a.size
def chAll (cs : List Ch) : Int := if cs.any (fun a => !a.may) = true then 2 else if rise (cs.map (·.id)) = true then 0 else 100
set_option maxRecDepth 100000 in
theorem chAll_ok (I : Nat → Prop) (A : Option Addr) (cs : List Ch) (c : Nat) (w : World) (hr : RdL chV I 5 w A cs) (hc : cs.length ≤ c) (hm : c ≤ maxLen) (h8 : cs.length ≤ 1000) :
  Calls Tryz.prog 173 #[.slice A cs.length c] w fun e w' => e = .returned (.int .i64 (chAll cs)) ∧ Chg Non w w' := by
 unfold maxLen at hm
 have HR := Lib.hid hr
 clear hr
 go_enter Tryz.func173, Tryz.ntmps173
 go_wp2_with fail
 go_loopw [8] (fun iv wr => ∃ k : Nat, k ≤ cs.length ∧ iv = .int .i64 k ∧ Hid (∀ (i : Nat) (a : Ch), i < k → cs[i]? = some a → a.may = true) ∧ Hid (Chg Non w wr)) (fun iv _ => cs.length - (intOf iv).toNat)
 case atStart => exact ⟨0, Nat.zero_le _, rfl, Lib.hid (fun i b h => by omega), Lib.hid (Chg.refl _ _)⟩
 case round =>
  obtain ⟨k, hk, rfl, HN, HG⟩ := hrel
  by_cases hlt : k < cs.length
  ·obtain ⟨a, ha⟩ : ∃ a, cs[k]? = some a := ⟨_, List.getElem?_eq_getElem hlt⟩
   obtain ⟨b, o, rfl, k0, k1, k2, k3, k4, _, hbl⟩ := ch_at HR.out HG.out ha
   have hltd : decide ((k : Int) < (cs.length : Int)) = true := by simpa using hlt
   have HA := Lib.hid ha
   have HM := Lib.hid (fun W => chMay_ok a.id a.src a.dst a.cap a.size W)
   clear ha
   obtain ⟨m, hmm⟩ : ∃ m, a.may = m := ⟨_, rfl⟩
   rw [show chMay a.id a.src a.dst a.cap a.size = m from hmm] at HM
   have HMa := Lib.hid hmm
   clear hmm
   obtain ⟨x1, x2, x3, x4, x5⟩ := a
   simp only at k0 k1 k2 k3 k4 HM
   go_wp2_with fail
   refine (HM.out _).mono ?_
   rintro e u ⟨rfl, hg⟩
   have HG2 := Lib.hid ((HG.out.alloc _).then_non hg)
   clear hg
   cases m with
   | false =>
    have HE : Hid (chAll cs = 2) := Lib.hid (by
      rw [chAll, if_pos]
      exact List.any_eq_true.2 ⟨_, List.mem_of_getElem? HA.out, by rw [HMa.out]; rfl⟩)
    go_wp2_with fail
    go_ret
    exact ⟨ret_i HE.out.symm, HG2.out⟩
   | true =>
    have HN2 : Hid (∀ (i : Nat) (x : Ch), i < k + 1 → cs[i]? = some x → x.may = true) := Lib.hid (fun i x hi hx => by
      by_cases e : i = k
      · subst e
        rw [HA.out] at hx
        injection hx with hx
        subst hx
        exact HMa.out
      · exact HN.out i x (by omega) hx)
    go_wp2_with fail
    exact ⟨⟨k + 1, by omega, by simp, HN2, HG2⟩, by simp [intOf]; omega⟩
  ·obtain rfl : k = cs.length := by omega
   have hltd : decide ((cs.length : Int) < (cs.length : Int)) = false := by simp
   have HE : Hid (chAll cs = if rise (cs.map (·.id)) = true then 0 else 100) := Lib.hid (by
     rw [chAll, if_neg]
     intro e
     obtain ⟨a, ha, h⟩ := List.any_eq_true.1 e
     obtain ⟨i, hi⟩ := List.getElem?_of_mem ha
     rw [HN.out i a (List.getElem?_eq_some_iff.1 hi).1 hi] at h
     cases h)
   clear HN
   go_wp2_with fail
   go_loopw [5] (fun iv wr => ∃ k : Nat, k ≤ cs.length ∧ iv = .int .i64 ((k : Int) + 1) ∧ Hid (∀ (i : Nat) (a b : Ch), i < k → cs[i]? = some a → cs[i + 1]? = some b → a.id < b.id) ∧ Hid (Chg Non w wr)) (fun iv _ => cs.length + 1 - (intOf iv).toNat)
   case atStart => exact ⟨0, Nat.zero_le _, rfl, Lib.hid (fun i a b h => by omega), HG⟩
   case round =>
    obtain ⟨k, hk, rfl, HN, HG⟩ := hrel
    by_cases hlt2 : k + 1 < cs.length
    ·obtain ⟨a, ha⟩ : ∃ a, cs[k]? = some a := ⟨_, List.getElem?_eq_getElem (by omega)⟩
     obtain ⟨a', ha'⟩ : ∃ a, cs[k + 1]? = some a := ⟨_, List.getElem?_eq_getElem hlt2⟩
     obtain ⟨b, o, rfl, k0, _, _, _, _, _, hbl⟩ := ch_at HR.out HG.out ha
     obtain ⟨b', o', e, k1, _, _, _, _, _, _⟩ := ch_at HR.out HG.out ha'
     injection e with e
     injection e with e1 e2 _
     subst e1 e2
     have hd2 : decide ((k : Int) + 1 < (cs.length : Int)) = true := by rw [decide_eq_true_eq]; omega
     have hk0 : (0 : Int) ≤ (k : Int) := by omega
     have hkl : (k : Int) < (cs.length : Int) := by omega
     have hk1 : (0 : Int) ≤ (k : Int) + 1 := by omega
     have hkl1 : (k : Int) + 1 < (cs.length : Int) := by omega
     have hwr : IntKind.i64.wrap ((k : Int) + 1 - 1) = (k : Int) := by rw [Go.IntWalk.i64_in _ (by omega)]; omega
     have hnat : ((k : Int) + 1).toNat = k + 1 := by omega
     have HA := Lib.hid (And.intro ha ha')
     clear ha ha'
     obtain ⟨x, hx⟩ : ∃ x, a.id = x := ⟨_, rfl⟩
     obtain ⟨y, hy⟩ : ∃ y, a'.id = y := ⟨_, rfl⟩
     rw [hx] at k0
     rw [hy] at k1
     have HXY := Lib.hid (And.intro hx hy)
     clear hx hy
     go_wp2_with fail
     refine wp_region_held_drew (S := fun W => W = wr.drew) (by kernel_rfl) rfl (fun hHeld => ?_)
     clear hHeld
     refine hp 0 22 (.slice (some ⟨b, o, none⟩) cs.length c) rfl rfl ?_ (he := (fun W hW => by subst hW; go_simp))
     refine hp 1 23 (.int .i64 ((k : Int) + 1)) rfl rfl ?_ (he := (fun W hW => by subst hW; go_simp))
     refine hp 2 24 (.int .i64 (k : Int)) rfl rfl ?_ (he := (fun W hW => by subst hW; go_simp; exact Go.IntWalk.i64_in _ (by omega)))
     refine hp 3 25 (.pointer (some ⟨b, o + k * 5, none⟩)) rfl rfl ?_ (he := (fun W hW => by subst hW; go_simp))
     refine hp 4 26 (.pointer (some ⟨b, o + k * 5, none⟩)) rfl rfl ?_ (he := (fun W hW => by subst hW; go_simp))
     refine hp 5 27 (.int .i64 x) rfl rfl ?_ (he := (fun W hW => by subst hW; have hcell : wr.drew.cell? ⟨b, o + k * 5, none⟩ = _ := k0; go_simp))
     refine hp 6 28 (.slice (some ⟨b, o, none⟩) cs.length c) rfl rfl ?_ (he := (fun W hW => by subst hW; go_simp))
     refine hp 7 29 (.int .i64 ((k : Int) + 1)) rfl rfl ?_ (he := (fun W hW => by subst hW; go_simp))
     refine hp 8 30 (.pointer (some ⟨b, o + (k + 1) * 5, none⟩)) rfl rfl ?_ (he := (fun W hW => by subst hW; go_simp))
     refine hp 9 31 (.pointer (some ⟨b, o + (k + 1) * 5, none⟩)) rfl rfl ?_ (he := (fun W hW => by subst hW; go_simp))
     refine hp 10 32 (.int .i64 y) rfl rfl ?_ (he := (fun W hW => by subst hW; have hcell : wr.drew.cell? ⟨b, o + (k + 1) * 5, none⟩ = _ := k1; go_simp))
     refine hp 11 33 (.bool (decide (x ≥ y))) rfl rfl ?_ (he := (fun W hW => by subst hW; go_simp))
     refine wpAnyH_done (by kernel_rfl) ?_ _
     by_cases hxy : y ≤ x
     ·have hxd : decide (y ≤ x) = true := by simpa using hxy
      have HE2 : Hid (chAll cs = 100) := Lib.hid (by
        rw [HE.out, if_neg]
        intro e
        have := rise_iff.1 e k x y (by rw [List.getElem?_map, HA.out.1]; simp [HXY.out.1]) (by rw [List.getElem?_map, HA.out.2]; simp [HXY.out.2])
        omega)
      go_wp2_with fail
      go_ret
      exact ⟨ret_i HE2.out.symm, HG.out.drew⟩
     ·have hxd : decide (y ≤ x) = false := by simpa using hxy
      have HN2 : Hid (∀ (i : Nat) (p q : Ch), i < k + 1 → cs[i]? = some p → cs[i + 1]? = some q → p.id < q.id) := Lib.hid (fun i p q hi hp hq => by
        by_cases e : i = k
        · subst e
          rw [HA.out.1] at hp
          rw [HA.out.2] at hq
          injection hp with hp
          injection hq with hq
          subst hp hq
          rw [HXY.out.1, HXY.out.2]
          omega
        · exact HN.out i p q (by omega) hp hq)
      have HG2 := Lib.hid HG.out.drew
      go_wp2_with fail
      exact ⟨⟨k + 1, by omega, by simp, HN2, HG2⟩, by simp [intOf]; omega⟩
    ·have hd2 : decide ((k : Int) + 1 < (cs.length : Int)) = false := by rw [decide_eq_false_iff_not]; omega
     have HE2 : Hid (chAll cs = 0) := Lib.hid (by
       rw [HE.out, if_pos]
       refine rise_iff.2 (fun i a b ha hb => ?_)
       rw [List.getElem?_map] at ha hb
       obtain ⟨p, hp, rfl⟩ := Option.map_eq_some_iff.1 ha
       obtain ⟨q, hq, rfl⟩ := Option.map_eq_some_iff.1 hb
       exact HN.out i p q (by have := (List.getElem?_eq_some_iff.1 hq).1; omega) hp hq)
     go_wp2_with fail
     go_ret
     exact ⟨ret_i HE2.out.symm, HG.out⟩
def partsBad (ps : List Pn) : Bool := !(decide (1 ≤ ps.length) && decide (ps.length ≤ 6) && rise (0 :: ps.map (·.id)) && ps.all fun p => decide (p.id ≤ 6))
set_option maxRecDepth 100000 in
theorem parts_ok (I : Nat → Prop) (w : World) (va vd : Value) (A : Option Addr) (ps : List Pn) (c : Nat) (hr : RdL (pnV I) I 5 w A ps) (hc : ps.length ≤ c) (hm : c ≤ maxLen) (o1 : va.oneCell' = true) (o2 : vd.oneCell' = true) :
  Calls Tryz.prog 150 #[.agg #[va, .slice A ps.length c, vd]] w fun e w' => e = .returned (.bool (partsBad ps)) ∧ Chg Non w w' := by
 unfold maxLen at hm
 have HR := Lib.hid hr
 clear hr
 by_cases h0 : ps.length < 1
 ·have d0 : decide ((ps.length : Int) < 1) = true := by rw [decide_eq_true_eq]; omega
  have HE : Hid (partsBad ps = true) := Lib.hid (by rw [partsBad, decide_eq_false (p := 1 ≤ ps.length) (by omega)]; simp)
  clear h0
  go_enter Tryz.func150, Tryz.ntmps150
  go_wp2_with fail
  go_ret
  exact ⟨ret_b HE.out.symm, (Chg.refl _ _).alloc _⟩
 have d0 : decide ((ps.length : Int) < 1) = false := by rw [decide_eq_false_iff_not]; omega
 by_cases h6 : 6 < ps.length
 ·have d1 : decide ((6 : Int) < (ps.length : Int)) = true := by rw [decide_eq_true_eq]; omega
  have HE : Hid (partsBad ps = true) := Lib.hid (by rw [partsBad, decide_eq_false (p := ps.length ≤ 6) (by omega)]; simp)
  clear h0 h6
  go_enter Tryz.func150, Tryz.ntmps150
  go_wp2_with fail
  go_ret
  exact ⟨ret_b HE.out.symm, (Chg.refl _ _).alloc _⟩
 have d1 : decide ((6 : Int) < (ps.length : Int)) = false := by rw [decide_eq_false_iff_not]; omega
 have h16 : 1 ≤ ps.length ∧ ps.length ≤ 6 := by omega
 clear h0 h6
 go_enter Tryz.func150, Tryz.ntmps150
 go_wp2_with fail
 go_loopw [19, 3] (fun iv lv wr => ∃ (k : Nat) (x : Int), k ≤ ps.length ∧ iv = .int .i64 k ∧ lv = .int .i64 x ∧ Hid ((0 :: ps.map (·.id))[k]? = some x ∧ (∀ (i : Nat) (a b : Int), i < k → (0 :: ps.map (·.id))[i]? = some a → (0 :: ps.map (·.id))[i + 1]? = some b → a < b) ∧ ∀ (i : Nat) (a : Pn), i < k → ps[i]? = some a → a.id ≤ 6) ∧ Hid (Chg Non w wr)) (fun iv _ _ => ps.length - (intOf iv).toNat)
 case atStart => exact ⟨0, 0, Nat.zero_le _, rfl, rfl, Lib.hid ⟨rfl, fun i a b h => by omega, fun i a h => by omega⟩, Lib.hid ((Chg.refl _ _).alloc _)⟩
 case round =>
  obtain ⟨k, last, hk, rfl, rfl, HN, HG⟩ := hrel
  by_cases hlt : k < ps.length
  ·obtain ⟨a, ha⟩ : ∃ a, ps[k]? = some a := ⟨_, List.getElem?_eq_getElem hlt⟩
   obtain ⟨b, o, m, rfl, k0, k1, k2, k3, k4, ⟨A2, c2, rfl, _⟩, _, _, _, _, hbl⟩ := pn_at HR.out HG.out ha
   have hltd : decide ((k : Int) < (ps.length : Int)) = true := by simpa using hlt
   have HA := Lib.hid ha
   clear ha
   obtain ⟨x, y, z, kp, im⟩ := a
   simp only at k0 k1 k2 k3 k4
   have HG2 := Lib.hid (HG.out.alloc (.cells #[.int .i64 x, .int .i64 y, .int .i64 z, .bool kp, .slice A2 im.length c2] 83))
   have hsucc : (0 :: ps.map (·.id))[k + 1]? = some x := by rw [List.getElem?_cons_succ, List.getElem?_map, HA.out]; rfl
   have HSu := Lib.hid hsucc
   clear hsucc
   by_cases hbad : x ≤ last ∨ 6 < x
   ·have HE : Hid (partsBad ps = true) := Lib.hid (by
      rw [partsBad]
      simp only [Bool.not_eq_true', Bool.and_eq_false_iff]
      rcases hbad with h | h
      · refine .inl (.inr ?_)
        rw [Bool.eq_false_iff]
        intro e
        have := rise_iff.1 e k last x HN.out.1 HSu.out
        omega
      · refine .inr ?_
        rw [Bool.eq_false_iff]
        intro e
        have := List.all_eq_true.1 e _ (List.mem_of_getElem? HA.out)
        simp at this
        omega)
    have HB := Lib.hid hbad
    clear hbad
    go_wp2_with fail
    all_goals first
     | (go_ret; exact ⟨ret_b HE.out.symm, HG2.out⟩)
     | (exfalso; have := HB.out; omega)
   ·have hx1 : decide (x ≤ last) = false := by rw [decide_eq_false_iff_not]; omega
    have hx2 : decide (6 < x) = false := by rw [decide_eq_false_iff_not]; omega
    have hx3 : ¬ x ≤ last := by omega
    have hx4 : ¬ 6 < x := by omega
    have HN2 : Hid ((0 :: ps.map (·.id))[k + 1]? = some x ∧ (∀ (i : Nat) (a b : Int), i < k + 1 → (0 :: ps.map (·.id))[i]? = some a → (0 :: ps.map (·.id))[i + 1]? = some b → a < b) ∧ ∀ (i : Nat) (a : Pn), i < k + 1 → ps[i]? = some a → a.id ≤ 6) := Lib.hid (by
      refine ⟨HSu.out, fun i p q hi hp hq => ?_, fun i p hi hp => ?_⟩
      · by_cases e : i = k
        · subst e
          rw [HN.out.1] at hp
          rw [HSu.out] at hq
          injection hp with hp
          injection hq with hq
          omega
        · exact HN.out.2.1 i p q (by omega) hp hq
      · by_cases e : i = k
        · subst e
          rw [HA.out] at hp
          injection hp with hp
          subst hp
          show x ≤ 6
          omega
        · exact HN.out.2.2 i p (by omega) hp)
    clear hbad
    go_wp2_with fail
    exact ⟨⟨k + 1, x, by omega, by simp, rfl, HN2, HG2⟩, by simp [intOf]; omega⟩
  ·obtain rfl : k = ps.length := by omega
   have hltd : decide ((ps.length : Int) < (ps.length : Int)) = false := by simp
   have HE : Hid (partsBad ps = false) := Lib.hid (by
     have h1 : rise (0 :: ps.map (·.id)) = true := rise_iff.2 (fun i a b ha hb => HN.out.2.1 i a b (by have := (List.getElem?_eq_some_iff.1 hb).1; simp at this; omega) ha hb)
     have h2 : (ps.all fun p => decide (p.id ≤ 6)) = true := List.all_eq_true.2 (fun p hp => by
       obtain ⟨i, hi⟩ := List.getElem?_of_mem hp
       simpa using HN.out.2.2 i p (List.getElem?_eq_some_iff.1 hi).1 hi)
     simp only [partsBad, h1, h2, decide_eq_true h16.1, decide_eq_true h16.2]
     rfl)
   go_wp2_with fail
   go_ret
   exact ⟨ret_b HE.out.symm, HG.out⟩
def channelsBad (c : Cfg) : Bool := decide ((c.cs.length : Int) > 8) || decide (chAll c.cs ≠ 0) || c.cs.any (chBad c)
set_option maxRecDepth 100000 in
theorem channels_ok (I : Nat → Prop) (w : World) (c : Cfg) (A1 A2 A3 : Option Addr) (c1 c2 c3 : Nat) (h : ∀ W g, Chg Non w W → W.heap[g]? = some (.cells #[.slice A1 c.ws.length c1, .slice A2 c.ps.length c2, .slice A3 c.cs.length c3] 26 (0, 0)) → CfgB I W c g A1 A2 A3 c1 c2 c3) :
  Calls Tryz.prog 153 #[.agg #[.slice A1 c.ws.length c1, .slice A2 c.ps.length c2, .slice A3 c.cs.length c3]] w fun e w' => e = .returned (.bool (channelsBad c)) ∧ Chg Non w w' := by
 have HB := Lib.hid (h (w.alloc (.cells #[.slice A1 c.ws.length c1, .slice A2 c.ps.length c2, .slice A3 c.cs.length c3] 26)) w.heap.size ((Chg.refl Non w).alloc _) (blk_new _ _))
 have hmf := mk_func
 have HE : Hid (channelsBad c = (decide ((c.cs.length : Int) > 8) || decide (chAll c.cs ≠ 0) || c.cs.any (chBad c))) := Lib.hid rfl
 have hl3 := HB.out.l3
 by_cases h8 : 8 < c.cs.length
 ·have d8 : decide ((8 : Int) < (c.cs.length : Int)) = true := by rw [decide_eq_true_eq]; omega
  have HE2 : Hid (channelsBad c = true) := Lib.hid (by rw [HE.out, show decide ((c.cs.length : Int) > 8) = true from d8]; rfl)
  clear h HB HE h8
  go_enter Tryz.func153, Tryz.ntmps153
  go_wp2_with fail
  go_ret
  exact ⟨ret_b HE2.out.symm, (Chg.refl _ _).alloc _⟩
 have d8 : decide ((8 : Int) < (c.cs.length : Int)) = false := by rw [decide_eq_false_iff_not]; omega
 have HM := Lib.hid (chAll_ok I A3 c.cs c3 _ HB.out.cs hl3.1 hl3.2 (by omega))
 have HQ := Lib.hid (fun W (hg : Chg Non (w.alloc (.cells #[.slice A1 c.ws.length c1, .slice A2 c.ps.length c2, .slice A3 c.cs.length c3] 26)) W) => anyChannels chV I chV_non (chBad c) (.pointer (some ⟨w.heap.size, 0, none⟩)) A3 c.cs c3 W (HB.out.non hg).cs (by
   rintro W' a vs hg2 ha ⟨rfl, _⟩
   exact ch1_ok I W' c w.heap.size A1 A2 A3 c1 c2 c3 ((HB.out.non hg).non hg2) a) hl3.1 hl3.2)
 rw [show decide ((c.cs.length : Int) > 8) = false from d8] at HE
 obtain ⟨m, hmm⟩ : ∃ m, chAll c.cs = m := ⟨_, rfl⟩
 obtain ⟨q, hq⟩ : ∃ q, c.cs.any (chBad c) = q := ⟨_, rfl⟩
 simp only [hmm] at HM HE
 simp only [hq] at HQ HE
 clear h hmm hq hl3 h8
 by_cases hm0 : m = 0
 ·subst hm0
  go_enter Tryz.func153, Tryz.ntmps153
  go_wp2_with fail
  refine HM.out.mono ?_
  rintro e u ⟨rfl, hg⟩
  have HG := Lib.hid hg
  have k2 := blk_cell (blk_call hg) 2 (v := .slice A3 c.cs.length c3) rfl
  clear hg
  go_wp2_with fail
  refine (HQ.out _ HG.out).mono ?_
  rintro e u2 ⟨rfl, hg⟩
  go_wp2_with fail
  go_ret
  exact ⟨ret_b (by rw [HE.out]; rfl), (((Chg.refl Non w).alloc _).then_non HG.out).then_non hg⟩
 ·have hne : (m != 0) = true := by simpa using hm0
  have HE2 : Hid (channelsBad c = true) := Lib.hid (by rw [HE.out]; simp [hm0])
  clear HE hm0
  go_enter Tryz.func153, Tryz.ntmps153
  go_wp2_with fail
  refine HM.out.mono ?_
  rintro e u ⟨rfl, hg⟩
  go_wp2_with fail
  go_ret
  exact ⟨ret_b HE2.out.symm, ((Chg.refl Non w).alloc _).then_non hg⟩
end
section
open Go.RowKit
def apartB (b1 s1 b2 s2 : Int) : Bool := regMay b1 s1 && regMay b2 s2 && (decide (regEnd b1 s1 ≤ b2) || decide (regEnd b2 s2 ≤ b1))
set_option maxRecDepth 100000 in
theorem apart_ok (b1 s1 b2 s2 : Int) (w : World) :
  Calls Tryz.prog 131 #[.agg #[.int .i64 b1, .int .i64 s1], .agg #[.int .i64 b2, .int .i64 s2]] w fun e w' => e = .returned (.bool (apartB b1 s1 b2 s2)) ∧ Chg Non w w' := by
 have HM1 := Lib.hid (fun W => regMay_ok b1 s1 W)
 have HM2 := Lib.hid (fun W => regMay_ok b2 s2 W)
 have HE1 := Lib.hid (fun W => regEnd_ok b1 s1 W)
 have HE2 := Lib.hid (fun W => regEnd_ok b2 s2 W)
 have HE : Hid (apartB b1 s1 b2 s2 = (regMay b1 s1 && regMay b2 s2 && (decide (regEnd b1 s1 ≤ b2) || decide (regEnd b2 s2 ≤ b1)))) := Lib.hid rfl
 obtain ⟨m1, h1⟩ : ∃ m, regMay b1 s1 = m := ⟨_, rfl⟩
 obtain ⟨m2, h2⟩ : ∃ m, regMay b2 s2 = m := ⟨_, rfl⟩
 obtain ⟨e1, h3⟩ : ∃ m, regEnd b1 s1 = m := ⟨_, rfl⟩
 obtain ⟨e2, h4⟩ : ∃ m, regEnd b2 s2 = m := ⟨_, rfl⟩
 simp only [h1, h2, h3, h4] at HM1 HM2 HE1 HE2 HE
 clear h1 h2 h3 h4
 have a0 : ((w.alloc (.cells #[.int .i64 b1, .int .i64 s1] 81)).alloc (.cells #[.int .i64 b2, .int .i64 s2] 81)).drew.cell? ⟨w.heap.size, 0, none⟩ = some (.int .i64 b1) := blk_cell (w := (World.alloc _ _)) (heap_alloc2_old w _ _) 0 rfl
 have a1 : ((w.alloc (.cells #[.int .i64 b1, .int .i64 s1] 81)).alloc (.cells #[.int .i64 b2, .int .i64 s2] 81)).drew.cell? ⟨w.heap.size, 1, none⟩ = some (.int .i64 s1) := blk_cell (w := (World.alloc _ _)) (heap_alloc2_old w _ _) 1 rfl
 have q0 : ((w.alloc (.cells #[.int .i64 b1, .int .i64 s1] 81)).alloc (.cells #[.int .i64 b2, .int .i64 s2] 81)).drew.cell? ⟨w.heap.size + 1, 0, none⟩ = some (.int .i64 b2) := blk_cell (w := (World.alloc _ _)) (heap_alloc2_new w _ _) 0 rfl
 have q1 : ((w.alloc (.cells #[.int .i64 b1, .int .i64 s1] 81)).alloc (.cells #[.int .i64 b2, .int .i64 s2] 81)).drew.cell? ⟨w.heap.size + 1, 1, none⟩ = some (.int .i64 s2) := blk_cell (w := (World.alloc _ _)) (heap_alloc2_new w _ _) 1 rfl
 have HG0 : Hid (Chg Non w ((w.alloc (.cells #[.int .i64 b1, .int .i64 s1] 81)).alloc (.cells #[.int .i64 b2, .int .i64 s2] 81)).drew) := Lib.hid (((Chg.refl Non w).alloc _).alloc _).drew
 have HEnt : Hid True := Lib.hid trivial
 cases m1 with
 | false =>
  go_enter Tryz.func131, Tryz.ntmps131
  go_wp2_with fail
  refine wp_region_held_drew (S := Chg Non ((w.alloc (.cells #[.int .i64 b1, .int .i64 s1] 81)).alloc (.cells #[.int .i64 b2, .int .i64 s2] 81)).drew) (by kernel_rfl) (Chg.refl _ _) (fun hHeld => ?_)
  clear hHeld
  generalize ((w.alloc (.cells #[.int .i64 b1, .int .i64 s1] 81)).alloc (.cells #[.int .i64 b2, .int .i64 s2] 81)).drew = v at *
  refine hp 0 5 (.agg #[.int .i64 b1, .int .i64 s1]) rfl (Chg.refl Non _) ?_ (he := (fun W hW => by have h0 := hW.cell_some a0 (fun e => e); have h1 := hW.cell_some a1 (fun e => e); go_simp))
  refine h_one 1 (by kernel_rfl) rfl (by kernel_rfl) ?_
  intro K hK
  go_simp
  refine (HM1.out _).mono ?_
  rintro e u1 ⟨rfl, hg⟩
  have HG1 := Lib.hid (Chg.then_non (Chg.refl Non _) hg)
  clear hg
  refine hK.out _ _ HG1.out (fun _ => ?_)
  clear hK K
  try simp only [Act.put, sA, sB, sC]
  refine hp 2 7 (.bool false) rfl HG1.out ?_
  refine hs 3 8 rfl HG1.out ?_
  refine hs 4 9 rfl HG1.out ?_
  refine hp 5 10 (.bool false) rfl HG1.out ?_
  refine hp 6 11 (.bool false) rfl HG1.out ?_
  refine hs 7 12 rfl HG1.out ?_
  refine hs 8 13 rfl HG1.out ?_
  refine hs 9 14 rfl HG1.out ?_
  refine hs 10 15 rfl HG1.out ?_
  refine hs 11 16 rfl HG1.out ?_
  refine hs 12 17 rfl HG1.out ?_
  refine hs 13 18 rfl HG1.out ?_
  refine hs 14 19 rfl HG1.out ?_
  refine hs 15 20 rfl HG1.out ?_
  refine hs 16 21 rfl HG1.out ?_
  refine hs 17 22 rfl HG1.out ?_
  refine hs 18 23 rfl HG1.out ?_
  refine hp 19 24 (.bool false) rfl HG1.out ?_
  refine hp 20 4 (.bool false) rfl HG1.out ?_
  refine wpAnyH_done (by kernel_rfl) ?_ _
  go_wp2_with fail
  go_ret
  exact ⟨ret_b (by rw [HE.out]; rfl), HG0.out.then_non HG1.out⟩
 | true =>
 cases m2 with
 | false =>
  go_enter Tryz.func131, Tryz.ntmps131
  go_wp2_with fail
  refine wp_region_held_drew (S := Chg Non ((w.alloc (.cells #[.int .i64 b1, .int .i64 s1] 81)).alloc (.cells #[.int .i64 b2, .int .i64 s2] 81)).drew) (by kernel_rfl) (Chg.refl _ _) (fun hHeld => ?_)
  clear hHeld
  generalize ((w.alloc (.cells #[.int .i64 b1, .int .i64 s1] 81)).alloc (.cells #[.int .i64 b2, .int .i64 s2] 81)).drew = v at *
  refine hp 0 5 (.agg #[.int .i64 b1, .int .i64 s1]) rfl (Chg.refl Non _) ?_ (he := (fun W hW => by have h0 := hW.cell_some a0 (fun e => e); have h1 := hW.cell_some a1 (fun e => e); go_simp))
  refine h_one 1 (by kernel_rfl) rfl (by kernel_rfl) ?_
  intro K hK
  go_simp
  refine (HM1.out _).mono ?_
  rintro e u1 ⟨rfl, hg⟩
  have HG1 := Lib.hid (Chg.then_non (Chg.refl Non _) hg)
  clear hg
  refine hK.out _ _ HG1.out (fun _ => ?_)
  clear hK K
  try simp only [Act.put, sA, sB, sC]
  refine hp 2 7 (.bool true) rfl HG1.out ?_
  refine hp 3 8 (.agg #[.int .i64 b2, .int .i64 s2]) rfl HG1.out ?_ (he := (fun W hW => by have h0 := hW.cell_some q0 (fun e => e); have h1 := hW.cell_some q1 (fun e => e); go_simp))
  refine h_one 4 (by kernel_rfl) rfl (by kernel_rfl) ?_
  intro K hK
  go_simp
  refine (HM2.out _).mono ?_
  rintro e u2 ⟨rfl, hg⟩
  have HG2 := Lib.hid (Chg.then_non HG1.out hg)
  clear hg
  refine hK.out _ _ HG2.out (fun _ => ?_)
  clear hK K
  try simp only [Act.put, sA, sB, sC]
  refine hp 5 10 (.bool false) rfl HG2.out ?_
  refine hp 6 11 (.bool false) rfl HG2.out ?_
  refine hs 7 12 rfl HG2.out ?_
  refine hs 8 13 rfl HG2.out ?_
  refine hs 9 14 rfl HG2.out ?_
  refine hs 10 15 rfl HG2.out ?_
  refine hs 11 16 rfl HG2.out ?_
  refine hs 12 17 rfl HG2.out ?_
  refine hs 13 18 rfl HG2.out ?_
  refine hs 14 19 rfl HG2.out ?_
  refine hs 15 20 rfl HG2.out ?_
  refine hs 16 21 rfl HG2.out ?_
  refine hs 17 22 rfl HG2.out ?_
  refine hs 18 23 rfl HG2.out ?_
  refine hp 19 24 (.bool false) rfl HG2.out ?_
  refine hp 20 4 (.bool false) rfl HG2.out ?_
  refine wpAnyH_done (by kernel_rfl) ?_ _
  go_wp2_with fail
  go_ret
  exact ⟨ret_b (by rw [HE.out]; rfl), HG0.out.then_non HG2.out⟩
 | true =>
 cases hc1 : decide (e1 ≤ b2) with
 | true =>
  go_enter Tryz.func131, Tryz.ntmps131
  go_wp2_with fail
  refine wp_region_held_drew (S := Chg Non ((w.alloc (.cells #[.int .i64 b1, .int .i64 s1] 81)).alloc (.cells #[.int .i64 b2, .int .i64 s2] 81)).drew) (by kernel_rfl) (Chg.refl _ _) (fun hHeld => ?_)
  clear hHeld
  generalize ((w.alloc (.cells #[.int .i64 b1, .int .i64 s1] 81)).alloc (.cells #[.int .i64 b2, .int .i64 s2] 81)).drew = v at *
  refine hp 0 5 (.agg #[.int .i64 b1, .int .i64 s1]) rfl (Chg.refl Non _) ?_ (he := (fun W hW => by have h0 := hW.cell_some a0 (fun e => e); have h1 := hW.cell_some a1 (fun e => e); go_simp))
  refine h_one 1 (by kernel_rfl) rfl (by kernel_rfl) ?_
  intro K hK
  go_simp
  refine (HM1.out _).mono ?_
  rintro e u1 ⟨rfl, hg⟩
  have HG1 := Lib.hid (Chg.then_non (Chg.refl Non _) hg)
  clear hg
  refine hK.out _ _ HG1.out (fun _ => ?_)
  clear hK K
  try simp only [Act.put, sA, sB, sC]
  refine hp 2 7 (.bool true) rfl HG1.out ?_
  refine hp 3 8 (.agg #[.int .i64 b2, .int .i64 s2]) rfl HG1.out ?_ (he := (fun W hW => by have h0 := hW.cell_some q0 (fun e => e); have h1 := hW.cell_some q1 (fun e => e); go_simp))
  refine h_one 4 (by kernel_rfl) rfl (by kernel_rfl) ?_
  intro K hK
  go_simp
  refine (HM2.out _).mono ?_
  rintro e u2 ⟨rfl, hg⟩
  have HG2 := Lib.hid (Chg.then_non HG1.out hg)
  clear hg
  refine hK.out _ _ HG2.out (fun _ => ?_)
  clear hK K
  try simp only [Act.put, sA, sB, sC]
  refine hp 5 10 (.bool true) rfl HG2.out ?_
  refine hp 6 11 (.bool true) rfl HG2.out ?_
  refine hp 7 12 (.agg #[.int .i64 b1, .int .i64 s1]) rfl HG2.out ?_ (he := (fun W hW => by have h0 := hW.cell_some a0 (fun e => e); have h1 := hW.cell_some a1 (fun e => e); go_simp))
  refine hp 9 14 (.pointer (some ⟨w.heap.size + 1, 0, none⟩)) rfl HG2.out ?_
  refine hp 10 15 (.int .i64 b2) rfl HG2.out ?_ (he := (fun W hW => by have h0 := hW.cell_some q0 (fun e => e); go_simp))
  refine h_one 8 (by kernel_rfl) rfl (by kernel_rfl) ?_
  intro K hK
  go_simp
  refine (HE1.out _).mono ?_
  rintro e u3 ⟨rfl, hg⟩
  have HG3 := Lib.hid (Chg.then_non HG2.out hg)
  clear hg
  refine hK.out _ _ HG3.out (fun _ => ?_)
  clear hK K
  try simp only [Act.put, sA, sB, sC]
  refine hp 11 16 (.bool true) rfl HG3.out ?_
  refine hp 12 17 (.bool true) rfl HG3.out ?_
  refine hs 13 18 rfl HG3.out ?_
  refine hs 14 19 rfl HG3.out ?_
  refine hs 15 20 rfl HG3.out ?_
  refine hs 16 21 rfl HG3.out ?_
  refine hs 17 22 rfl HG3.out ?_
  refine hp 18 23 (.bool true) rfl HG3.out ?_
  refine hp 19 24 (.bool true) rfl HG3.out ?_
  refine hp 20 4 (.bool true) rfl HG3.out ?_
  refine wpAnyH_done (by kernel_rfl) ?_ _
  go_wp2_with fail
  go_ret
  exact ⟨ret_b (by rw [HE.out, hc1]; rfl), HG0.out.then_non HG3.out⟩
 | false =>
 cases hc2 : decide (e2 ≤ b1) with
 | true =>
  go_enter Tryz.func131, Tryz.ntmps131
  go_wp2_with fail
  refine wp_region_held_drew (S := Chg Non ((w.alloc (.cells #[.int .i64 b1, .int .i64 s1] 81)).alloc (.cells #[.int .i64 b2, .int .i64 s2] 81)).drew) (by kernel_rfl) (Chg.refl _ _) (fun hHeld => ?_)
  clear hHeld
  generalize ((w.alloc (.cells #[.int .i64 b1, .int .i64 s1] 81)).alloc (.cells #[.int .i64 b2, .int .i64 s2] 81)).drew = v at *
  refine hp 0 5 (.agg #[.int .i64 b1, .int .i64 s1]) rfl (Chg.refl Non _) ?_ (he := (fun W hW => by have h0 := hW.cell_some a0 (fun e => e); have h1 := hW.cell_some a1 (fun e => e); go_simp))
  refine h_one 1 (by kernel_rfl) rfl (by kernel_rfl) ?_
  intro K hK
  go_simp
  refine (HM1.out _).mono ?_
  rintro e u1 ⟨rfl, hg⟩
  have HG1 := Lib.hid (Chg.then_non (Chg.refl Non _) hg)
  clear hg
  refine hK.out _ _ HG1.out (fun _ => ?_)
  clear hK K
  try simp only [Act.put, sA, sB, sC]
  refine hp 2 7 (.bool true) rfl HG1.out ?_
  refine hp 3 8 (.agg #[.int .i64 b2, .int .i64 s2]) rfl HG1.out ?_ (he := (fun W hW => by have h0 := hW.cell_some q0 (fun e => e); have h1 := hW.cell_some q1 (fun e => e); go_simp))
  refine h_one 4 (by kernel_rfl) rfl (by kernel_rfl) ?_
  intro K hK
  go_simp
  refine (HM2.out _).mono ?_
  rintro e u2 ⟨rfl, hg⟩
  have HG2 := Lib.hid (Chg.then_non HG1.out hg)
  clear hg
  refine hK.out _ _ HG2.out (fun _ => ?_)
  clear hK K
  try simp only [Act.put, sA, sB, sC]
  refine hp 5 10 (.bool true) rfl HG2.out ?_
  refine hp 6 11 (.bool true) rfl HG2.out ?_
  refine hp 7 12 (.agg #[.int .i64 b1, .int .i64 s1]) rfl HG2.out ?_ (he := (fun W hW => by have h0 := hW.cell_some a0 (fun e => e); have h1 := hW.cell_some a1 (fun e => e); go_simp))
  refine hp 9 14 (.pointer (some ⟨w.heap.size + 1, 0, none⟩)) rfl HG2.out ?_
  refine hp 10 15 (.int .i64 b2) rfl HG2.out ?_ (he := (fun W hW => by have h0 := hW.cell_some q0 (fun e => e); go_simp))
  refine h_one 8 (by kernel_rfl) rfl (by kernel_rfl) ?_
  intro K hK
  go_simp
  refine (HE1.out _).mono ?_
  rintro e u3 ⟨rfl, hg⟩
  have HG3 := Lib.hid (Chg.then_non HG2.out hg)
  clear hg
  refine hK.out _ _ HG3.out (fun _ => ?_)
  clear hK K
  try simp only [Act.put, sA, sB, sC]
  refine hp 11 16 (.bool false) rfl HG3.out ?_
  refine hp 12 17 (.bool false) rfl HG3.out ?_
  refine hp 13 18 (.agg #[.int .i64 b2, .int .i64 s2]) rfl HG3.out ?_ (he := (fun W hW => by have h0 := hW.cell_some q0 (fun e => e); have h1 := hW.cell_some q1 (fun e => e); go_simp))
  refine hp 15 20 (.pointer (some ⟨w.heap.size, 0, none⟩)) rfl HG3.out ?_
  refine hp 16 21 (.int .i64 b1) rfl HG3.out ?_ (he := (fun W hW => by have h0 := hW.cell_some a0 (fun e => e); go_simp))
  refine h_one 14 (by kernel_rfl) rfl (by kernel_rfl) ?_
  intro K hK
  go_simp
  refine (HE2.out _).mono ?_
  rintro e u4 ⟨rfl, hg⟩
  have HG4 := Lib.hid (Chg.then_non HG3.out hg)
  clear hg
  refine hK.out _ _ HG4.out (fun _ => ?_)
  clear hK K
  try simp only [Act.put, sA, sB, sC]
  refine hp 17 22 (.bool true) rfl HG4.out ?_
  refine hp 18 23 (.bool true) rfl HG4.out ?_
  refine hp 19 24 (.bool true) rfl HG4.out ?_
  refine hp 20 4 (.bool true) rfl HG4.out ?_
  refine wpAnyH_done (by kernel_rfl) ?_ _
  go_wp2_with fail
  go_ret
  exact ⟨ret_b (by rw [HE.out, hc1, hc2]; rfl), HG0.out.then_non HG4.out⟩
 | false =>
  go_enter Tryz.func131, Tryz.ntmps131
  go_wp2_with fail
  refine wp_region_held_drew (S := Chg Non ((w.alloc (.cells #[.int .i64 b1, .int .i64 s1] 81)).alloc (.cells #[.int .i64 b2, .int .i64 s2] 81)).drew) (by kernel_rfl) (Chg.refl _ _) (fun hHeld => ?_)
  clear hHeld
  generalize ((w.alloc (.cells #[.int .i64 b1, .int .i64 s1] 81)).alloc (.cells #[.int .i64 b2, .int .i64 s2] 81)).drew = v at *
  refine hp 0 5 (.agg #[.int .i64 b1, .int .i64 s1]) rfl (Chg.refl Non _) ?_ (he := (fun W hW => by have h0 := hW.cell_some a0 (fun e => e); have h1 := hW.cell_some a1 (fun e => e); go_simp))
  refine h_one 1 (by kernel_rfl) rfl (by kernel_rfl) ?_
  intro K hK
  go_simp
  refine (HM1.out _).mono ?_
  rintro e u1 ⟨rfl, hg⟩
  have HG1 := Lib.hid (Chg.then_non (Chg.refl Non _) hg)
  clear hg
  refine hK.out _ _ HG1.out (fun _ => ?_)
  clear hK K
  try simp only [Act.put, sA, sB, sC]
  refine hp 2 7 (.bool true) rfl HG1.out ?_
  refine hp 3 8 (.agg #[.int .i64 b2, .int .i64 s2]) rfl HG1.out ?_ (he := (fun W hW => by have h0 := hW.cell_some q0 (fun e => e); have h1 := hW.cell_some q1 (fun e => e); go_simp))
  refine h_one 4 (by kernel_rfl) rfl (by kernel_rfl) ?_
  intro K hK
  go_simp
  refine (HM2.out _).mono ?_
  rintro e u2 ⟨rfl, hg⟩
  have HG2 := Lib.hid (Chg.then_non HG1.out hg)
  clear hg
  refine hK.out _ _ HG2.out (fun _ => ?_)
  clear hK K
  try simp only [Act.put, sA, sB, sC]
  refine hp 5 10 (.bool true) rfl HG2.out ?_
  refine hp 6 11 (.bool true) rfl HG2.out ?_
  refine hp 7 12 (.agg #[.int .i64 b1, .int .i64 s1]) rfl HG2.out ?_ (he := (fun W hW => by have h0 := hW.cell_some a0 (fun e => e); have h1 := hW.cell_some a1 (fun e => e); go_simp))
  refine hp 9 14 (.pointer (some ⟨w.heap.size + 1, 0, none⟩)) rfl HG2.out ?_
  refine hp 10 15 (.int .i64 b2) rfl HG2.out ?_ (he := (fun W hW => by have h0 := hW.cell_some q0 (fun e => e); go_simp))
  refine h_one 8 (by kernel_rfl) rfl (by kernel_rfl) ?_
  intro K hK
  go_simp
  refine (HE1.out _).mono ?_
  rintro e u3 ⟨rfl, hg⟩
  have HG3 := Lib.hid (Chg.then_non HG2.out hg)
  clear hg
  refine hK.out _ _ HG3.out (fun _ => ?_)
  clear hK K
  try simp only [Act.put, sA, sB, sC]
  refine hp 11 16 (.bool false) rfl HG3.out ?_
  refine hp 12 17 (.bool false) rfl HG3.out ?_
  refine hp 13 18 (.agg #[.int .i64 b2, .int .i64 s2]) rfl HG3.out ?_ (he := (fun W hW => by have h0 := hW.cell_some q0 (fun e => e); have h1 := hW.cell_some q1 (fun e => e); go_simp))
  refine hp 15 20 (.pointer (some ⟨w.heap.size, 0, none⟩)) rfl HG3.out ?_
  refine hp 16 21 (.int .i64 b1) rfl HG3.out ?_ (he := (fun W hW => by have h0 := hW.cell_some a0 (fun e => e); go_simp))
  refine h_one 14 (by kernel_rfl) rfl (by kernel_rfl) ?_
  intro K hK
  go_simp
  refine (HE2.out _).mono ?_
  rintro e u4 ⟨rfl, hg⟩
  have HG4 := Lib.hid (Chg.then_non HG3.out hg)
  clear hg
  refine hK.out _ _ HG4.out (fun _ => ?_)
  clear hK K
  try simp only [Act.put, sA, sB, sC]
  refine hp 17 22 (.bool false) rfl HG4.out ?_
  refine hp 18 23 (.bool false) rfl HG4.out ?_
  refine hp 19 24 (.bool false) rfl HG4.out ?_
  refine hp 20 4 (.bool false) rfl HG4.out ?_
  refine wpAnyH_done (by kernel_rfl) ?_ _
  go_wp2_with fail
  go_ret
  exact ⟨ret_b (by rw [HE.out, hc1, hc2]; rfl), HG0.out.then_non HG4.out⟩
end
end Go.Proofs.YtmnaleaghfbclaaGreatDoor
