/- CheckPlays, part 26 of 27: contracts of the functions that it reaches, and the laws that they need, merged and shortened (from my texts XSa, XSb, XPkW, XPost, XOpen, XSized). -/
import Derived.Test.YtkgnlobabknkcaaGreatMgCheckPlaysA
import Derived.Test.YtkgnlobabknkcaaGreatMgCheckPlaysB
import Derived.Test.YtkgnlobabknkcaaGreatMgCheckPlaysL
import Derived.Test.YtkgnlobabknkcaaGreatMgCheckPlaysY
import Derived.ProofKit
import Derived.WalkKit
import Derived.OpenShut
import Derived.ReadAgain
import Derived.SizedLaws
namespace Go.Proofs.YtkgnlobabknkcaaGreat
set_option linter.unusedVariables false
set_option linter.unusedSimpArgs false
set_option maxHeartbeats 8000000
set_option maxRecDepth 100000
section
open Go.RowKit
theorem keyLits_u32s {P : Program} {e : TypeId} {D : Nat} (he : P.underlying e = some (.int .u32)) (b : Nat) (h : b < 4294967296) : P.keyLits (D + 1) e [.int .u32 b] = some [.int .u32 (b : Int)] := by
 unfold Program.keyLits
 rw [he]
 have hw : (Lit.int .u32 (b : Int)).wf = true := WalkArith.wf_u32 (by omega)
 simp only [true_and, hw, if_true]
def rgC (p : Pt) : Array Value := #[.int .u32 (p.g 0 : Nat), .int .u32 (p.g 1 : Nat), .int .u32 (p.g 2 : Nat), .int .u32 (p.g 3 : Nat), .int .u32 (p.g 4 : Nat), .int .u32 (p.g 5 : Nat), .int .u32 (p.g 6 : Nat), .int .u32 (p.g 7 : Nat)]
def rgLits (p : Pt) : List Lit := [.int .u32 (p.g 0 : Nat), .int .u32 (p.g 1 : Nat), .int .u32 (p.g 2 : Nat), .int .u32 (p.g 3 : Nat), .int .u32 (p.g 4 : Nat), .int .u32 (p.g 5 : Nat), .int .u32 (p.g 6 : Nat), .int .u32 (p.g 7 : Nat)]
theorem keyLits_rg (p : Pt) (h : p.Bd) : Tryz.prog.keyLits 3 102 (rgC p).toList = some (rgLits p) := by
 unfold Program.keyLits
 rw [Tryz.underlying102]
 have c8 : Tryz.prog.cellsOf 102 = 8 := by kernel_rfl
 have c1 : Tryz.prog.cellsOf 76 = 1 := by kernel_rfl
 have k : ∀ i, Tryz.prog.keyLits 2 76 [.int .u32 (p.g i : Nat)] = some [.int .u32 ((p.g i : Nat) : Int)] := fun i => keyLits_u32s (D := 1) Tryz.underlying76 _ (h.rb i)
 simp [rgC, c1, c8, k, rgLits, List.range, List.range.loop]
theorem rg_formed (p : Pt) : (Value.agg (rgC p)).formed Tryz.prog 102 = true := by
 have c8 : Tryz.prog.cellsOf 102 = 8 := by kernel_rfl
 unfold Value.formed
 rw [Tryz.underlying102]
 simp [c8, rgC]
theorem eq_rg (p : Pt) (h : p.Bd) (w : World) : (binOp .eql 102 (.agg (rgC p)) (.agg (rgC p))).run Tryz.prog w = .ok (.bool true) w := by
 have := (eq_agg (P := Tryz.prog) (t := 102) (p := True) (by simp) 3 (by omega) (by kernel_rfl) (rg_formed p) (rg_formed p) (keyLits_rg p h) (keyLits_rg p h) w).1
 simpa using this
theorem PartB.rgs {W : World} {b : Nat} {p : Pt} {m : Value} (h : PartB W b p m) : W.rangeAt b 3 (rgC p).toList := by
 intro j v hv
 have hj : j < 8 := by have := (List.getElem?_eq_some_iff.1 hv).1; simpa [rgC] using this
 have hr := h.reg j hj
 rw [hr]
 have h' : j = 0 ∨ j = 1 ∨ j = 2 ∨ j = 3 ∨ j = 4 ∨ j = 5 ∨ j = 6 ∨ j = 7 := by omega
 rcases h' with rfl | rfl | rfl | rfl | rfl | rfl | rfl | rfl <;> simpa [rgC] using hv
theorem info_rg : (Tryz.prog.info? 102).map (·.size) = some 8 := by kernel_rfl
theorem r20_eq (p : Pt) (A1 A2 : Option Addr) (c1 c2 : Nat) (w : World) (hb : p.Bd) (h1 : Rd w A1 p.mem) (h2 : Rd w A2 p.mem) :
  Calls Tryz.prog 50 #[.agg (partC p (.slice A1 p.mem.length c1)), .agg (partC p (.slice A2 p.mem.length c2))] w fun e w' => e = .returned (.bool true) ∧ Chg Non w w' := by
 have h8 := hb.r8
 have hg0 : Chg Non w ((w.alloc (.cells (partC p (.slice A1 p.mem.length c1)) 104)).alloc (.cells (partC p (.slice A2 p.mem.length c2)) 104)) := ((Chg.refl Non w).alloc _).alloc _
 have hp1 : PartB ((w.alloc (.cells (partC p (.slice A1 p.mem.length c1)) 104)).alloc (.cells (partC p (.slice A2 p.mem.length c2)) 104)) w.heap.size p (.slice A1 p.mem.length c1) := ⟨al_2_0 _ _ _, h8⟩
 have hp2 : PartB ((w.alloc (.cells (partC p (.slice A1 p.mem.length c1)) 104)).alloc (.cells (partC p (.slice A2 p.mem.length c2)) 104)) (w.heap.size + 1) p (.slice A2 p.mem.length c2) := ⟨al_2_1 _ _ _, h8⟩
 have hs1 := str_of A1 p.mem c1 _ (h1.non hg0)
 have hs2 := str_of A2 p.mem c2 _ (h2.non hg0)
 obtain ⟨C1, hC1⟩ : ∃ C, partC p (.slice A1 p.mem.length c1) = C := ⟨_, rfl⟩
 obtain ⟨C2, hC2⟩ : ∃ C, partC p (.slice A2 p.mem.length c2) = C := ⟨_, rfl⟩
 have z1 : C1.size = 14 := by rw [← hC1]; exact partC_size h8 _
 have z2 : C2.size = 14 := by rw [← hC2]; exact partC_size h8 _
 rw [hC1, hC2] at hp1 hp2 hg0 hs1 hs2 ⊢
 clear hC1 hC2
 have HP1 := Lh hp1
 have HP2 := Lh hp2
 have HG0 := Lh hg0
 have he8 := eq_rg p hb
 obtain ⟨a0, a1, a2, a3, a4, a5⟩ := hp1.cells
 obtain ⟨d0, d1, d2, d3, d4, d5⟩ := hp2.cells
 clear hp1 hp2 hg0 h1 h2
 go_enter Tryz.func50, Tryz.ntmps50
 go_wp2_with (first
   | (refine sel (some 26) (.load 102 (.tmp 25)) ?_; refine wpList_loadW (some 26) 102 (.tmp 25) w.heap.size 3 (rgC p) _ rfl rfl (by kernel_rfl) rfl HP1.out.rgs Tryz.underlying102 rfl info_rg ?_)
   | (refine sel (some 28) (.load 102 (.tmp 27)) ?_; refine wpList_loadW (some 28) 102 (.tmp 27) (w.heap.size + 1) 3 (rgC p) _ rfl rfl (by kernel_rfl) rfl HP2.out.rgs Tryz.underlying102 rfl info_rg ?_))
 go_ret
 exact ⟨by simp, HG0.out⟩
theorem neq_ch (p : Ch) (hp : p.Bd) (w : World) : (binOp .neq 107 (.agg p.C) (.agg p.C)).run Tryz.prog w = .ok (.bool false) w := by
 have := (eq_agg chLits_inj 3 (by omega) (by kernel_rfl) (ch_formed p) (ch_formed p) (keyLits_ch p hp) (keyLits_ch p hp) w).2
 simpa using this
theorem r10_eq (I1 I2 : Nat → Prop) (q : Qu) (m1 m2 : Value) (w : World) (hb : q.ch.Bd) (h1 : SlV (msgV I1) I1 1 w q.msgs m1) (h2 : SlV (msgV I2) I2 1 w q.msgs m2) (hl : q.msgs.length ≤ 140737488351232) :
  Calls Tryz.prog 51 #[.agg (q.L m1).toArray, .agg (q.L m2).toArray] w fun e w' => e = .returned (.bool true) ∧ Chg Non w w' := by
 obtain ⟨A1, c1, rfl, hc1, hm1, hr1⟩ := h1
 obtain ⟨A2, c2, rfl, hc2, hm2, hr2⟩ := h2
 have HR1 := Lh (fun W (hg : Chg Non w W) => hr1.keep hg (fun _ _ e => e) (fun a vs _ h => msgV.keep h hg (fun _ _ e => e)))
 have HR2 := Lh (fun W (hg : Chg Non w W) => hr2.keep hg (fun _ _ e => e) (fun a vs _ h => msgV.keep h hg (fun _ _ e => e)))
 have HE := Lh (fun W => neq_ch q.ch hb W)
 obtain ⟨⟨x1, x2, x3, x4, x5⟩, ms⟩ := q
 simp only [Qu.L] at HR1 HR2 HE hc1 hc2 hl ⊢
 have hne : ∀ W, (binOp .neq 107 (.agg #[.int .i64 x1, .int .i64 x2, .int .i64 x3, .int .i64 x4, .int .i64 x5]) (.agg #[.int .i64 x1, .int .i64 x2, .int .i64 x3, .int .i64 x4, .int .i64 x5])).run Tryz.prog W = .ok (.bool false) W := fun W => HE.out W
 unfold maxLen at hm1 hm2
 clear hr1 hr2 hb HE
 go_enter Tryz.func51, Tryz.ntmps51
 go_wp2_with fail
 obtain ⟨W1, hW1⟩ : ∃ W1, (w.alloc (.cells #[.int .i64 x1, .int .i64 x2, .int .i64 x3, .int .i64 x4, .int .i64 x5, .slice A1 ms.length c1] 110)).alloc (.cells #[.int .i64 x1, .int .i64 x2, .int .i64 x3, .int .i64 x4, .int .i64 x5, .slice A2 ms.length c2] 110) = W1 := ⟨_, rfl⟩
 have HG1 : Hid (Chg Non w W1) := Lh (by rw [← hW1]; exact ((Chg.refl Non w).alloc _).alloc _)
 have HB1 : Hid (W1.heap[w.heap.size]? = some (.cells #[.int .i64 x1, .int .i64 x2, .int .i64 x3, .int .i64 x4, .int .i64 x5, .slice A1 ms.length c1] 110 (0, 0))) := Lh (by rw [← hW1]; exact al_2_0 _ _ _)
 have HB2 : Hid (W1.heap[w.heap.size + 1]? = some (.cells #[.int .i64 x1, .int .i64 x2, .int .i64 x3, .int .i64 x4, .int .i64 x5, .slice A2 ms.length c2] 110 (0, 0))) := Lh (by rw [← hW1]; exact al_2_1 _ _ _)
 rw [hW1]
 clear hW1
 obtain ⟨b0, hb0⟩ : ∃ b, w.heap.size = b := ⟨_, rfl⟩
 rw [hb0] at HB1 HB2 ⊢
 clear hb0 hne
 go_loopw [5] (fun iv wr => ∃ k : Nat, k ≤ ms.length ∧ iv = .int .i64 k ∧ Hid (Chg Non W1 wr)) (fun iv _ => ms.length - (intOf iv).toNat)
 case atStart => exact ⟨0, Nat.zero_le _, rfl, Lh (Chg.refl _ _)⟩
 case round =>
  obtain ⟨k, hk, rfl, HG⟩ := hrel
  have c5 := blk_cell (blk_keep HB1.out HG.out (fun e => e)) 5 (v := .slice A1 ms.length c1) rfl
  by_cases hlt : k < ms.length
  ·have hltd : decide ((k : Int) < (ms.length : Int)) = true := by simpa using hlt
   go_wp2_with fail
   obtain ⟨V, hV⟩ : ∃ V, V = wr.drew := ⟨_, rfl⟩
   have hgV : Chg Non W1 V := by rw [hV]; exact HG.out.drew
   have HGV := Lh hgV
   obtain ⟨a, ha⟩ : ∃ a, ms[k]? = some a := ⟨_, List.getElem?_eq_getElem hlt⟩
   obtain ⟨b1, o1, vs1, rfl, _, hl1, hcell1, m1, rfl, ⟨Am, cm, rfl, hq1, hq2, hrd1, _⟩, hq3⟩ := HR1.out V (HG1.out.then_non hgV) k a ha
   obtain ⟨b2, o2, vs2, rfl, _, hl2, hcell2, m2, rfl, ⟨An, cn, rfl, hq4, hq5, hrd2, _⟩, hq6⟩ := HR2.out V (HG1.out.then_non hgV) k a ha
   have k1 := hcell1 0 _ rfl
   have k2 := hcell2 0 _ rfl
   rw [Nat.mul_one, Nat.add_zero] at k1 k2
   have K1 := Lh k1
   have K2 := Lh k2
   have D1 := Lh (blk_cell (blk_keep HB1.out hgV (fun e => e)) 5 (v := .slice (some ⟨b1, o1, none⟩) ms.length c1) rfl)
   have D2 := Lh (blk_cell (blk_keep HB2.out hgV (fun e => e)) 5 (v := .slice (some ⟨b2, o2, none⟩) ms.length c2) rfl)
   have HT1 := Lh (fun W (hW : Chg Non V W) => str_of Am a cm W (hrd1.non hW))
   have HT2 := Lh (fun W (hW : Chg Non V W) => str_of An a cn W (hrd2.non hW))
   clear hgV ha hl1 hcell1 hl2 hcell2 k1 k2 hrd1 hrd2 c5 hltd
   refine wp_region_held_drew (S := Chg Non V) (by kernel_rfl) (by rw [hV]; exact Chg.refl _ _) (fun hHeld => ?_)
   clear hHeld
   rw [← hV]
   clear hV
   have HS : Hid (Chg Non V V) := Lh (Chg.refl _ _)
   refine hp 0 27 (.pointer (some ⟨b0, 5, none⟩)) rfl HS.out ?_
   refine hp 1 28 (.slice (some ⟨b1, o1, none⟩) ms.length c1) rfl HS.out ?_ (he := fun W hW => by have hc := hW.cell_some D1.out (fun e => e); go_simp)
   refine hp 2 29 (.int .i64 (k : Int)) rfl HS.out ?_
   refine hp 3 30 (.pointer (some ⟨b1, o1 + k, none⟩)) rfl HS.out ?_
   refine hp 4 31 (.slice Am a.length cm) rfl HS.out ?_ (he := fun W hW => by have hc := hW.cell_some K1.out (fun e => e); go_simp)
   refine hp 5 32 (.string ⟨a.toArray⟩) rfl HS.out ?_ (he := fun W hW => by have hc := HT1.out W hW; go_simp)
   refine hp 6 33 (.pointer (some ⟨b0 + 1, 5, none⟩)) rfl HS.out ?_
   refine hp 7 34 (.slice (some ⟨b2, o2, none⟩) ms.length c2) rfl HS.out ?_ (he := fun W hW => by have hc := hW.cell_some D2.out (fun e => e); go_simp)
   refine hp 8 35 (.int .i64 (k : Int)) rfl HS.out ?_
   refine hp 9 36 (.pointer (some ⟨b2, o2 + k, none⟩)) rfl HS.out ?_
   refine hp 10 37 (.slice An a.length cn) rfl HS.out ?_ (he := fun W hW => by have hc := hW.cell_some K2.out (fun e => e); go_simp)
   refine hp 11 38 (.string ⟨a.toArray⟩) rfl HS.out ?_ (he := fun W hW => by have hc := HT2.out W hW; go_simp)
   refine hp 12 39 (.bool false) rfl HS.out ?_
   refine hdn ?_ _
   go_wp2_with fail
   exact ⟨⟨k + 1, by omega, by simp, HGV⟩, by simp [intOf]; omega⟩
  ·obtain rfl : k = ms.length := by omega
   have hltd : decide ((ms.length : Int) < (ms.length : Int)) = false := by simp
   go_wp2_with fail
   go_ret
   exact ⟨rfl, HG1.out.then_non HG.out⟩
end
section
open Go.RowKit
theorem info_partS : (Tryz.prog.info? 104).map (·.size) = some 14 := by kernel_rfl
theorem r21_eq (I1 I2 : Nat → Prop) (s : Sta) (vb1 vd1 vb2 vd2 : Value) (w : World) (h1 : StaV I1 w s vb1 vd1) (h2 : StaV I2 w s vb2 vd2) :
  Calls Tryz.prog 16 #[.agg #[.int .i64 s.frames, vb1, vd1], .agg #[.int .i64 s.frames, vb2, vd2]] w fun e w' => e = .returned (.bool true) ∧ Chg Non w w' := by
 obtain ⟨⟨A1p, c1p, rfl, hc1, hm1, hr1⟩, ⟨A1q, c1q, rfl, hc3, hm3, hr3⟩⟩ := h1
 obtain ⟨⟨A2p, c2p, rfl, hc2, hm2, hr2⟩, ⟨A2q, c2q, rfl, hc4, hm4, hr4⟩⟩ := h2
 have HR1p := Lh (fun W (hg : Chg Non w W) => hr1.keep hg (fun _ _ e => e) (fun a vs _ h => ptV.keep h hg (fun _ _ e => e)))
 have HR2p := Lh (fun W (hg : Chg Non w W) => hr2.keep hg (fun _ _ e => e) (fun a vs _ h => ptV.keep h hg (fun _ _ e => e)))
 have HR1q := Lh (fun W (hg : Chg Non w W) => hr3.keep hg (fun _ _ e => e) (fun a vs _ h => quV.keep h hg (fun _ _ e => e)))
 have HR2q := Lh (fun W (hg : Chg Non w W) => hr4.keep hg (fun _ _ e => e) (fun a vs _ h => quV.keep h hg (fun _ _ e => e)))
 unfold maxLen at hm1 hm2 hm3 hm4
 clear hr1 hr2 hr3 hr4
 go_enter Tryz.func16, Tryz.ntmps16
 go_wp2_with fail
 obtain ⟨W1, hW1⟩ : ∃ W1, (w.alloc (.cells #[.int .i64 s.frames, .slice A1p s.parts.length c1p, .slice A1q s.queues.length c1q] 25)).alloc (.cells #[.int .i64 s.frames, .slice A2p s.parts.length c2p, .slice A2q s.queues.length c2q] 25) = W1 := ⟨_, rfl⟩
 have HG1 : Hid (Chg Non w W1) := Lh (by rw [← hW1]; exact ((Chg.refl Non w).alloc _).alloc _)
 have HB1 : Hid (W1.heap[w.heap.size]? = some (.cells #[.int .i64 s.frames, .slice A1p s.parts.length c1p, .slice A1q s.queues.length c1q] 25 (0, 0))) := Lh (by rw [← hW1]; exact al_2_0 _ _ _)
 have HB2 : Hid (W1.heap[w.heap.size + 1]? = some (.cells #[.int .i64 s.frames, .slice A2p s.parts.length c2p, .slice A2q s.queues.length c2q] 25 (0, 0))) := Lh (by rw [← hW1]; exact al_2_1 _ _ _)
 rw [hW1]
 clear hW1
 obtain ⟨b0, hb0⟩ : ∃ b, w.heap.size = b := ⟨_, rfl⟩
 rw [hb0] at HB1 HB2 ⊢
 clear hb0
 go_loopw [5] (fun iv wr => ∃ k : Nat, k ≤ s.parts.length ∧ iv = .int .i64 k ∧ Hid (Chg Non W1 wr)) (fun iv _ => s.parts.length - (intOf iv).toNat)
 case atStart => exact ⟨0, Nat.zero_le _, rfl, Lh (Chg.refl _ _)⟩
 case round =>
  obtain ⟨k, hk, rfl, HG⟩ := hrel
  have c5 := blk_cell (blk_keep HB1.out HG.out (fun e => e)) 1 (v := .slice A1p s.parts.length c1p) rfl
  by_cases hlt : k < s.parts.length
  ·have hltd : decide ((k : Int) < (s.parts.length : Int)) = true := by simpa using hlt
   go_wp2_with fail
   obtain ⟨V, hV⟩ : ∃ V, V = wr.drew := ⟨_, rfl⟩
   have hgV : Chg Non W1 V := by rw [hV]; exact HG.out.drew
   have HGV := Lh hgV
   obtain ⟨a, ha⟩ : ∃ a, s.parts[k]? = some a := ⟨_, List.getElem?_eq_getElem hlt⟩
   obtain ⟨e1, o1, vs1, rfl, _, hl1, hcell1, m1, rfl, hx1⟩ := HR1p.out V (HG1.out.then_non hgV) k a ha
   have K1 := Lh hcell1
   have D1 := Lh (blk_cell (blk_keep HB1.out hgV (fun e => e)) 1 (v := .slice (some ⟨e1, o1, none⟩) s.parts.length c1p) rfl)
   have X1 := Lh hx1
   obtain ⟨e2, o2, vs2, rfl, _, hl2, hcell2, m2, rfl, hx2⟩ := HR2p.out V (HG1.out.then_non hgV) k a ha
   have K2 := Lh hcell2
   have D2 := Lh (blk_cell (blk_keep HB2.out hgV (fun e => e)) 1 (v := .slice (some ⟨e2, o2, none⟩) s.parts.length c2p) rfl)
   have X2 := Lh hx2
   clear hgV ha hl1 hcell1 hl2 hcell2 hx1 hx2 c5 hltd
   refine wp_region_held_drew (S := Chg Non V) (by kernel_rfl) (by rw [hV]; exact Chg.refl _ _) (fun hHeld => ?_)
   clear hHeld
   rw [← hV]
   clear hV
   have HS : Hid (Chg Non V V) := Lh (Chg.refl _ _)
   refine hp 0 37 (.pointer (some ⟨b0, 1, none⟩)) rfl HS.out ?_
   refine hp 1 38 (.slice (some ⟨e1, o1, none⟩) s.parts.length c1p) rfl HS.out ?_ (he := fun W hW => by have hc := hW.cell_some D1.out (fun e => e); go_simp)
   refine hp 2 39 (.int .i64 (k : Int)) rfl HS.out ?_
   refine hp 3 40 (.pointer (some ⟨e1, o1 + k * 14, none⟩)) rfl HS.out ?_
   refine h_load 4 (some 41) 104 (.tmp 40) e1 (o1 + k * 14) (partL a m1).toArray _ rfl (by kernel_rfl) (by kernel_rfl) (by kernel_rfl) (by kernel_rfl) (by kernel_rfl) (fun _ _ _ h => h) (by kernel_rfl) (by kernel_rfl) (fun W hW => range_keepS K1.out hW (fun e => e)) Tryz.underlying104 rfl (by rw [show (partL a _).toArray.size = 14 from partC_size (X1.out.2.1).r8 _]; exact info_partS) HS.out ?_
   try simp only [Act.put, sA, sB, sC]
   refine hp 5 42 (.pointer (some ⟨b0 + 1, 1, none⟩)) rfl HS.out ?_
   refine hp 6 43 (.slice (some ⟨e2, o2, none⟩) s.parts.length c2p) rfl HS.out ?_ (he := fun W hW => by have hc := hW.cell_some D2.out (fun e => e); go_simp)
   refine hp 7 44 (.int .i64 (k : Int)) rfl HS.out ?_
   refine hp 8 45 (.pointer (some ⟨e2, o2 + k * 14, none⟩)) rfl HS.out ?_
   refine h_load 9 (some 46) 104 (.tmp 45) e2 (o2 + k * 14) (partL a m2).toArray _ rfl (by kernel_rfl) (by kernel_rfl) (by kernel_rfl) (by kernel_rfl) (by kernel_rfl) (fun _ _ _ h => h) (by kernel_rfl) (by kernel_rfl) (fun W hW => range_keepS K2.out hW (fun e => e)) Tryz.underlying104 rfl (by rw [show (partL a _).toArray.size = 14 from partC_size (X1.out.2.1).r8 _]; exact info_partS) HS.out ?_
   try simp only [Act.put, sA, sB, sC]
   refine h1o 10 rfl ?_
   intro K hK
   go_simp
   obtain ⟨⟨Am, cm, rfl, _, _, hr1, _⟩, hbd, _⟩ := X1.out
   obtain ⟨⟨An, cn, rfl, _, _, hr2, _⟩, _, _⟩ := X2.out
   refine (r20_eq a Am An cm cn V hbd hr1 hr2).mono ?_
   rintro e u ⟨rfl, hgu⟩
   have HS2 := Lh hgu
   refine hK.out _ _ HS2.out (fun _ => ?_)
   clear hK K hgu
   try simp only [Act.put, sA, sB, sC]
   refine hp 11 48 (.bool false) rfl HS2.out ?_
   refine hdn ?_ _
   go_wp2_with fail
   exact ⟨⟨k + 1, by omega, by simp, Lh (HGV.out.then_non HS2.out)⟩, by simp [intOf]; omega⟩
  ·obtain rfl : k = s.parts.length := by omega
   have hltd : decide ((s.parts.length : Int) < (s.parts.length : Int)) = false := by simp
   go_wp2_with fail
   have HGx := HG
   go_loopw [6] (fun iv wr => ∃ k : Nat, k ≤ s.queues.length ∧ iv = .int .i64 k ∧ Hid (Chg Non W1 wr)) (fun iv _ => s.queues.length - (intOf iv).toNat)
   case atStart => exact ⟨0, Nat.zero_le _, rfl, HG⟩
   case round =>
    obtain ⟨k, hk, rfl, HG⟩ := hrel
    have c5 := blk_cell (blk_keep HB1.out HG.out (fun e => e)) 2 (v := .slice A1q s.queues.length c1q) rfl
    by_cases hlt : k < s.queues.length
    ·have hltd : decide ((k : Int) < (s.queues.length : Int)) = true := by simpa using hlt
     go_wp2_with fail
     obtain ⟨V, hV⟩ : ∃ V, V = wr.drew := ⟨_, rfl⟩
     have hgV : Chg Non W1 V := by rw [hV]; exact HG.out.drew
     have HGV := Lh hgV
     obtain ⟨a, ha⟩ : ∃ a, s.queues[k]? = some a := ⟨_, List.getElem?_eq_getElem hlt⟩
     obtain ⟨e1, o1, vs1, rfl, _, hl1, hcell1, m1, rfl, hx1⟩ := HR1q.out V (HG1.out.then_non hgV) k a ha
     have K1 := Lh hcell1
     have D1 := Lh (blk_cell (blk_keep HB1.out hgV (fun e => e)) 2 (v := .slice (some ⟨e1, o1, none⟩) s.queues.length c1q) rfl)
     have X1 := Lh hx1
     obtain ⟨e2, o2, vs2, rfl, _, hl2, hcell2, m2, rfl, hx2⟩ := HR2q.out V (HG1.out.then_non hgV) k a ha
     have K2 := Lh hcell2
     have D2 := Lh (blk_cell (blk_keep HB2.out hgV (fun e => e)) 2 (v := .slice (some ⟨e2, o2, none⟩) s.queues.length c2q) rfl)
     have X2 := Lh hx2
     clear hgV ha hl1 hcell1 hl2 hcell2 hx1 hx2 c5 hltd
     refine wp_region_held_drew (S := Chg Non V) (by kernel_rfl) (by rw [hV]; exact Chg.refl _ _) (fun hHeld => ?_)
     clear hHeld
     rw [← hV]
     clear hV
     have HS : Hid (Chg Non V V) := Lh (Chg.refl _ _)
     refine hp 0 56 (.pointer (some ⟨b0, 2, none⟩)) rfl HS.out ?_
     refine hp 1 57 (.slice (some ⟨e1, o1, none⟩) s.queues.length c1q) rfl HS.out ?_ (he := fun W hW => by have hc := hW.cell_some D1.out (fun e => e); go_simp)
     refine hp 2 58 (.int .i64 (k : Int)) rfl HS.out ?_
     refine hp 3 59 (.pointer (some ⟨e1, o1 + k * 6, none⟩)) rfl HS.out ?_
     refine h_load 4 (some 60) 110 (.tmp 59) e1 (o1 + k * 6) (Qu.L a m1).toArray _ rfl (by kernel_rfl) (by kernel_rfl) (by kernel_rfl) (by kernel_rfl) (by kernel_rfl) (fun _ _ _ h => h) (by kernel_rfl) (by kernel_rfl) (fun W hW => range_keepS K1.out hW (fun e => e)) Tryz.underlying110 rfl (by kernel_rfl) HS.out ?_
     try simp only [Act.put, sA, sB, sC]
     refine hp 5 61 (.pointer (some ⟨b0 + 1, 2, none⟩)) rfl HS.out ?_
     refine hp 6 62 (.slice (some ⟨e2, o2, none⟩) s.queues.length c2q) rfl HS.out ?_ (he := fun W hW => by have hc := hW.cell_some D2.out (fun e => e); go_simp)
     refine hp 7 63 (.int .i64 (k : Int)) rfl HS.out ?_
     refine hp 8 64 (.pointer (some ⟨e2, o2 + k * 6, none⟩)) rfl HS.out ?_
     refine h_load 9 (some 65) 110 (.tmp 64) e2 (o2 + k * 6) (Qu.L a m2).toArray _ rfl (by kernel_rfl) (by kernel_rfl) (by kernel_rfl) (by kernel_rfl) (by kernel_rfl) (fun _ _ _ h => h) (by kernel_rfl) (by kernel_rfl) (fun W hW => range_keepS K2.out hW (fun e => e)) Tryz.underlying110 rfl (by kernel_rfl) HS.out ?_
     try simp only [Act.put, sA, sB, sC]
     refine h1o 10 rfl ?_
     intro K hK
     go_simp
     refine (r10_eq I1 I2 a m1 m2 V X1.out.2.1 X1.out.1 X2.out.1 X1.out.2.2).mono ?_
     rintro e u ⟨rfl, hgu⟩
     have HS2 := Lh hgu
     refine hK.out _ _ HS2.out (fun _ => ?_)
     clear hK K hgu
     try simp only [Act.put, sA, sB, sC]
     refine hp 11 67 (.bool false) rfl HS2.out ?_
     refine hdn ?_ _
     go_wp2_with fail
     exact ⟨⟨k + 1, by omega, by simp, Lh (HGV.out.then_non HS2.out)⟩, by simp [intOf]; omega⟩
    ·obtain rfl : k = s.queues.length := by omega
     have hltd : decide ((s.queues.length : Int) < (s.queues.length : Int)) = false := by simp
     go_wp2_with fail
     go_ret
     exact ⟨rfl, HG1.out.then_non HG.out⟩
end
section
open Go.RowKit
def hR : Option (Int × List UInt8 × Sta) → List UInt8
 | none => zTag
 | some x => x.2.1
def sR : Option (Int × List UInt8 × Sta) → Sta
 | none => ⟨0, [], []⟩
 | some x => x.2.2
def eR (r : Option (Int × List UInt8 × Sta)) (er : Int) : Int := if r.isSome then 0 else er
def TelH (r : Option (Int × List UInt8 × Sta)) (er : Int) (w : World) (e : Ending) (w' : World) : Prop :=
 (hR r).length = 32 ∧ ∃ A1 n1 c1 A2 n2 c2, e = .returned (.tuple #[.int .i64 (kNum r), .agg (tagA (hR r)), .agg #[.int .i64 (sR r).frames, .slice A1 n1 c1, .slice A2 n2 c2], .int .i64 (eR r er)]) ∧ Chg Non w w' ∧ StaV (From w.heap.size) w' (sR r) (.slice A1 n1 c1) (.slice A2 n2 c2)
theorem tagA_inj {a b : List UInt8} (h : tagA a = tagA b) : a = b := by
 have e : a.map bv = b.map bv := by
  have := congrArg Array.toList h
  exact this
 have hi : ∀ x y, bv x = bv y → x = y := fun x y h => by
  unfold bv at h
  injection h with _ h
  exact UInt8.toNat_inj.1 (by omega)
 exact (List.map_inj_right hi).1 e
theorem TelG.out {r : Option (Int × List UInt8 × Sta)} {er : Int} {w w' : World} {e : Ending} (h : TelG r er w e w') : TelH r er w e w' := by
 obtain ⟨n, X, F, A1, n1, c1, A2, n2, c2, er', rfl, hq, ⟨hash, hX, hh⟩, hg, hs⟩ := h
 cases r with
 | none =>
  simp only [Prod.mk.injEq] at hq
  obtain ⟨rfl, rfl, rfl, rfl⟩ := hq
  exact ⟨by decide, A1, n1, c1, A2, n2, c2, rfl, hg, hs⟩
 | some x =>
  simp only [Prod.mk.injEq] at hq
  obtain ⟨rfl, rfl, rfl, rfl⟩ := hq
  exact ⟨by show x.2.1.length = 32; rw [tagA_inj hX]; exact hh, A1, n1, c1, A2, n2, c2, rfl, hg, hs⟩
theorem CheckPlays_ok (I J : Nat → Prop) (A : Option Addr) (l : List Ac) (c : Nat) (w : World) (hr : RdL (acV I) J 39 w A l) (hI : ∀ b, I b → b < w.heap.size) (hc : l.length ≤ c) (hm : c ≤ maxLen) :
  Calls Tryz.prog 4 #[.slice A l.length c] w fun e w' => e = .returned (.bool true) ∧ Chg Non w w' := by
 have HGr := Lh (greatAll I J A l c w hr hc hm)
 have HR := Lh hr
 have HIb := Lh hI
 have HNew := Lh (fun W => New_ok 323 W (by omega) (by omega))
 have HNew2 := Lh (fun W => rNewD 323 W (by omega) (by omega))
 clear hr hI
 unfold maxLen at hm
 go_enter Tryz.func4, Tryz.ntmps4
 go_wp2_with fail
 refine HGr.out.mono ?_
 rintro e w00 ⟨g, rfl, hg⟩
 have HG0 := Lh hg
 clear hg
 cases g with
 | true =>
  go_wp2_with fail
  go_ret
  exact ⟨rfl, HG0.out⟩
 | false =>
 go_wp2_with fail
 refine (HNew.out w00).mono ?_
 rintro e w1 ⟨pd, ps, pm, rfl, hD, g1, g2, g3, g4⟩
 have HD := Lh hD
 have hsz0 := HG0.out.size
 have HLo : Hid (w.heap.size ≤ pd ∧ w.heap.size ≤ ps ∧ w.heap.size ≤ pm) := Lh ⟨by omega, by omega, by omega⟩
 have HG1 := Lh (HG0.out.then_non g4)
 clear hD g1 g2 g3 g4 hsz0
 go_wp2_with fail
 refine (HNew2.out w1).mono ?_
 rintro e w2 ⟨p, q, rfl, hE, hg⟩
 obtain ⟨B, hB⟩ : ∃ B, w1.heap.size = B := ⟨_, rfl⟩
 rw [hB] at hE
 have HH0 : Hid (Hf w pd ps pm p q B (Dk.new 323) (Rk.new 323) w2) := Lh (by
   have hlt := HD.out.lt
   refine ⟨HD.out.non hg, hE, HLo.out, ?_, HG1.out.then_non hg⟩
   rw [← hB]
   exact hlt)
 have HP0 : Hid (PS w pd ps pm p q B 323 w2) := Lh ⟨Dk.new 323, Rk.new 323, HH0.out, HH0.out.dk.1, ⟨by simp [Dk.new], by simp [Dk.new]⟩, new_same 323, by simp [Rk.new]⟩
 clear hE hg hB HH0 HD HLo HG1 HNew HNew2 HGr HG0
 go_wp2_with fail
 go_loopw [6] (fun iv wr => ∃ k : Nat, k ≤ l.length ∧ iv = .int .i64 k ∧ Hid (PS w pd ps pm p q B 323 wr)) (fun iv _ => l.length - (intOf iv).toNat)
 case atStart => exact ⟨0, Nat.zero_le _, rfl, HP0⟩
 case round =>
  obtain ⟨k, hk, rfl, HS⟩ := hrel
  by_cases hlt : k < l.length
  ·obtain ⟨a, ha⟩ : ∃ a, l[k]? = some a := ⟨_, List.getElem?_eq_getElem hlt⟩
   obtain ⟨b, o, vs, rfl, _, _, hrg, vb, vd, Ab, cb, rfl, hh, hi, hst, hrd, hbl⟩ := HR.out k a ha
   have HRA : Hid (w.rangeAt b (o + k * 39) (acL a vb vd (.slice Ab a.b.length cb)).toArray.toList) := Lh hrg
   have HYS : Hid ((acL a vb vd (.slice Ab a.b.length cb)).toArray.size = 39) := Lh (by rw [List.size_toArray]; exact acL_len a vb vd _ hh)
   have HOne := Lh (fun W (h : PS w pd ps pm p q B 323 W) => show Calls Tryz.prog 13 #[.pointer (some ⟨pd, 0, none⟩), .pointer (some ⟨p, 0, none⟩), .agg (acL a vb vd (.slice Ab a.b.length cb)).toArray] W (OneP w pd ps pm p q B) from by
     obtain ⟨D, E, h1', h2'⟩ := h
     exact one_ok I w W pd ps pm p q B D E a vb vd Ab cb h1' h2' hh hi hst HIb.out hrd hbl)
   have hltd : decide ((k : Int) < (l.length : Int)) = true := by simpa using hlt
   have hk0 : (0 : Int) ≤ (k : Int) := by omega
   have hkl : (k : Int) < (l.length : Int) := by omega
   obtain ⟨Y, hY⟩ : ∃ Y, (acL a vb vd (.slice Ab a.b.length cb)).toArray = Y := ⟨_, rfl⟩
   rw [hY] at HRA HYS
   simp only [hY] at HOne
   clear hY hrg ha hh hi hst hrd hbl
   go_wp2_with fail
   refine wp_region_held_drew (S := PS w pd ps pm p q B 323) (by kernel_rfl) (HS.out.non (Chg.refl Non _).drew) (fun hHeld => ?_)
   clear hHeld
   replace HS : Hid (PS w pd ps pm p q B 323 wr.drew) := Lh (HS.out.non (Chg.refl Non _).drew)
   generalize wr.drew = v0 at *
   refine hp 0 39 (.pointer (some ⟨pd, 0, none⟩)) rfl HS.out ?_
   refine hp 1 40 (.pointer (some ⟨p, 0, none⟩)) rfl HS.out ?_
   refine hp 2 41 (.slice (some ⟨b, o, none⟩) l.length c) rfl HS.out ?_
   refine hp 3 42 (.int .i64 (k : Int)) rfl HS.out ?_
   refine hp 4 43 (.pointer (some ⟨b, o + k * 39, none⟩)) rfl HS.out ?_
   refine h_load 5 (some 44) 31 (.tmp 43) b (o + k * 39) Y _ rfl (by kernel_rfl) (by kernel_rfl) (by kernel_rfl) (by kernel_rfl) (by kernel_rfl) (fun _ _ _ h => h) (by kernel_rfl) (by kernel_rfl) (fun W hW => range_keepS HRA.out (PS.chg hW) (fun e => e)) Tryz.underlying31 (by kernel_rfl) (by rw [HYS.out]; kernel_rfl) HS.out ?_
   try simp only [Act.put, sA, sB, sC]
   refine h1o 6 rfl ?_
   intro K hK
   go_simp
   refine (HOne.out _ HS.out).mono ?_
   rintro e u3 ⟨rfl, D, E, hH, hT⟩
   have HH := Lh hH
   have HT := Lh hT
   have HUp := Lh (hf_up hH)
   have HDn : Hid (∀ W, Hf w pd ps pm p q B D E W → W.cell? ⟨p, 1, none⟩ = some (.bool E.down)) := Lh (fun W hW => by obtain ⟨_, _, _, _, h1, _⟩ := hW.rk.cells; exact h1)
   have hud : (D.up == E.down) = false := by rw [hT.same.up]; cases E.down <;> rfl
   obtain ⟨du, hdu⟩ : ∃ du, D.up = du := ⟨_, rfl⟩
   obtain ⟨dd, hdd⟩ : ∃ dd, E.down = dd := ⟨_, rfl⟩
   rw [hdu] at HUp hud
   simp only [hdd] at HDn hud
   have HDU := Lh hdu
   clear hH hT hdd hdu
   refine hK.out _ _ ⟨D, E, HH.out, HT.out⟩ (fun _ => ?_)
   clear hK K
   try simp only [Act.put, sA, sB, sC]
   refine h_mono (S' := Hf w pd ps pm p q B D E) (fun W h => ⟨D, E, h, HT.out⟩) _ _ _ _ ?_
   refine hp 7 46 (.bool false) rfl HH.out ?_
   refine hp 8 47 (.bool false) rfl HH.out ?_
   refine hp 9 48 (.pointer (some ⟨pd, 0, none⟩)) rfl HH.out ?_
   refine hp 11 50 (.pointer (some ⟨p, 0, none⟩)) rfl HH.out ?_
   refine hp 12 51 (.pointer (some ⟨p, 0, none⟩)) rfl HH.out ?_
   refine hp 13 52 (.pointer (some ⟨p, 1, none⟩)) rfl HH.out ?_
   refine hp 14 53 (.bool dd) rfl HH.out ?_ (he := fun W hW => by have hcell := HDn.out W hW; go_simp)
   refine h1o 10 rfl ?_
   intro K hK
   go_simp
   refine HUp.out.mono ?_
   rintro e u4 ⟨rfl, rfl⟩
   refine hK.out _ _ HH.out (fun _ => ?_)
   clear hK K
   try simp only [Act.put, sA, sB, sC]
   refine hp 15 54 (.bool false) rfl HH.out ?_
   refine hp 16 55 (.bool false) rfl HH.out ?_
   refine hdn ?_ _
   clear HOne HYS HRA HDn HUp HS HP0
   have HGt := Lh (fun W (h : Hf w pd ps pm p q B D E W) => hf_dget25 h HT.out)
   have HGr := Lh (fun W (h : Hf w pd ps pm p q B D E W) => hf_rget25 h HT.out)
   obtain ⟨r, hrr⟩ : ∃ r, gRes D = r := ⟨_, rfl⟩
   obtain ⟨er, herr⟩ : ∃ er, gEr D = er := ⟨_, rfl⟩
   simp only [hrr, herr] at HGt HGr
   clear hrr herr
   go_wp2_with fail
   refine (HGt.out _ HH.out).mono ?_
   rintro e v1 htel
   obtain ⟨hh, P1, m1, z1, P2, m2, z2, rfl, hg, hst⟩ := htel.out
   have HSq := Lh (fun (J1 J2 : Nat → Prop) (a1 a2 a3 a4 : Value) (W : World) (h1 : StaV J1 W (sR r) a1 a2) (h2 : StaV J2 W (sR r) a3 a4) => r21_eq J1 J2 (sR r) a1 a2 a3 a4 W h1 h2)
   have hneq := tag_neq (hR r) hh
   have HXs := Lh (tagA_size (hR r) hh)
   have HX1 := Lh (tagA_one (hR r))
   have HSt1 := Lh hst
   have HGt2 : Hid (∀ W, Hf w pd ps pm p q B D E W → Calls Tryz.prog 15 #[.pointer (some ⟨p, 0, none⟩)] W (TelH r er W)) := Lh (fun W h => (HGr.out W h).mono (fun e W' h => h.out))
   replace HH := Lh (HH.out.non hg)
   unfold TelH at HGt2
   obtain ⟨N, hN⟩ : ∃ N, kNum r = N := ⟨_, rfl⟩
   obtain ⟨X, hX⟩ : ∃ X, tagA (hR r) = X := ⟨_, rfl⟩
   obtain ⟨F, hF⟩ : ∃ F, (sR r).frames = F := ⟨_, rfl⟩
   obtain ⟨ev, hev⟩ : ∃ e, eR r er = e := ⟨_, rfl⟩
   simp only [hN, hX, hF, hev] at HGt2 HSq
   rw [hX] at hneq HXs HX1
   rw [hX]
   rw [hN, hF, hev]
   clear hN hX hF hev hh hst htel hg HGt HGr
   go_wp2_with (first
     | (refine sel none (.store 28 (.tmp 8) (.tmp 60)) ?_; refine wpList_store_rowA rfl 28 (.tmp 8) (.tmp 60) rfl v1.heap.size X rfl rfl 28 (tagA zTag) (al_2_0 _ _ _) (by rw [HXs.out]; kernel_rfl) (by rw [HXs.out]; kernel_rfl) HX1.out ?_; intro y8 hg8 hb8; have hs8 := blk_keep (al_2_1 v1 (.cells (tagA zTag) 28) (.cells zStC 25)) hg8 (fun e => by have e : v1.heap.size + 1 = v1.heap.size := e; omega))
     | (refine sel none (.store 25 (.tmp 9) (.tmp 61)) ?_; refine wpList_store_rowA rfl 25 (.tmp 9) (.tmp 61) rfl (v1.heap.size + 1) #[.int .i64 F, .slice P1 m1 z1, .slice P2 m2 z2] rfl rfl 25 zStC hs8 (by kernel_rfl) rfl (by kernel_rfl) ?_; intro w1 hg9 hb9; refine Vm_stop ?_))
   refine HoleV.mk ?_
   have hal := ((((Chg.refl Non v1).alloc (.cells (tagA zTag) 28)).alloc (.cells zStC 25)).then_new hg8 (fun x e => by have e : x = v1.heap.size := e; omega)).then_new hg9 (fun x e => by have e : x = v1.heap.size + 1 := e; omega)
   have HT1 := Lh (blk_keep hb8 hg9 (fun e => by have e : v1.heap.size = v1.heap.size + 1 := e; omega))
   have HS1 := Lh hb9
   obtain ⟨c1, hc1⟩ : ∃ b, v1.heap.size = b := ⟨_, rfl⟩
   rw [hc1] at HT1 HS1
   try rw [hc1]
   replace HH := Lh (HH.out.non hal)
   replace HSt1 := Lh (HSt1.out.non hal)
   clear hal hg8 hg9 hb8 hb9 hs8
   go_wp2_with fail
   refine (HGt2.out _ HH.out).mono ?_
   rintro e v2 ⟨_, Q1, k1, y1, Q2, k2, y2, rfl, hg, hst⟩
   have HSt2 := Lh hst
   replace HH := Lh (HH.out.non hg)
   replace HSt1 := Lh (HSt1.out.non hg)
   replace HT1 := Lh (blk_keep HT1.out hg (fun e => e))
   replace HS1 := Lh (blk_keep HS1.out hg (fun e => e))
   clear hg hst HGt2
   go_wp2_with (first
     | (refine sel none (.store 28 (.tmp 12) (.tmp 67)) ?_; refine wpList_store_rowA rfl 28 (.tmp 12) (.tmp 67) rfl v2.heap.size X rfl rfl 28 (tagA zTag) (al_2_0 _ _ _) (by rw [HXs.out]; kernel_rfl) (by rw [HXs.out]; kernel_rfl) HX1.out ?_; intro y8 hg8 hb8; have hs8 := blk_keep (al_2_1 v2 (.cells (tagA zTag) 28) (.cells zStC 25)) hg8 (fun e => by have e : v2.heap.size + 1 = v2.heap.size := e; omega))
     | (refine sel none (.store 25 (.tmp 13) (.tmp 68)) ?_; refine wpList_store_rowA rfl 25 (.tmp 13) (.tmp 68) rfl (v2.heap.size + 1) #[.int .i64 F, .slice Q1 k1 y1, .slice Q2 k2 y2] rfl rfl 25 zStC hs8 (by kernel_rfl) rfl (by kernel_rfl) ?_; intro w2 hg9 hb9; refine Vm_stop ?_))
   refine HoleV.mk ?_
   have hal := ((((Chg.refl Non v2).alloc (.cells (tagA zTag) 28)).alloc (.cells zStC 25)).then_new hg8 (fun x e => by have e : x = v2.heap.size := e; omega)).then_new hg9 (fun x e => by have e : x = v2.heap.size + 1 := e; omega)
   have HT2 := Lh (blk_keep hb8 hg9 (fun e => by have e : v2.heap.size = v2.heap.size + 1 := e; omega))
   have HS2 := Lh hb9
   obtain ⟨c2, hc2⟩ : ∃ b, v2.heap.size = b := ⟨_, rfl⟩
   rw [hc2] at HT2 HS2
   try rw [hc2]
   replace HH := Lh (HH.out.non hal)
   replace HSt1 := Lh (HSt1.out.non hal)
   replace HSt2 := Lh (HSt2.out.non hal)
   replace HT1 := Lh (blk_keep HT1.out hal (fun e => e))
   replace HS1 := Lh (blk_keep HS1.out hal (fun e => e))
   clear hal hg8 hg9 hb8 hb9 hs8
   have e1 : (N != N) = false := by simp
   have e2 : (ev != ev) = false := by simp
   go_wp2_with (first
     | (refine sel (some 74) (.load 28 (.tmp 8)) ?_; refine wpList_loadW (some 74) 28 (.tmp 8) c1 0 X _ rfl rfl (by kernel_rfl) (by kernel_rfl) (range_block HT1.out) Tryz.underlying28 rfl (by rw [HXs.out]; kernel_rfl) ?_)
     | (refine sel (some 75) (.load 28 (.tmp 12)) ?_; refine wpList_loadW (some 75) 28 (.tmp 12) c2 0 X _ rfl rfl (by kernel_rfl) (by kernel_rfl) (range_block HT2.out) Tryz.underlying28 rfl (by rw [HXs.out]; kernel_rfl) ?_)
     | (refine sel (some 84) (.load 25 (.tmp 9)) ?_; refine wpList_loadW (some 84) 25 (.tmp 9) (c1 + 1) 0 #[.int .i64 F, .slice P1 m1 z1, .slice P2 m2 z2] _ rfl rfl (by kernel_rfl) (by kernel_rfl) (range_block HS1.out) Tryz.underlying25 rfl (by kernel_rfl) ?_)
     | (refine sel (some 85) (.load 25 (.tmp 13)) ?_; refine wpList_loadW (some 85) 25 (.tmp 13) (c2 + 1) 0 #[.int .i64 F, .slice Q1 k1 y1, .slice Q2 k2 y2] _ rfl rfl (by kernel_rfl) (by kernel_rfl) (range_block HS2.out) Tryz.underlying25 rfl (by kernel_rfl) ?_))
   refine (HSq.out _ _ _ _ _ _ _ HSt1.out HSt2.out).mono ?_
   rintro e v5 ⟨rfl, hg⟩
   have HP5 : Hid (PS w pd ps pm p q B 323 v5) := Lh ⟨D, E, HH.out.non hg, HT.out⟩
   clear hg HSq
   go_wp2_with fail
   exact ⟨⟨k + 1, by omega, by go_num, HP5⟩, by simp [intOf]; omega⟩
  ·obtain rfl : k = l.length := by omega
   have hltd : decide ((l.length : Int) < (l.length : Int)) = false := by simp
   obtain ⟨D, E, hH, hT⟩ := HS.out
   have HH := Lh hH
   have HT := Lh hT
   clear hH hT HS HP0
   go_wp2_with fail
   go_loopw [15] (fun jv wr => ∃ j : Nat, j ≤ 323 ∧ jv = .int .i64 j ∧ Hid (Hf w pd ps pm p q B D E wr)) (fun jv _ => 323 - (intOf jv).toNat)
   case atStart => exact ⟨0, Nat.zero_le _, rfl, HH⟩
   case round =>
    obtain ⟨j, hj, rfl, HJ⟩ := hrel
    by_cases hjn : j < 323
    ·have hjd : decide ((j : Int) < 323) = true := by rw [decide_eq_true_eq]; omega
     have hj0 : (0 : Int) ≤ (j : Int) := by omega
     have hjl : (j : Int) < 323 := by omega
     have HRd := Lh (hf_read HJ.out HT.out j hjn)
     have HRr := Lh (fun W (h : Chg Non wr W) => hf_rread (HJ.out.non h) HT.out j hjn)
     have hbl : (dAt D j).length ≤ 64 := dAt_len HT.out.ok (by rw [HT.out.dlen]; exact hjn)
     obtain ⟨b1, hb1⟩ : ∃ b1, dAt D j = b1 := ⟨_, rfl⟩
     simp only [hb1] at HRd HRr hbl
     have HBL := Lh hbl
     clear hb1 hbl
     go_wp2_with fail
     refine HRd.out.mono ?_
     rintro e u1 ⟨A1, c1, er1, rfl, e1, e2, e3, e4⟩
     have HRd1 := Lh e3
     have HC1 := Lh e4
     clear e1 e2 e3 e4
     go_wp2_with fail
     refine (HRr.out u1 HC1.out).mono ?_
     rintro e u2 ⟨A2, c2, er2, rfl, e1, e2, e3, e4⟩
     have HRd2 := Lh e3
     replace HRd1 := Lh (HRd1.out.non e4)
     have HJ2 := Lh (HJ.out.non (HC1.out.then_non e4))
     clear e1 e2 e3 e4
     have HSm := Lh (rSame A1 b1 c1 A2 b1 c2 u2.drew (HRd1.out.non (Chg.refl Non _).drew) (HRd2.out.non (Chg.refl Non _).drew) (by have := HBL.out; omega) (by have := HBL.out; omega))
     simp only [decide_true] at HSm
     obtain ⟨⟨cap, kp0, kc1, kc2⟩, fb, fo, fk, kq0, frd, fl⟩ := hf_rflushed HJ2.out HT.out j hjn
     unfold maxLen at kc2
     have HFl := Lh (fun W (h : Chg Non u2 W) => hf_flushed (HJ2.out.non h) HT.out j hjn)
     have HSf := Lh (fun A3 c3 W (hr3 : Rd W A3 (D.sec.getD j [])) (h : Chg Non u2 W) => rSame A3 (D.sec.getD j []) c3 (some ⟨fb, fo, none⟩) (D.sec.getD j []) fk W hr3 (frd.non h) (by rw [fl]; omega) (by rw [fl]; omega))
     simp only [decide_true, fl] at HSf
     have HFL := Lh fl
     clear frd fl
     go_wp2_with fail
     refine wp_region_held_drew (S := Chg Non u2) (by kernel_rfl) (Chg.refl Non _).drew (fun hHeld => ?_)
     clear hHeld
     refine hp 0 105 (.slice A1 b1.length c1) rfl (Chg.refl Non _).drew ?_
     refine hp 1 106 (.slice A2 b1.length c2) rfl (Chg.refl Non _).drew ?_
     refine h1o 2 rfl ?_
     intro K hK
     go_simp
     refine HSm.out.mono ?_
     rintro e u3 ⟨rfl, hg⟩
     have HG3 : Hid (Chg Non u2 u3) := Lh ((Chg.refl Non _).drew.then_non hg)
     clear hg
     refine hK.out _ _ HG3.out (fun _ => ?_)
     clear hK K
     try simp only [Act.put, sA, sB, sC]
     refine hp 3 108 (.bool false) rfl HG3.out ?_
     refine hp 4 109 (.bool false) rfl HG3.out ?_
     refine hp 5 110 (.pointer (some ⟨pd, 0, none⟩)) rfl HG3.out ?_
     refine hp 6 111 (.int .i64 (j : Int)) rfl HG3.out ?_
     refine hp 8 113 (.pointer (some ⟨p, 0, none⟩)) rfl HG3.out ?_
     refine hp 9 114 (.pointer (some ⟨p, 0, none⟩)) rfl HG3.out ?_
     refine hp 10 115 (.pointer (some ⟨p, 0, none⟩)) rfl HG3.out ?_
     refine hp 11 116 (.slice (some ⟨q, 0, none⟩) 323 cap) rfl HG3.out ?_ (he := fun W hW => by have hcell := hW.cell_some kp0 (fun e => e); go_simp)
     refine hp 12 117 (.int .i64 (j : Int)) rfl HG3.out ?_
     refine hp 13 118 (.pointer (some ⟨q, j * 2, none⟩)) rfl HG3.out ?_
     refine hp 14 119 (.pointer (some ⟨q, j * 2, none⟩)) rfl HG3.out ?_
     refine hp 15 120 (.slice (some ⟨fb, fo, none⟩) 64 fk) rfl HG3.out ?_ (he := fun W hW => by have hcell := hW.cell_some kq0 (fun e => e); go_simp)
     refine h1o 7 rfl ?_
     intro K hK
     go_simp
     refine (HFl.out _ HG3.out).mono ?_
     rintro e u4 ⟨A3, c3, rfl, g1, g2, g3, g4⟩
     rw [HFL.out]
     have HG4 : Hid (Chg Non u2 u4) := Lh (HG3.out.then_non g4)
     have HR3 := Lh g3.rd
     clear g1 g2 g3 g4
     refine hK.out _ _ HG4.out (fun _ => ?_)
     clear hK K
     try simp only [Act.put, sA, sB, sC]
     refine h1o 16 rfl ?_
     intro K hK
     go_simp
     refine (HSf.out A3 c3 _ HR3.out HG4.out).mono ?_
     rintro e u5 ⟨rfl, hg⟩
     have HG5 : Hid (Chg Non u2 u5) := Lh (HG4.out.then_non hg)
     clear hg
     refine hK.out _ _ HG5.out (fun _ => ?_)
     clear hK K
     try simp only [Act.put, sA, sB, sC]
     refine hp 17 122 (.bool false) rfl HG5.out ?_
     refine hp 18 123 (.bool false) rfl HG5.out ?_
     refine hdn ?_ _
     have HJ5 := Lh (HJ2.out.non HG5.out)
     clear HG3 HG4 HG5 HFl HSf HSm HRd HRr
     go_wp2_with fail
     exact ⟨⟨j + 1, by omega, by go_num, HJ5⟩, by simp [intOf]; omega⟩
    ·obtain rfl : j = 323 := by omega
     have hjd : decide (((323 : Nat) : Int) < 323) = false := by decide
     go_wp2_with fail
     go_ret
     exact ⟨rfl, HJ.out.chg⟩
end
section
open Go.ChangeShapes Go.WideShapes Go.ChangeAt Go.RowKit
theorem post_below {H : Type} {enc : TypeId × Value → H} {P : Program} {f : Func} {s : ChangeSpec} {apart fresh handsOn again : Bool} {W W' : World} {args : Array Value} {v : Value} {ds gs : List (DataW H)} {before pa pv : List MemPlace}
  (hW : DataW.Whole enc P f.params.toList s.vars apart W args.toList ds gs before)
  (hres : ∀ (b : Nat) (sp : Nat → Bool) (hd : Bool), DataW.TrodAll enc P W' b sp hd f.resultTypes.toList (v.resultList f.resultTypes.size) (s.fn H (ds ++ gs)).results [])
  (hargs : ∀ sp : Nat → Bool, (∀ p ∈ before, sp p.block = true) → DataW.TrodAll enc P W' 0 sp true f.params.toList args.toList (s.fn H (ds ++ gs)).args pa)
  (hvars : ∀ sp : Nat → Bool, (∀ p ∈ before, sp p.block = true) → DataW.TrodVars enc P W' sp s.vars (s.fn H (ds ++ gs)).vars pv)
  (hps : before = pa ++ pv) (hb : Below W.heap.size W W')
  (hok : ∀ (j : Nat) (t : TypeId) (r : Value), f.resultTypes[j]? = some t → (v.resultList f.resultTypes.size)[j]? = some r → Value.okWide P W' .any 0 t r) :
  s.post enc P f apart fresh handsOn again W args v W' := by
 have hlt := hW.lt
 have hold : ∀ p ∈ before, (fun b => decide (b < W.heap.size)) p.block = true := fun p hp => by simpa using hlt p hp
 refine ⟨ds, gs, before, [], pa, pv, hW, hres _ _ _, hargs _ hold, hvars _ hold, World.keptBut_mono (fun p hp => ⟨hp, ?_⟩) (hb.frame (· ∈ before)), fun _ => ?_⟩
 ·rw [hps, List.mem_append] at hp
  exact Or.inr hp
 ·obtain ⟨_, _, _, _, _, hz, hn⟩ := hW
  refine ⟨hok, _, _, ([] ++ pa) ++ pv, ⟨[] ++ pa, pv, trodAll_append (hargs _ (fun _ _ => rfl)) (hres _ _ _), hvars _ (fun _ _ => rfl), rfl, ?_, ?_⟩, ?_⟩
  ·intro b off hp
   have hp' : MemPlace.cell b off ∈ before := by rw [hps]; simpa using hp
   rw [hb.frozen (show b < W.heap.size from hlt _ hp')]
   exact hz b off hp'
  ·intro ha
   have := hn ha
   rw [hps] at this
   simpa using this
  ·intro p hp _
   rw [hps]
   simpa using hp
end
section
open Go.ChangeShapes Go.WideShapes Go.ChangeAt Go.RowKit
section
variable {H : Type} {enc : TypeId × Value → H} {P : Program}
theorem sameAt_below {W W' : World} (hb : Below W.heap.size W W') {p : MemPlace} (hp : p.block < W.heap.size) : W.sameAt W' p := by
 cases p with
 | cell b off => exact hb.cell (p := ⟨b, off, none⟩) hp
 | map b => exact hb.block b hp
theorem trodAll_carry {W W' : World} {base : Nat} {sp : Nat → Bool} {hd : Bool} : ∀ {ts : List TypeId} {vs : List Value} {ds : List (DataW H)} {ps : List MemPlace},
  DataW.TrodAll enc P W base sp hd ts vs ds ps → (∀ p ∈ ps, W.sameAt W' p) → DataW.TrodAll enc P W' base sp hd ts vs ds ps
 | [], [], [], _, h, _ => h
 | _ :: _, _ :: _, _ :: _, _, ⟨p, q, ⟨n, h1⟩, h2, e⟩, hs =>
  ⟨p, q, ⟨n, DataW.trod_carry n _ _ _ h1 (fun x hx => hs x (by rw [e]; exact List.mem_append_left _ hx))⟩,
    trodAll_carry h2 (fun x hx => hs x (by rw [e]; exact List.mem_append_right _ hx)), e⟩
theorem post_law {f : Func} {s : ChangeSpec} {apart fresh handsOn again : Bool} {W W' : World} {args : Array Value} {tb : TypeId} {ds gs : List (DataW H)} {before : List MemPlace}
  (K : Kids P (· < P.types.size)) (hz : ∀ t e, t < P.types.size → P.underlying t = some (.slice e) → 0 < P.cellsOf e)
  (hT : ∀ t ∈ f.params.toList, t < P.types.size) (hr : f.resultTypes = #[tb]) (hub : P.underlying tb = some .bool)
  (hW : DataW.Whole enc P f.params.toList s.vars apart W args.toList ds gs before) (hv : s.vars = [])
  (hs : (s.fn H (ds ++ gs)).results = [.lit (.bool true)]) (ha : (s.fn H (ds ++ gs)).args = ds) (hv2 : (s.fn H (ds ++ gs)).vars = []) (hb : Below W.heap.size W W') :
  s.post enc P f apart fresh handsOn again W args (.bool true) W' := by
 have hW' := hW
 have hlt := hW.lt
 obtain ⟨p, q, hA, hV, rfl, hfz, hnd⟩ := hW
 rw [hv] at hV
 obtain ⟨rfl, rfl⟩ := trodVars_none hV
 rw [List.append_nil] at hlt
 refine post_below (pa := p) (pv := []) hW' ?_ ?_ ?_ rfl hb ?_
 ·intro b sp hd
  rw [hr, hs]
  exact trodAll_cons_mk (shut_bool hub _) trodAll_mk0
 ·intro sp hsp
  rw [ha]
  exact DataW.TrodAll.respare K hz hT (trodAll_carry hA (fun x hx => sameAt_below hb (hlt x hx))) (fun x hx => hsp x (by simpa using hx))
 ·intro sp _
  rw [hv, hv2]
  rfl
 ·exact ok_one hr rfl (okWide_bool_mk hub _)
end
end
section
open Go.ChangeShapes Go.WideShapes Go.ChangeAt Go.RowKit
section
variable {H : Type} {P : Program}
theorem wt_all {e : TypeId} {d : DataW H} {n : Nat} : ∀ {l : List (DataW H)}, d ∈ l → n ∈ d.weights P e → n ∈ DataW.weightsAll P e l
 | x :: r, h, hn => by
  simp only [DataW.weightsAll, List.mem_append]
  rcases List.mem_cons.1 h with rfl | h
  ·exact .inl hn
  ·exact .inr (wt_all h hn)
def SizedD (P : Program) (t : TypeId) (d : DataW H) : Prop := ∀ n ∈ d.weights P t, n ≤ reachBytes
theorem SizedD.elem {t e : TypeId} {a b : List (DataW H)} (h : SizedD P t (.slice a b)) (hu : P.underlying t = some (.slice e)) {d : DataW H} (hd : d ∈ a) : SizedD P e d := fun n hn => by
 refine h n ?_
 simp only [DataW.weights, hu, List.mem_cons, List.mem_append]
 exact .inr (.inl (wt_all hd hn))
theorem SizedD.len {t e : TypeId} {a b : List (DataW H)} (h : SizedD P t (.slice a b)) (hu : P.underlying t = some (.slice e)) : (a.length + b.length) * P.bytesOf e ≤ reachBytes := by
 refine h _ ?_
 simp only [DataW.weights, hu, List.mem_cons, true_or]
theorem SizedD.field {t : TypeId} {fs : Array Field} {parts : List (DataW H)} (h : SizedD P t (.agg parts)) (hu : P.underlying t = some (.struct fs)) {i : Nat} {f : Field} {d : DataW H} (hi : fs[i]? = some f) (hd : parts[i]? = some d) : SizedD P f.type d := fun n hn => by
 refine h n ?_
 simp only [DataW.weights, hu]
 refine DataW.weights_mem_each (j := i) (t := f.type) ?_ hd n hn
 rw [List.getElem?_map, Array.getElem?_toList, hi]
 rfl
theorem SizedD.arg {ts : List TypeId} {ds : List (DataW H)} (h : (DataW.weightsEach P ts ds).all (· ≤ reachBytes) = true) {j : Nat} {t : TypeId} {d : DataW H} (ht : ts[j]? = some t) (hd : ds[j]? = some d) : SizedD P t d := fun n hn => by
 have := List.all_eq_true.1 h _ (DataW.weights_mem_each ht hd n hn)
 simpa using this
end
section
variable {H : Type} {enc : TypeId × Value → H} {W : World}
theorem bytes_is {P : Program} {t e : TypeId} {fuel : Nat} {cs : List Value} {x : DataW H × List MemPlace} (ht : P.underlying t = some (.slice e)) (he : P.underlying e = some (.int .u8)) (hc : P.cellsOf e = 1)
  (hf : DataW.trod enc P W 0 (fun _ => true) true fuel t cs = some x) : ∃ (B : Option Addr) (l : List UInt8) (c : Nat), cs = [.slice B l.length c] ∧ Rd W B l ∧ l.length ≤ c ∧ c ≤ maxLen ∧ (P.bytesOf e = 1 → SizedD P t x.1 → c ≤ 140737488351232) := by
 rcases open_ints ht he hc hf with ⟨h0, _⟩ | ⟨a', len', cap', zs, h0, _, hl, hm, hzl, hx, hcell, hwf⟩
 ·exact ⟨none, [], 0, h0, Rd.nil _ _, Nat.le_refl _, by simp, fun _ _ => by omega⟩
 ·simp only [if_true] at hzl
  have hnum : ∀ n ∈ zs, ((UInt8.ofNat n.toNat).toNat : Int) = n := by
   intro n hn
   obtain ⟨h1, h2⟩ := bounds_u8 (hwf n hn)
   simp only [UInt8.toNat_ofNat']
   omega
  refine ⟨some a', (zs.take len').map (fun n => UInt8.ofNat n.toNat), cap', by rw [h0]; simp [hzl, Nat.min_eq_left hl], ?_, by simp [hzl, hl, Nat.min_eq_left hl], hm, ?_⟩
  ·intro i x hx
   rw [List.getElem?_map] at hx
   obtain ⟨n, hn, rfl⟩ := Option.map_eq_some_iff.1 hx
   have hi : i < (zs.take len').length := (List.getElem?_eq_some_iff.1 hn).1
   rw [List.length_take] at hi
   have hn' : zs[i]? = some n := by rw [← hn, List.getElem?_take_of_lt (by omega)]
   obtain ⟨b, off, rfl, hc2⟩ := ints_at hcell (by omega)
   refine ⟨b, off, rfl, ?_⟩
   rw [hc2 i (by omega), List.getD, hn', Option.getD_some, hnum n (List.mem_of_getElem? hn')]
  ·intro hb hs
   rw [hx] at hs
   have := hs.len ht
   rw [hb] at this
   simp only [lits, List.length_map, List.length_take, List.length_drop, Nat.mul_one, reachBytes] at this
   omega
end
end
end Go.Proofs.YtkgnlobabknkcaaGreat
