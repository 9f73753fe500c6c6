/- KernelTime, part 20 of 28: contracts of the functions that it reaches, and the laws that they need, merged and shortened (from my texts XKerN, XPhys, XHCopy). -/
import Derived.Test.YtmnaleaghfbclaaGreatDoorMgKernelTimeA
import Derived.Test.YtmnaleaghfbclaaGreatDoorMgKernelTimeF
import Derived.Test.YtmnaleaghfbclaaGreatDoorMgKernelTimeH
import Derived.Test.YtmnaleaghfbclaaGreatDoorMgKernelTimeI
import Derived.Test.YtmnaleaghfbclaaGreatDoorMgKernelTimeJ
import Derived.Test.YtmnaleaghfbclaaGreatDoorMgKernelTimeM
import Derived.Test.YtmnaleaghfbclaaGreatDoorMgKernelTimeN
import Derived.Test.YtmnaleaghfbclaaGreatDoorMgKernelTimeO
import Derived.Test.YtmnaleaghfbclaaGreatDoorMgKernelTimeS
import Derived.StillTailTactics
namespace Go.Proofs.YtmnaleaghfbclaaGreatDoor
set_option linter.unusedVariables false
set_option linter.unusedSimpArgs false
set_option maxHeartbeats 8000000
section
open Go.RowKit
def In (a b : Nat) : Nat → Prop := fun x => a ≤ x ∧ x < b
theorem OwnL.inn {α : Type} {R R' : World → α → List Value → Prop} {B sz : Nat} {e : TypeId} {w : World} {v : Value} {l : List α} (h : OwnL R B e sz w v l) (hR : ∀ a vs, R w a vs → R' w a vs) : SlV R' (In B w.heap.size) sz w l v := by
 obtain ⟨A, c, e1, e2, e3, e4⟩ := h.rd
 exact ⟨A, c, e1, e2, e3, e4.mono (fun b e => h.ge e) (fun a vs _ h => hR a vs h)⟩
structure CfgI (B E : Nat) (w : World) (c : Cfg) (v1 v2 v3 : Value) : Prop where
 ws : SlV winV (In B E) 2 w c.ws v1
 ps : SlV (pnV (In B E)) (In B E) 5 w c.ps v2
 cs : SlV chV (In B E) 5 w c.cs v3
structure StaI (B M E : Nat) (w : World) (s : Sta) (b d : Value) : Prop where
 ps : OwnL (ptV (fun x => In B E x ∧ b.ownBlock ≠ some x)) B 69 14 w b s.parts
 own : ∀ g, b.ownBlock = some g → In B M g
 qs : SlV (quV (In M E)) (In M E) 6 w s.queues d
 le : B ≤ M
theorem pnV.bound {I : Nat → Prop} {w : World} {a : Pn} {vs : List Value} (h : pnV I w a vs) : pnV (fun b => I b ∧ b < w.heap.size) w a vs := by
 obtain ⟨m, h1, h2, h3⟩ := h
 exact ⟨m, h1, h2.bound, h3⟩
theorem CfgO.inn {B : Nat} {w : World} {c : Cfg} {v1 v2 v3 : Value} (h : CfgO B w c v1 v2 v3) : CfgI B w.heap.size w c v1 v2 v3 :=
 ⟨h.ws.inn (fun _ _ h => h), h.ps.inn (fun _ _ h => h.bound.mono (fun b e => ⟨e.1.1, e.2⟩)), h.cs.inn (fun _ _ h => h)⟩
theorem CfgI.non {B E : Nat} {w w' : World} {c : Cfg} {v1 v2 v3 : Value} (h : CfgI B E w c v1 v2 v3) (hg : Chg Non w w') : CfgI B E w' c v1 v2 v3 :=
 ⟨h.ws.non hg (fun _ _ h => h), h.ps.non hg (fun _ _ h => h.keep hg (fun _ _ e => e)), h.cs.non hg (fun _ _ h => h)⟩
theorem StaO.inn {B M : Nat} {w : World} {s : Sta} {b d : Value} (h : StaO B w s b d) (hM : B ≤ M) (h1 : ∀ g, b.ownBlock = some g → g < M) (h2 : SlV (quV (From M)) (From M) 6 w s.queues d) : StaI B M w.heap.size w s b d :=
 ⟨h.ps.mono (fun _ _ h => h.bound.mono (fun b e => ⟨⟨e.1.1, e.2⟩, e.1.2⟩)), fun g e => ⟨(h.ps.ge e).1, h1 g e⟩, (h2.bound (by omega) (fun _ _ _ h => h.bound.mono (fun b e => (⟨e.1, e.2⟩ : In M w.heap.size b)))).mono (fun b e => (⟨e.1, e.2⟩ : In M w.heap.size b)) (fun _ _ _ h => h), hM⟩
theorem StaI.non {B M E : Nat} {w w' : World} {s : Sta} {b d : Value} (h : StaI B M E w s b d) (hg : Chg Non w w') : StaI B M E w' s b d :=
 ⟨h.ps.non hg (fun _ _ h => h.keep hg (fun _ _ e => e)), h.own, h.qs.non hg (fun _ _ h => h.keep hg (fun _ _ e => e)), h.le⟩
theorem mapV_nil {w : World} {q : Nat} (h : w.heap[q]? = some (.map #[] 0)) : MapV w q [] :=
 ⟨⟨#[], 0, h, ⟨fun e h => by simp at h, by simp, by simp⟩, rfl⟩, fun p h => by cases h⟩
theorem ker_made {W : World} {c : Cfg} {s : Sta} {ver : Int} {p q Bc Ec Bs M Es : Nat} {v1 v2 v3 b d : Value} (hblk : W.heap[p]? = some (.cells (kerC ⟨c, s, ver, 0, [], false⟩ ⟨p, q, v1, v2, v3, b⟩ d) 64 (0, 0)))
  (hc : CfgI Bc Ec W c v1 v2 v3) (hs : StaI Bs M Es W s b d) (hm : MapV W q []) (h1 : q < Bc ∨ Ec ≤ q) (h2 : q < Bs ∨ Es ≤ q) (h3 : Ec ≤ Bs) (h4 : Es ≤ p) (h5 : q ≠ p) (h6 : Ec ≤ p) (hME : M ≤ Es) {B0 : Nat} (h7 : B0 ≤ Bc) (h8 : B0 ≤ Bs) (hf : I64 s.frames) (hv : I64 ver) :
  KerB (fun x => KAt.own ⟨p, q, v1, v2, v3, b⟩ x ∨ x < B0) W ⟨c, s, ver, 0, [], false⟩ ⟨p, q, v1, v2, v3, b⟩ := by
 have hN : ∀ x, KAt.own ⟨p, q, v1, v2, v3, b⟩ x → x = p ∨ x = q ∨ (b.ownBlock = some x ∧ Bs ≤ x ∧ x < M) := fun x e => by
  rcases e with e | e | e
  ·exact .inl e
  ·exact .inr (.inl e)
  ·exact .inr (.inr ⟨e, hs.own x e⟩)
 have hcI : ∀ x, In Bc Ec x → ¬ (KAt.own ⟨p, q, v1, v2, v3, b⟩ x ∨ x < B0) := fun x e e2 => by
  obtain ⟨e3, e4⟩ := e
  rcases e2 with e2 | e2
  ·rcases hN x e2 with e | e | ⟨_, e, _⟩ <;> omega
  ·omega
 have hsI : ∀ x, In M Es x → ¬ (KAt.own ⟨p, q, v1, v2, v3, b⟩ x ∨ x < B0) := fun x e e2 => by
  obtain ⟨e3, e4⟩ := e
  have := hs.le
  rcases e2 with e2 | e2
  ·rcases hN x e2 with e | e | ⟨_, _, e⟩ <;> omega
  ·omega
 have hpI : ∀ x, (In Bs Es x ∧ b.ownBlock ≠ some x) → ¬ (KAt.own ⟨p, q, v1, v2, v3, b⟩ x ∨ x < B0) := fun x e e2 => by
  obtain ⟨⟨e3, e4⟩, e5⟩ := e
  rcases e2 with e2 | e2
  ·rcases hN x e2 with e | e | ⟨e, _⟩
   ·omega
   ·omega
   ·exact e5 e
  ·omega
 refine ⟨⟨d, hblk, hs.qs.mono hsI (fun _ _ _ h => h.mono hsI)⟩, fun _ e => .inl e, ⟨h5.symm, fun e => ?_, fun e => ?_⟩, hc.ws.mono hcI (fun _ _ _ h => h), hc.ps.mono hcI (fun _ _ _ h => h.mono hcI), hc.cs.mono hcI (fun _ _ _ h => h), (hs.ps.base (Nat.zero_le _)).mono (fun _ _ h => h.mono hpI), ⟨[], hm, rfl, fun i x y h => by simp at h⟩, hf, hv, by show I64 0; unfold I64; omega⟩
 ·have e3 : Bs ≤ p := (hs.own _ e).1
  have e4 : p < M := (hs.own _ e).2
  omega
 ·have e3 : Bs ≤ q := (hs.own _ e).1
  have e4 : q < M := (hs.own _ e).2
  omega
theorem StaI.cap {B M E : Nat} {w : World} {s : Sta} {b d : Value} (h : StaI B M E w s b d) (hE : ∀ g, b.ownBlock = some g → g < E) (hBE : B ≤ E) : StaI B (min M E) E w s b d :=
 ⟨h.ps, fun g e => ⟨(h.own g e).1, by have := (h.own g e).2; have := hE g e; omega⟩, h.qs.mono (fun x e => (⟨Nat.le_trans (Nat.min_le_left _ _) e.1, e.2⟩ : In _ _ x)) (fun _ _ _ h => h.mono (fun x e => (⟨Nat.le_trans (Nat.min_le_left _ _) e.1, e.2⟩ : In _ _ x))), by have := h.le; omega⟩
open Classical in
set_option maxRecDepth 100000 in
theorem new_okN (I J : Nat → Prop) (w : World) (c : Cfg) (s : Sta) (ver : Int) (A1 A2 A3 : Option Addr) (c1 c2 c3 : Nat) (vb vd : Value) (hc : CfgR J w c A1 A2 A3 c1 c2 c3) (hs : StaV I w s vb vd) (his : isB s c) (hf : I64 s.frames) (hv : I64 ver) (hcl : c.ws.length ≤ 1000 ∧ c.ps.length ≤ 1000 ∧ c.cs.length ≤ 1000) (hsl : s.parts.length ≤ 1000 ∧ s.queues.length ≤ 1000 ∧ ∀ a ∈ s.queues, a.msgs.length ≤ 1000) :
  Calls Tryz.prog 14 #[.agg #[.slice A1 c.ws.length c1, .slice A2 c.ps.length c2, .slice A3 c.cs.length c3], .agg #[.int .i64 s.frames, vb, vd], .int .i64 ver] w fun e w' => ∃ a : KAt, e = .returned (.tuple #[.pointer (some ⟨a.p, 0, none⟩), .int .i64 0]) ∧ KerB (fun x => a.own x ∨ x < w.heap.size) w' ⟨c, s, ver, 0, [], false⟩ a ∧ (∀ b, a.own b → w.heap.size ≤ b) ∧ Chg Non w w' := by
 obtain ⟨Ab, cb, rfl, _⟩ := hs.ps
 obtain ⟨Ad, cd, rfl, _⟩ := hs.qs
 obtain ⟨hcl1, hcl2, hcl3⟩ := hcl
 obtain ⟨hsl1, hsl2, hsl3⟩ := hsl
 have hmm := @run_makeMap Tryz.prog
 have hIs := fun W (hg : Chg Non w W) => is_ok I J W s (.slice Ab s.parts.length cb) (.slice Ad s.queues.length cd) c A1 A2 A3 c1 c2 c3 (hs.non hg) (hc.non hg) hcl2
 simp only [decide_eq_true his] at hIs
 have HIs := Lib.hid hIs
 have HCn := Lib.hid hc
 have HSn := Lib.hid hs
 clear hc hs his hIs
 go_enter Tryz.func14, Tryz.ntmps14
 go_wp2_with fail
 refine (HIs.out _ (((Chg.refl Non w).alloc _).alloc _)).mono ?_
 rintro e u ⟨rfl, hg⟩
 obtain ⟨hb0, hb1, hlt, hgw⟩ := blk_call2 hg
 have HB0u := Lib.hid hb0
 have HB1u := Lib.hid hb1
 have HGu := Lib.hid hgw
 clear hg hb0 hb1 hgw
 go_wp2_with fail
 obtain ⟨V, hV⟩ : ∃ x, x = u.drew := ⟨_, rfl⟩
 have hgV : Chg Non u V := by rw [hV]; exact (Chg.refl Non u).drew
 have HGV := Lib.hid (HGu.out.then_non hgV)
 have HB0 := Lib.hid (blk_keep HB0u.out hgV (fun e => e))
 have HB1 := Lib.hid (blk_keep HB1u.out hgV (fun e => e))
 have HCc := Lib.hid (fun W (hW : Chg Non V W) => ccopy_ok J W c A1 A2 A3 c1 c2 c3 ((HCn.out.non HGV.out).non hW) hcl1 hcl2 hcl3)
 have HSc := Lib.hid (fun W (hW : Chg Non V W) => scopy_apart I W s (.slice Ab s.parts.length cb) (.slice Ad s.queues.length cd) ((HSn.out.non HGV.out).non hW) hsl1 hsl2 hsl3)
 have hwV := HGV.out.size
 clear hgV HB0u HB1u HGu
 refine wp_region_held_drew (S := Chg Non u.drew) (by kernel_rfl) (Chg.refl _ _) (fun hHeld => ?_)
 clear hHeld
 rw [← hV]
 clear hV
 refine h_load 0 (some 12) 26 (.tmp 3) w.heap.size 0 #[.slice A1 c.ws.length c1, .slice A2 c.ps.length c2, .slice A3 c.cs.length c3] _ rfl (by kernel_rfl) (by kernel_rfl) (by kernel_rfl) (by kernel_rfl) (by kernel_rfl) (fun _ _ _ h => h) (by kernel_rfl) (by kernel_rfl) (fun W hW => range_keepS (blk_range HB0.out) hW (fun e => e)) Tryz.underlying26 rfl (by kernel_rfl) (Chg.refl _ _) ?_
 simp only [Act.put, sA, sB, sC]
 refine h_load 2 (some 14) 30 (.tmp 4) (w.heap.size + 1) 0 #[.int .i64 s.frames, .slice Ab s.parts.length cb, .slice Ad s.queues.length cd] _ rfl (by kernel_rfl) (by kernel_rfl) (by kernel_rfl) (by kernel_rfl) (by kernel_rfl) (fun _ _ _ h => h) (by kernel_rfl) (by kernel_rfl) (fun W hW => range_keepS (blk_range HB1.out) hW (fun e => e)) Tryz.underlying30 rfl (by kernel_rfl) (Chg.refl _ _) ?_
 simp only [Act.put, sA, sB, sC]
 refine hp 4 16 (.int .i64 ver) rfl (Chg.refl _ _) ?_
 refine h_two 1 5 (by kernel_rfl) rfl rfl (by kernel_rfl) (by kernel_rfl) ?_ ?_
 ·intro K hK
  go_simp
  refine (HCc.out V (Chg.refl _ _)).mono ?_
  rintro e u1 ⟨v1, v2, v3, rfl, hco, hg1⟩
  obtain ⟨a1, k1, rfl, _⟩ := hco.ws.rd
  obtain ⟨a2, k2, rfl, _⟩ := hco.ps.rd
  obtain ⟨a3, k3, rfl, _⟩ := hco.cs.rd
  have HCI := Lib.hid hco.inn
  have HU1 := Lib.hid hg1
  clear hco hg1
  refine hK.out _ _ HU1.out (fun _ => ?_)
  clear hK K
  try simp only [Act.put, sA, sB, sC]
  refine h_two 3 5 (by kernel_rfl) rfl rfl (by kernel_rfl) (by kernel_rfl) ?_ ?_
  ·intro K hK
   go_simp
   refine (HSc.out u1 HU1.out).mono ?_
   rintro e u3 ⟨b, d, rfl, hso, ⟨M, hM1, hM2, hM3⟩, hg3⟩
   have hcapE := fun g e => (hso.ps.ge (g := g) e).2
   have hcapB := hg3.size
   have HSI0 := hso.inn hM1 hM2 hM3
   obtain ⟨a4, k4, rfl, _⟩ := hso.ps.rd
   obtain ⟨a5, k5, rfl, _⟩ := hso.qs.rd
   have HSI := Lib.hid HSI0
   have HU3 := Lib.hid hg3
   skip
   clear hso hM3 HSI0 hg3
   refine hK.out _ _ (HU1.out.then_non HU3.out) (fun _ => ?_)
   clear hK K
   try simp only [Act.put, sA, sB, sC]
   refine h_one 5 (by kernel_rfl) rfl (by kernel_rfl) ?_
   intro K hK
   go_simp
   refine hK.out _ _ ((HU1.out.then_non HU3.out).alloc _) (fun _ => ?_)
   clear hK K
   try simp only [Act.put, sA, sB, sC]
   have hm0 := heap_alloc_new u3 (.map #[] 0)
   have h3a : Chg Non u3 (u3.alloc (.map #[] 0)) := (Chg.refl Non u3).alloc _
   refine hp 6 18 (.agg #[.bool true, .slice a1 c.ws.length k1, .slice a2 c.ps.length k2, .slice a3 c.cs.length k3, .int .i64 s.frames, .slice a4 s.parts.length k4, .slice a5 s.queues.length k5, .int .i64 ver, .int .i64 0, .map (some u3.heap.size), .bool false]) rfl ((HU1.out.then_non HU3.out).alloc _) ?_ (he := (fun W hW => by kernel_rfl))
   refine h_one 7 (by kernel_rfl) rfl (by kernel_rfl) ?_
   intro K hK
   go_simp
   refine hK.out _ _ (((HU1.out.then_non HU3.out).alloc _).alloc _) (fun _ => ?_)
   clear hK K
   try simp only [Act.put, sA, sB, sC]
   refine hp 8 6 (.pointer (some ⟨(u3.alloc (.map #[] 0)).heap.size, 0, none⟩)) rfl (((HU1.out.then_non HU3.out).alloc _).alloc _) ?_
   refine hp 9 7 (.int .i64 0) rfl (((HU1.out.then_non HU3.out).alloc _).alloc _) ?_
   refine wpAnyH_done (by kernel_rfl) ?_ _
   go_wp2_with fail
   go_ret2
   have hal : Chg Non (u3.alloc (.map #[] 0)) ((u3.alloc (.map #[] 0)).alloc (.cells #[.bool true, .slice a1 c.ws.length k1, .slice a2 c.ps.length k2, .slice a3 c.cs.length k3, .int .i64 s.frames, .slice a4 s.parts.length k4, .slice a5 s.queues.length k5, .int .i64 ver, .int .i64 0, .map (some u3.heap.size), .bool false] 64)) := (Chg.refl Non (u3.alloc (.map #[] 0))).alloc _
   have hVX : Chg Non V (u3.alloc (.map #[] 0)) := ((HU1.out.then_non HU3.out).alloc _)
   have hsV := hVX.size
   have h31 := HU3.out.size
   have h3s : (u3.alloc (.map #[] 0)).heap.size = u3.heap.size + 1 := by simp
   have h1V := HU1.out.size
   refine ⟨⟨(u3.alloc (.map #[] 0)).heap.size, u3.heap.size, .slice a1 c.ws.length k1, .slice a2 c.ps.length k2, .slice a3 c.cs.length k3, .slice a4 s.parts.length k4⟩, rfl, ker_made (q := u3.heap.size) (M := min M u3.heap.size) (heap_alloc_new _ _) (((HCI.out.non HU3.out).non h3a).non hal) (((HSI.out.non h3a).cap hcapE hcapB).non hal) (mapV_nil (blk_keep (hm0) hal (fun e => e))) ?_ ?_ ?_ ?_ ?_ ?_ (Nat.min_le_right _ _) (B0 := w.heap.size) ?_ ?_ hf hv, fun x e => ?_, HGV.out.then_non (hVX.then_non hal)⟩
   all_goals first | omega | skip
   rcases e with e | e | e
   ·have e' : x = (u3.alloc (.map #[] 0)).heap.size := e
    omega
   ·have e' : x = u3.heap.size := e
    omega
   ·have := (HSI.out.own x e).1
    omega
  ·intro K hK
   go_simp
   refine hK.out _ _ (HU1.out.alloc _) (fun _ => ?_)
   clear hK K
   try simp only [Act.put, sA, sB, sC]
   have hm0 := heap_alloc_new u1 (.map #[] 0)
   have h1a : Chg Non u1 (u1.alloc (.map #[] 0)) := (Chg.refl Non u1).alloc _
   refine h_one 3 (by kernel_rfl) rfl (by kernel_rfl) ?_
   intro K hK
   go_simp
   refine (HSc.out (u1.alloc (.map #[] 0)) (HU1.out.alloc _)).mono ?_
   rintro e u3 ⟨b, d, rfl, hso, ⟨M, hM1, hM2, hM3⟩, hg3⟩
   have hcapE := fun g e => (hso.ps.ge (g := g) e).2
   have hcapB := hg3.size
   have HSI0 := hso.inn hM1 hM2 hM3
   obtain ⟨a4, k4, rfl, _⟩ := hso.ps.rd
   obtain ⟨a5, k5, rfl, _⟩ := hso.qs.rd
   have HSI := Lib.hid HSI0
   have HU3 := Lib.hid hg3
   skip
   clear hso hM3 HSI0 hg3
   refine hK.out _ _ ((HU1.out.alloc _).then_non HU3.out) (fun _ => ?_)
   clear hK K
   try simp only [Act.put, sA, sB, sC]
   refine hp 6 18 (.agg #[.bool true, .slice a1 c.ws.length k1, .slice a2 c.ps.length k2, .slice a3 c.cs.length k3, .int .i64 s.frames, .slice a4 s.parts.length k4, .slice a5 s.queues.length k5, .int .i64 ver, .int .i64 0, .map (some u1.heap.size), .bool false]) rfl ((HU1.out.alloc _).then_non HU3.out) ?_ (he := (fun W hW => by kernel_rfl))
   refine h_one 7 (by kernel_rfl) rfl (by kernel_rfl) ?_
   intro K hK
   go_simp
   refine hK.out _ _ (((HU1.out.alloc _).then_non HU3.out).alloc _) (fun _ => ?_)
   clear hK K
   try simp only [Act.put, sA, sB, sC]
   refine hp 8 6 (.pointer (some ⟨u3.heap.size, 0, none⟩)) rfl (((HU1.out.alloc _).then_non HU3.out).alloc _) ?_
   refine hp 9 7 (.int .i64 0) rfl (((HU1.out.alloc _).then_non HU3.out).alloc _) ?_
   refine wpAnyH_done (by kernel_rfl) ?_ _
   go_wp2_with fail
   go_ret2
   have hal : Chg Non u3 (u3.alloc (.cells #[.bool true, .slice a1 c.ws.length k1, .slice a2 c.ps.length k2, .slice a3 c.cs.length k3, .int .i64 s.frames, .slice a4 s.parts.length k4, .slice a5 s.queues.length k5, .int .i64 ver, .int .i64 0, .map (some u1.heap.size), .bool false] 64)) := (Chg.refl Non u3).alloc _
   have hVX : Chg Non V u3 := ((HU1.out.alloc _).then_non HU3.out)
   have hsV := hVX.size
   have h31 := HU3.out.size
   have h3s : (u1.alloc (.map #[] 0)).heap.size = u1.heap.size + 1 := by simp
   have h1V := HU1.out.size
   refine ⟨⟨u3.heap.size, u1.heap.size, .slice a1 c.ws.length k1, .slice a2 c.ps.length k2, .slice a3 c.cs.length k3, .slice a4 s.parts.length k4⟩, rfl, ker_made (q := u1.heap.size) (M := min M u3.heap.size) (heap_alloc_new _ _) (((HCI.out.non h1a).non HU3.out).non hal) ((HSI.out.cap hcapE hcapB).non hal) (mapV_nil (blk_keep ((blk_keep hm0 HU3.out (fun e => e))) hal (fun e => e))) ?_ ?_ ?_ ?_ ?_ ?_ (Nat.min_le_right _ _) (B0 := w.heap.size) ?_ ?_ hf hv, fun x e => ?_, HGV.out.then_non (hVX.then_non hal)⟩
   all_goals first | omega | skip
   rcases e with e | e | e
   ·have e' : x = u3.heap.size := e
    omega
   ·have e' : x = u1.heap.size := e
    omega
   ·have := (HSI.out.own x e).1
    omega
 ·intro K hK
  go_simp
  refine hK.out _ _ ((Chg.refl Non V).alloc _) (fun _ => ?_)
  clear hK K
  try simp only [Act.put, sA, sB, sC]
  have hm0 := heap_alloc_new V (.map #[] 0)
  have hVa : Chg Non V (V.alloc (.map #[] 0)) := (Chg.refl Non V).alloc _
  refine h_one 1 (by kernel_rfl) rfl (by kernel_rfl) ?_
  intro K hK
  go_simp
  refine (HCc.out (V.alloc (.map #[] 0)) hVa).mono ?_
  rintro e u1 ⟨v1, v2, v3, rfl, hco, hg1⟩
  obtain ⟨a1, k1, rfl, _⟩ := hco.ws.rd
  obtain ⟨a2, k2, rfl, _⟩ := hco.ps.rd
  obtain ⟨a3, k3, rfl, _⟩ := hco.cs.rd
  have HCI := Lib.hid hco.inn
  have HU1 := Lib.hid hg1
  clear hco hg1
  refine hK.out _ _ (hVa.then_non HU1.out) (fun _ => ?_)
  clear hK K
  try simp only [Act.put, sA, sB, sC]
  refine h_one 3 (by kernel_rfl) rfl (by kernel_rfl) ?_
  intro K hK
  go_simp
  refine (HSc.out u1 (hVa.then_non HU1.out)).mono ?_
  rintro e u3 ⟨b, d, rfl, hso, ⟨M, hM1, hM2, hM3⟩, hg3⟩
  have hcapE := fun g e => (hso.ps.ge (g := g) e).2
  have hcapB := hg3.size
  have HSI0 := hso.inn hM1 hM2 hM3
  obtain ⟨a4, k4, rfl, _⟩ := hso.ps.rd
  obtain ⟨a5, k5, rfl, _⟩ := hso.qs.rd
  have HSI := Lib.hid HSI0
  have HU3 := Lib.hid hg3
  skip
  clear hso hM3 HSI0 hg3
  refine hK.out _ _ ((hVa.then_non HU1.out).then_non HU3.out) (fun _ => ?_)
  clear hK K
  try simp only [Act.put, sA, sB, sC]
  refine hp 6 18 (.agg #[.bool true, .slice a1 c.ws.length k1, .slice a2 c.ps.length k2, .slice a3 c.cs.length k3, .int .i64 s.frames, .slice a4 s.parts.length k4, .slice a5 s.queues.length k5, .int .i64 ver, .int .i64 0, .map (some V.heap.size), .bool false]) rfl ((hVa.then_non HU1.out).then_non HU3.out) ?_ (he := (fun W hW => by kernel_rfl))
  refine h_one 7 (by kernel_rfl) rfl (by kernel_rfl) ?_
  intro K hK
  go_simp
  refine hK.out _ _ (((hVa.then_non HU1.out).then_non HU3.out).alloc _) (fun _ => ?_)
  clear hK K
  try simp only [Act.put, sA, sB, sC]
  refine hp 8 6 (.pointer (some ⟨u3.heap.size, 0, none⟩)) rfl (((hVa.then_non HU1.out).then_non HU3.out).alloc _) ?_
  refine hp 9 7 (.int .i64 0) rfl (((hVa.then_non HU1.out).then_non HU3.out).alloc _) ?_
  refine wpAnyH_done (by kernel_rfl) ?_ _
  go_wp2_with fail
  go_ret2
  have hal : Chg Non u3 (u3.alloc (.cells #[.bool true, .slice a1 c.ws.length k1, .slice a2 c.ps.length k2, .slice a3 c.cs.length k3, .int .i64 s.frames, .slice a4 s.parts.length k4, .slice a5 s.queues.length k5, .int .i64 ver, .int .i64 0, .map (some V.heap.size), .bool false] 64)) := (Chg.refl Non u3).alloc _
  have hVX : Chg Non V u3 := ((hVa.then_non HU1.out).then_non HU3.out)
  have hsV := hVX.size
  have h31 := HU3.out.size
  have h3s : (V.alloc (.map #[] 0)).heap.size = V.heap.size + 1 := by simp
  have h1V := HU1.out.size
  refine ⟨⟨u3.heap.size, V.heap.size, .slice a1 c.ws.length k1, .slice a2 c.ps.length k2, .slice a3 c.cs.length k3, .slice a4 s.parts.length k4⟩, rfl, ker_made (q := V.heap.size) (M := min M u3.heap.size) (heap_alloc_new _ _) ((HCI.out.non HU3.out).non hal) ((HSI.out.cap hcapE hcapB).non hal) (mapV_nil (blk_keep ((blk_keep hm0 (HU1.out.then_non HU3.out) (fun e => e))) hal (fun e => e))) ?_ ?_ ?_ ?_ ?_ ?_ (Nat.min_le_right _ _) (B0 := w.heap.size) ?_ ?_ hf hv, fun x e => ?_, HGV.out.then_non (hVX.then_non hal)⟩
  all_goals first | omega | skip
  rcases e with e | e | e
  ·have e' : x = u3.heap.size := e
   omega
  ·have e' : x = V.heap.size := e
   omega
  ·have := (HSI.out.own x e).1
   omega
theorem KerB.less {N N' : Nat → Prop} {w : World} {k : Kn} {a : KAt} (h : KerB N' w k a) (h1 : ∀ b, N b → N' b) (h2 : ∀ b, a.own b → N b) : KerB N w k a := by
 have hI : ∀ b, ¬ N' b → ¬ N b := fun b e e2 => e (h1 b e2)
 obtain ⟨⟨vq, a1, a2⟩, a3, a4, a5, a6, a7, a8, ⟨m, a9, a10⟩, a11⟩ := h
 exact ⟨⟨vq, a1, a2.mono hI (fun _ _ _ h => h.mono hI)⟩, h2, a4, a5.mono hI (fun _ _ _ h => h), a6.mono hI (fun _ _ _ h => h.mono hI), a7.mono hI (fun _ _ _ h => h), a8.mono (fun _ _ h => h.mono hI), ⟨m, a9, a10.1, fun i x y hx hy => ⟨(a10.2 i x y hx hy).1, (a10.2 i x y hx hy).2.1.mono hI, (a10.2 i x y hx hy).2.2⟩⟩, a11⟩
end
section
open Go.RowKit
def physL (xs : List (Rg × List UInt8)) : List UInt8 := xs.foldl (fun Z x => put Z x.1.base.toNat x.2) (List.replicate 4096 0)
theorem splice_put (Z : List UInt8) (a : Nat) (b : List UInt8) : splice (Z.map bv) a (b.map bv) = (put Z a b).map bv := by
 simp [splice, put, List.map_append, List.map_take, List.map_drop]
theorem physL_snoc (xs : List (Rg × List UInt8)) (a : Rg) (m : List UInt8) : physL (xs ++ [(a, m)]) = put (physL xs) a.base.toNat m := by
 unfold physL
 rw [List.foldl_append]
 rfl
theorem physL_len {xs : List (Rg × List UInt8)} (h : ∀ x ∈ xs, x.1.may = true ∧ (x.2.length : Int) = x.1.size) : (physL xs).length = 4096 := by
 have gen : ∀ (ys : List (Rg × List UInt8)) (Z : List UInt8), Z.length = 4096 → (∀ x ∈ ys, x.1.may = true ∧ (x.2.length : Int) = x.1.size) → (ys.foldl (fun Z x => put Z x.1.base.toNat x.2) Z).length = 4096 := by
  intro ys
  induction ys with
  | nil => intro Z hZ _; exact hZ
  | cons y t ih =>
   intro Z hZ hy
   refine ih _ ?_ (fun x hx => hy x (List.mem_cons_of_mem _ hx))
   obtain ⟨h1, h2⟩ := hy y (List.mem_cons_self ..)
   have := regMay_iff.1 h1
   rw [put_len (by omega)]
   exact hZ
 exact gen xs _ List.length_replicate h
set_option maxRecDepth 100000 in
theorem mphys_ok (I J J2 : Nat → Prop) (A B : Option Addr) (rs : List Rg) (ms : List (List UInt8)) (c d : Nat) (w : World) (hr : RdL rgV I 2 w A rs) (hm : RdL (msgV J) J2 1 w B ms) (hc : rs.length ≤ c) (hcm : c ≤ maxLen) (hd : ms.length ≤ d) (hdm : d ≤ maxLen) (hlen : rs.length = ms.length)
  (hmay : ∀ (i : Nat) (a : Rg) (m : List UInt8), rs[i]? = some a → ms[i]? = some m → a.may = true ∧ (m.length : Int) = a.size) (hall : regAll rs = 0) :
  Calls Tryz.prog 63 #[.slice A rs.length c, .slice B ms.length d] w fun e w' => ∃ v, e = .returned (.tuple #[v, .int .i64 0]) ∧ BytesV (From w.heap.size) w' (physL (rs.zip ms)) v ∧ Chg Non w w' := by
 have HAll := Lib.hid (fun W (hg : Chg Non w W) => regAll_ok I A rs c W (hr.non hg (fun _ _ h => h)) hc hcm)
 rw [hall] at HAll
 unfold maxLen at hcm hdm
 have HR := Lib.hid hr
 have HM := Lib.hid hm
 have HMay := Lib.hid hmay
 have hmk : ∀ W : World, (Instr.makeSlice 50 (.int .i64 4096) (.int .i64 4096)).run Tryz.prog W = .ok (.slice (some ⟨W.heap.size, 0, none⟩) 4096 4096) (W.alloc (.cells (Array.replicate 4096 (.int .u8 0)) 5)) := fun W => by
  have := mk_bytes (4096 : Int) (by omega) (by omega) W
  simpa using this
 obtain ⟨Z0, hZ0⟩ : ∃ Z, Z = Array.replicate 4096 (Value.int .u8 0) := ⟨_, rfl⟩
 have HZ0 := Lib.hid hZ0
 rw [← hZ0] at hmk
 obtain ⟨n, hn⟩ : ∃ n, rs.length = n := ⟨_, rfl⟩
 have hn2 : ms.length = n := by omega
 have HN := Lib.hid (And.intro hn hn2)
 rw [hn, hn2]
 rw [hn] at hc HAll
 rw [hn2] at hd
 have hneq : ((n : Int) == (n : Int)) = true := by simp
 clear hr hm hmay hall hlen hn hn2 hZ0
 go_enter Tryz.func63, Tryz.ntmps63
 go_wp2_with fail
 go_loopw [19] (fun iv wr => ∃ k : Nat, k ≤ n ∧ iv = .int .i64 k ∧ Hid (Chg Non w wr)) (fun iv _ => n - (intOf iv).toNat)
 case atStart => exact ⟨0, Nat.zero_le _, rfl, Lib.hid (Chg.refl _ _)⟩
 case round =>
  obtain ⟨k, hk, rfl, HG⟩ := hrel
  by_cases hlt : k < n
  ·obtain ⟨a, ha⟩ : ∃ a, rs[k]? = some a := ⟨_, List.getElem?_eq_getElem (by rw [HN.out.1]; exact hlt)⟩
   obtain ⟨m, hmk2⟩ : ∃ m, ms[k]? = some m := ⟨_, List.getElem?_eq_getElem (by rw [HN.out.2]; exact hlt)⟩
   obtain ⟨hmy, hml⟩ := HMay.out k a m ha hmk2
   obtain ⟨b, o, rfl, _, hat⟩ := (HR.out.non HG.out (fun a vs h => h)).at_ (by rw [HN.out.1]; omega)
   obtain ⟨_, _, hrg, rfl⟩ := hat k a ha
   obtain ⟨bm, om, rfl, _, hatm⟩ := (HM.out.non HG.out (fun a vs h => msgV_non _ _ _ _ HG.out h)).at_ (by rw [HN.out.2]; omega)
   obtain ⟨vsm, _, hrgm, mv, rfl, hbm, _⟩ := hatm k m hmk2
   obtain ⟨Am, cm, rfl, _, _, _, _⟩ := hbm
   have k0 : wr.cell? ⟨b, o + k * 2, none⟩ = some (.int .i64 a.base) := hrg 0 _ rfl
   have k1 : wr.cell? ⟨b, o + k * 2 + 1, none⟩ = some (.int .i64 a.size) := hrg 1 _ rfl
   have kb := lt_of_cell k0
   have k2r : wr.cell? ⟨bm, om + k, none⟩ = some (.slice Am m.length cm) := by have := hrgm 0 _ rfl; rwa [Nat.mul_one, Nat.add_zero] at this
   have hltd : decide ((k : Int) < (n : Int)) = true := by simpa using hlt
   have hki : (k : Int) < (n : Int) := by omega
   have HMy := Lib.hid (fun W => regMay_ok a.base a.size W)
   rw [show regMay a.base a.size = true from hmy] at HMy
   have hms : ms.length = n := HN.out.2
   have HMs := Lib.hid hms
   have hsz : ((m.length : Int) == a.size) = true := by simpa using hml
   have hszn : ((m.length : Int) != a.size) = false := by simp [hml]
   simp only at kb
   clear ha hmk2 hmy hat hatm hrg hrgm hms
   go_wp2_with fail
   obtain ⟨V, hV⟩ : ∃ x, x = (wr.alloc (.cells #[.int .i64 a.base, .int .i64 a.size] 81)).drew := ⟨_, rfl⟩
   have hgV : Chg Non wr V := by rw [hV]; exact ((Chg.refl Non wr).alloc _).drew
   have HB7 : Hid (V.heap[wr.heap.size]? = some (.cells #[.int .i64 a.base, .int .i64 a.size] 81 (0, 0))) := Lib.hid (by rw [hV]; exact heap_alloc_new _ _)
   have k2 : V.cell? ⟨bm, om + k, none⟩ = some (.slice Am m.length cm) := hgV.cell_some k2r (fun e => e)
   have k3 : V.cell? ⟨wr.heap.size, 1, none⟩ = some (.int .i64 a.size) := blk_cell HB7.out 1 rfl
   have HGV := Lib.hid (HG.out.then_non hgV)
   clear hgV k0 k1 k2r kb
   refine wp_region_held_drew (S := Chg Non (wr.alloc (.cells #[.int .i64 a.base, .int .i64 a.size] 81)).drew) (by kernel_rfl) (Chg.refl _ _) (fun hHeld => ?_)
   clear hHeld
   rw [← hV]
   clear hV
   refine h_load 0 (some 24) 81 (.tmp 7) wr.heap.size 0 #[.int .i64 a.base, .int .i64 a.size] _ rfl (by kernel_rfl) (by kernel_rfl) (by kernel_rfl) (by kernel_rfl) (by kernel_rfl) (fun _ _ _ h => h) (by kernel_rfl) (by kernel_rfl) (fun W hW => range_keepS (blk_range HB7.out) hW (fun e => e)) Tryz.underlying81 rfl (by kernel_rfl) (Chg.refl _ _) ?_
   simp only [Act.put, sA, sB, sC]
   refine h_one 1 (by kernel_rfl) rfl (by kernel_rfl) ?_
   intro K hK
   go_simp
   refine (HMy.out V).mono ?_
   rintro e u1 ⟨rfl, hg⟩
   have HU := Lib.hid hg
   clear hg
   refine hK.out _ _ HU.out (fun _ => ?_)
   clear hK K
   try simp only [Act.put, sA, sB, sC]
   refine hp 2 26 (.bool false) rfl HU.out ?_
   refine hp 3 27 (.bool false) rfl HU.out ?_
   refine hp 4 28 (.slice (some ⟨bm, om, none⟩) n d) rfl HU.out ?_
   refine hp 5 29 (.int .i64 k) rfl HU.out ?_
   refine hp 6 30 (.pointer (some ⟨bm, om + k, none⟩)) rfl HU.out ?_
   refine hp 7 31 (.slice Am m.length cm) rfl HU.out ?_ (he := (fun W hW => by have hc := hW.cell_some k2 (fun e => e); go_simp))
   refine hp 8 32 (.int .i64 (m.length : Nat)) rfl HU.out ?_
   refine hp 9 33 (.pointer (some ⟨wr.heap.size, 1, none⟩)) rfl HU.out ?_
   refine hp 10 34 (.int .i64 a.size) rfl HU.out ?_ (he := (fun W hW => by have hc := hW.cell_some k3 (fun e => e); go_simp))
   refine hp 11 35 (.bool false) rfl HU.out ?_
   refine hp 12 36 (.bool false) rfl HU.out ?_
   refine wpAnyH_done (by kernel_rfl) ?_ _
   have HG3 := Lib.hid (HGV.out.then_non HU.out)
   clear k2 k3
   go_wp2_with fail
   exact ⟨⟨k + 1, by omega, by simp, HG3⟩, by simp [intOf]; omega⟩
  ·obtain rfl : n = k := by omega
   have hltd : decide ((n : Int) < (n : Int)) = false := by simp
   go_wp2_with fail
   refine (HAll.out _ HG.out).mono ?_
   rintro e u ⟨rfl, hg⟩
   have HGu := Lib.hid (HG.out.then_non hg)
   clear hg
   go_wp2_with fail
   obtain ⟨G, hG⟩ : ∃ x, x = u.heap.size := ⟨_, rfl⟩
   have HGa : Hid (Chg Non w (u.alloc (.cells Z0 5))) := Lib.hid (HGu.out.alloc _)
   have HBa : Hid ((u.alloc (.cells Z0 5)).heap[G]? = some (.cells ((physL ((rs.zip ms).take 0)).map bv).toArray 5 (0, 0))) := Lib.hid (by
     rw [hG, heap_alloc_new, HZ0.out]
     unfold physL
     rw [List.take_zero, List.foldl_nil, List.map_replicate, List.toArray_replicate]
     first | rfl | skip)
   have hwG : w.heap.size ≤ G := by have := HGu.out.size; omega
   rw [← hG]
   generalize u.alloc (.cells Z0 5) = ua at HGa HBa ⊢
   clear hG hmk
   have HZl : Hid (∀ k, (physL ((rs.zip ms).take k)).length = 4096) := Lib.hid (fun k => physL_len (fun x hx => by
     obtain ⟨i, hi⟩ := List.getElem?_of_mem (List.mem_of_mem_take hx)
     rw [List.getElem?_zip_eq_some] at hi
     exact HMay.out i x.1 x.2 hi.1 hi.2))
   go_loopw [46] (fun iv wr => ∃ k : Nat, k ≤ n ∧ iv = .int .i64 k ∧ Hid (Chg Non w wr) ∧ Hid (wr.heap[G]? = some (.cells ((physL ((rs.zip ms).take k)).map bv).toArray 5 (0, 0)))) (fun iv _ => n - (intOf iv).toNat)
   case atStart => exact ⟨0, Nat.zero_le _, rfl, HGa, HBa⟩
   case round =>
    obtain ⟨k, hk, rfl, HG, HB⟩ := hrel
    by_cases hlt : k < n
    ·obtain ⟨a, ha⟩ : ∃ a, rs[k]? = some a := ⟨_, List.getElem?_eq_getElem (by rw [HN.out.1]; exact hlt)⟩
     obtain ⟨m, hmk2⟩ : ∃ m, ms[k]? = some m := ⟨_, List.getElem?_eq_getElem (by rw [HN.out.2]; exact hlt)⟩
     obtain ⟨hmy, hml⟩ := HMay.out k a m ha hmk2
     have hri := regMay_iff.1 hmy
     obtain ⟨b, o, rfl, _, hat⟩ := (HR.out.non HG.out (fun a vs h => h)).at_ (by rw [HN.out.1]; omega)
     obtain ⟨_, _, hrg, rfl⟩ := hat k a ha
     obtain ⟨bm, om, rfl, _, hatm⟩ := (HM.out.non HG.out (fun a vs h => msgV_non _ _ _ _ HG.out h)).at_ (by rw [HN.out.2]; omega)
     obtain ⟨vsm, _, hrgm, mv, rfl, hbm, _⟩ := hatm k m hmk2
     have HBm := Lib.hid hbm
     obtain ⟨Am, cm, rfl, _, _, _, _⟩ := hbm
     have k0 : wr.cell? ⟨b, o + k * 2, none⟩ = some (.int .i64 a.base) := hrg 0 _ rfl
     have k1 : wr.cell? ⟨b, o + k * 2 + 1, none⟩ = some (.int .i64 a.size) := hrg 1 _ rfl
     have k2r : wr.cell? ⟨bm, om + k, none⟩ = some (.slice Am m.length cm) := by have := hrgm 0 _ rfl; rwa [Nat.mul_one, Nat.add_zero] at this
     have hltd : decide ((k : Int) < (n : Int)) = true := by simpa using hlt
     have hki : (k : Int) < (n : Int) := by omega
     have HS : Hid (physL ((rs.zip ms).take (k + 1)) = put (physL ((rs.zip ms).take k)) a.base.toNat m) := Lib.hid (by
       have hz : (rs.zip ms)[k]? = some (a, m) := List.getElem?_zip_eq_some.2 ⟨ha, hmk2⟩
       obtain ⟨hkz, hz⟩ := List.getElem?_eq_some_iff.1 hz
       rw [List.take_succ_eq_append_getElem hkz, hz, physL_snoc])
     obtain ⟨nb, hnb⟩ : ∃ nb : Nat, a.base = nb := ⟨a.base.toNat, by omega⟩
     rw [hnb] at k0 hri HS
     rw [Int.toNat_natCast] at HS
     obtain ⟨asz, has⟩ : ∃ x, a.size = x := ⟨_, rfl⟩
     rw [has] at k1 hri hml
     clear ha hmk2 hmy hat hatm hrg hrgm hnb has
     go_wp2_with fail
     obtain ⟨V, hV⟩ : ∃ x, x = (wr.alloc (.cells #[.int .i64 (nb : Int), .int .i64 asz] 81)).drew := ⟨_, rfl⟩
     have hgV : Chg Non wr V := by rw [hV]; exact ((Chg.refl Non wr).alloc _).drew
     have k2 : V.cell? ⟨bm, om + k, none⟩ = some (.slice Am m.length cm) := hgV.cell_some k2r (fun e => e)
     have k3 : V.cell? ⟨wr.heap.size, 0, none⟩ = some (.int .i64 (nb : Int)) := by rw [hV]; exact blk_cell (heap_alloc_new wr (.cells #[.int .i64 (nb : Int), .int .i64 asz] 81)) 0 rfl
     have HGV := Lib.hid (HG.out.then_non hgV)
     have HBV := Lib.hid (blk_keep HB.out hgV (fun e => e))
     have HBmV := Lib.hid (HBm.out.non hgV)
     clear hgV k0 k1 k2r
     refine wp_region_still_tail 8 (by kernel_rfl) (by kernel_rfl) ?_
     simp only [List.take_succ_cons, List.take_zero, List.drop_succ_cons, List.drop_zero]
     change wpStill _ _ (wr.alloc (.cells #[.int .i64 (nb : Int), .int .i64 asz] 81)).drew (fun a' => wpList _ _ _ _ a' (wr.alloc (.cells #[.int .i64 (nb : Int), .int .i64 asz] 81)).drew) _ _
     rw [← hV]
     clear hV
     have hnb1 : (nb : Int) ≤ 4096 := by omega
     have hnb2 : ¬ 4096 = nb := by omega
     have hnb3 : nb ≤ 4096 := by omega
     iterate 8 still_step
     refine wpStill_nil ?_
     refine wpList_copy_splice rfl (.tmp 54) (.tmp 58) 50 50 rfl 5 Tryz.underlying50 (by kernel_rfl) (some ⟨G, nb, none⟩) Am (4096 - nb) (4096 - nb) m.length cm rfl rfl G nb ((physL ((rs.zip ms).take k)).map bv) 5 HBV.out (m.map bv) ?_ ?_ ?_ ?_ w.heap.size w ?_ hwG ?_
     ·rw [List.length_map, Nat.min_eq_min]; omega
     ·intro h0
      rw [List.length_map] at h0
      refine ⟨rfl, ?_⟩
      obtain ⟨A9, c9, e, _, _, hr9, _⟩ := HBmV.out
      injection e with e _ _
      subst e
      obtain ⟨b9, o9, rfl, _, hat9⟩ := hr9.at_ h0
      refine ⟨_, rfl, fun j u hu => ?_⟩
      rw [List.getElem?_map] at hu
      obtain ⟨y, hy, rfl⟩ := Option.map_eq_some_iff.1 hu
      obtain ⟨hj, rfl⟩ := List.getElem?_eq_some_iff.1 hy
      rw [addr_none]
      exact hat9 j hj
     ·rw [List.length_map, List.length_map, HZl.out]; omega
     ·intro u hu
      obtain ⟨y, _, rfl⟩ := List.mem_map.1 hu
      rfl
     ·exact HGV.out.below (fun _ e => e.elim) (Nat.le_refl _)
     intro w2 hb2 hg2
     have HG2 := Lib.hid (Chg.of_below hg2 (Nat.le_refl _) : Chg Non w w2)
     have HB2 : Hid (w2.heap[G]? = some (.cells ((physL ((rs.zip ms).take (k + 1))).map bv).toArray 5 (0, 0))) := Lib.hid (by
       have h := hb2.out
       rw [splice_put, ← HS.out] at h
       exact h)
     clear hb2 hg2 k2 k3
     go_wp2_with fail
     exact ⟨⟨k + 1, by omega, by simp, HG2, HB2⟩, by simp [intOf]; omega⟩
    ·obtain rfl : k = n := by omega
     have hltd : decide ((k : Int) < (k : Int)) = false := by simp
     have hzt : (rs.zip ms).take k = rs.zip ms := List.take_of_length_le (by rw [List.length_zip, HN.out.1, HN.out.2]; omega)
     have HF : Hid (BytesV (From w.heap.size) wr (physL (rs.zip ms)) (.slice (some ⟨G, 0, none⟩) 4096 4096)) := Lib.hid (by
       have h := HB.out
       have hl := HZl.out k
       rw [hzt] at h hl
       refine ⟨_, 4096, by rw [hl], by rw [hl]; exact Nat.le_refl _, by unfold maxLen; omega, fun i x hx => ⟨G, 0, rfl, ?_⟩, fun b o e _ => ?_⟩
       · rw [cell_of_row _ _ _ _ _ _ h, Nat.zero_add]
         simp [hx, bv]
       · injection e with e
         injection e with e _ _
         subst e
         exact hwG)
     go_wp2_with fail
     go_ret2
     exact ⟨_, rfl, HF.out, HG.out⟩
end
section
open Go.RowKit
structure WldO (B : Nat) (w : World) (qs : List Qu) (inp : List UInt8) (vq vi : Value) : Prop where
 qs : OwnL (quV (Exc B vq)) B 95 6 w vq qs
 inp : BytesV (Exc B vq) w inp vi
set_option maxRecDepth 100000 in
theorem hcopy_ok (I : Nat → Prop) (w : World) (s : Sta) (f t ver : Int) (inp : List UInt8) (vq vi : Value) (hq : SlV (quV I) I 6 w s.queues vq) (hi : BytesV I w inp vi) (hql : s.queues.length ≤ 1000) (hil : inp.length ≤ 140737488351232) (hml : ∀ a ∈ s.queues, a.msgs.length ≤ 1000) :
  Calls Tryz.prog 239 #[.agg #[.int .i64 f, .int .i64 t, .int .i64 ver, vq, vi]] w fun e w' => ∃ vq' vi', e = .returned (.agg #[.int .i64 f, .int .i64 t, .int .i64 ver, vq', vi']) ∧ WldO w.heap.size w' s.queues inp vq' vi' ∧ Chg Non w w' := by
 obtain ⟨J, hJ⟩ : ∃ J : Nat → Prop, J = fun b => I b ∧ b < w.heap.size := ⟨_, rfl⟩
 have hJb : ∀ b, J b → b < w.heap.size := fun b e => by rw [hJ] at e; exact e.2
 obtain ⟨A2, c2, rfl, hc2, hm2, hr2⟩ := hq
 have HQS : Hid (RdL (quV J) J 6 w A2 s.queues) := Lib.hid (by rw [hJ]; exact hr2.bound (by omega) (fun a vs _ h => h.bound))
 obtain ⟨A3, c3, rfl, hc3, hm3, hr3, _⟩ := hi
 have HI3 := Lib.hid hr3
 unfold maxLen at hm2
 clear hJ hr2 hr3
 go_enter Tryz.func239, Tryz.ntmps239
 go_wp2_with fail
 have hv : Chg Non w ((w.alloc (.cells #[.int .i64 f, .int .i64 t, .int .i64 ver, .slice A2 s.queues.length c2, .slice A3 inp.length c3] 313)).alloc (.cells #[.int .i64 0, .int .i64 0, .int .i64 0, .slice none 0 0, .slice none 0 0] 313)) := ((Chg.refl Non w).alloc _).alloc _
 refine (SlClone_ok A3 inp c3 _ (HI3.out.non hv) (by omega)).mono ?_
 rintro e u ⟨A4, c4, rfl, q1, q2, q3, hg⟩
 obtain ⟨hb0, hb1, hlt, hgw⟩ := blk_call2 hg
 have hlt0 : w.heap.size < u.heap.size := by omega
 have HB0 := Lib.hid hb0
 have HB1 := Lib.hid hb1
 have HG := Lib.hid hgw
 have HO1 := Lib.hid (q3.mono (B' := w.heap.size + 2) (by simp))
 have f3 := blk_cell hb0 3 (v := .slice A2 s.queues.length c2) rfl
 have f4 := blk_cell hb0 4 (v := .slice A3 inp.length c3) rfl
 have fz := blk_free hb0 4
 clear q3 hg hb0 hb1 hgw hv
 go_wp2_with fail
 have hs1 := chg_set u w.heap.size 4 (.slice A4 inp.length c4)
 have HGs : Hid (Chg Non w (u.setCell ⟨w.heap.size, 4, none⟩ (.slice A4 inp.length c4))) := Lib.hid (HG.out.then_new hs1 (fun x e => by omega))
 refine (cloneQu (quV J) J quV.keepL quV_one A2 s.queues c2 _ (fun b e => by have := hJb b e; simp; omega) (HQS.out.non HGs.out (fun a vs h => quV_non _ _ _ _ HGs.out h)) (by omega)).mono ?_
 rintro e u3 ⟨v2, rfl, ho2, hg⟩
 have HB0c := Lib.hid (blk_keep (blk_set 4 (.slice A4 inp.length c4) HB0.out) hg (fun e => e))
 have HB1c := Lib.hid (blk_keep (blk_keep HB1.out hs1 (fun e => by omega)) hg (fun e => e))
 have HG3 := Lib.hid (HGs.out.then_non hg)
 have HO1c := Lib.hid ((HO1.out.keep hs1 (fun b o e e2 e3 e4 => by omega)).non hg)
 have HO2 := Lib.hid (ho2.base (B' := w.heap.size + 2) (by simp; omega))
 have f0 := blk_cell HB0c.out 3 (v := .slice A2 s.queues.length c2) rfl
 have fz' := blk_free HB0c.out 3
 have hlt3 := blk_lt HB0c.out
 have hlt3b := blk_lt HB1c.out
 obtain ⟨R2, d2, rfl, hd2, hdm2, _⟩ := ho2.rd
 have hR2 : ∀ g, (Value.slice R2 s.queues.length d2).ownBlock = some g → u.heap.size ≤ g := fun g e => by have := (ho2.ge e).1; simpa using this
 have HOi : Hid (∀ b o, A4 = some ⟨b, o, none⟩ → inp ≠ [] → b < u.heap.size) := Lib.hid (fun b o e hne => by
   obtain ⟨b', o', e', hlt, _⟩ := HO1.out.rd.at_ (List.length_pos_iff.2 hne)
   rw [e] at e'
   injection e' with e'
   injection e' with e' _ _
   subst e'
   exact hlt)
 unfold maxLen at hdm2
 clear ho2 hg hs1 f3 f4 fz
 go_wp2_with fail
 have hs3 := chg_set u3 w.heap.size 3 (.slice R2 s.queues.length d2)
 obtain ⟨v0, hv0⟩ : ∃ v, v = u3.setCell ⟨w.heap.size, 3, none⟩ (.slice R2 s.queues.length d2) := ⟨_, rfl⟩
 rw [← hv0] at hs3 ⊢
 have HBX : Hid (v0.heap[w.heap.size]? = some (.cells #[.int .i64 f, .int .i64 t, .int .i64 ver, .slice R2 s.queues.length d2, .slice A4 inp.length c4] 313 (0, 0))) := Lib.hid (by rw [hv0]; exact blk_set 3 _ HB0c.out)
 have HB1d := Lib.hid (blk_keep HB1c.out hs3 (fun e => by omega))
 have HG4 := Lib.hid (HG3.out.then_new hs3 (fun x e => by omega))
 have HO1d := Lib.hid (HO1c.out.keep hs3 (fun b o e e2 e3 e4 => by omega))
 have HQ0 := Lib.hid (HO2.out.keep hs3 (fun g e e2 => by have := (HO2.out.ge e).1; omega) (fun a vs h => h.keep hs3 (fun b e e2 => by have := hJb b e; omega)))
 have hv0s := HG4.out.size
 have hv0b := blk_lt HB1d.out
 clear hv0 hs3
 go_loopw [18] (fun iv wr => ∃ k : Nat, k ≤ s.queues.length ∧ iv = .int .i64 k ∧ Hid (OwnL (quT J (From v0.heap.size)) (w.heap.size + 2) 95 6 wr (.slice R2 s.queues.length d2) (tg k s.queues)) ∧ Hid (Chg (fun b => (Value.slice R2 s.queues.length d2).ownBlock = some b) v0 wr)) (fun iv _ => s.queues.length - (intOf iv).toNat)
 case atStart => exact ⟨0, Nat.zero_le _, rfl, Lib.hid (tg_zero HQ0.out (fun a vs h => h)), Lib.hid (Chg.refl _ _)⟩
 case round =>
  obtain ⟨k, hk, rfl, HO, HGr⟩ := hrel
  obtain ⟨wo, hwo⟩ : ∃ x, x = wr := ⟨_, rfl⟩
  subst hwo
  have HBr := Lib.hid (blk_keep HBX.out HGr.out (fun e => by have := (HQ0.out.ge e).1; omega))
  have hlw := blk_lt HBr.out
  have hsv := HGr.out.size
  by_cases hlt : k < s.queues.length
  ·obtain ⟨g, cap, cur, e1, hBg, hgb, r1, r2, r3, hat⟩ := HO.out.shape (by rw [tg_len]; omega)
   injection e1 with e1 e2 e3
   clear e2
   subst e1 e3
   have hg0 : g < v0.heap.size := (HQ0.out.ge (g := g) rfl).2
   obtain ⟨a, ha⟩ : ∃ a, s.queues[k]? = some a := ⟨_, List.getElem?_eq_getElem hlt⟩
   have hltd : decide ((k : Int) < (s.queues.length : Int)) = true := by simpa using hlt
   obtain ⟨vs, hvl, hrg, hR⟩ := hat k (a, false) (by rw [tg_get, ha]; simp)
   obtain ⟨m, rfl, ⟨A, c5, rfl, hc5, hcm5, hrm⟩, hbd, hl5⟩ := (show quV J wo a vs from hR)
   have hms : a.msgs.length ≤ 1000 := hml a (List.mem_of_getElem? ha)
   have HA := Lib.hid ha
   have HBD := Lib.hid hbd
   obtain ⟨⟨x1, x2, x3, x4, x5⟩, ms⟩ := a
   simp only at hl5 hrm hc5 hms
   unfold maxLen at hcm5
   have HRG := Lib.hid hrg
   have hm50 : wo.cell? ⟨g, k * 6 + 5, none⟩ = some (.slice A ms.length c5) := hrg 5 _ rfl
   clear hat hR r1 r2 r3 ha hrg hbd
   go_wp2_with (first
     | (refine sel (some 22) (.load 95 _) ?_; refine wpList_load_mid rfl 95 (.tmp 21) rfl g (k * 6) rfl [.int .i64 x1, .int .i64 x2, .int .i64 x3, .int .i64 x4, .int .i64 x5, .slice A ms.length c5] _ HRG.out Tryz.underlying95 rfl (by kernel_rfl) ?_)
     | (refine sel none (.store 95 (.tmp 4) (.tmp 22)) ?_
        refine wpList_store_rowA rfl 95 (.tmp 4) (.tmp 22) rfl wo.heap.size #[.int .i64 x1, .int .i64 x2, .int .i64 x3, .int .i64 x4, .int .i64 x5, .slice A ms.length c5] rfl rfl 95 _ (blk_new _ _) (by kernel_rfl) rfl (by simp [Value.oneCell']) ?_
        intro W1 hgW hbW))
   obtain ⟨v, hv⟩ : ∃ v, v = W1.drew := ⟨_, rfl⟩
   have hv0 : v.heap[wo.heap.size]? = some (.cells #[.int .i64 x1, .int .i64 x2, .int .i64 x3, .int .i64 x4, .int .i64 x5, .slice A ms.length c5] 95 (0, 0)) := by rw [hv]; exact hbW
   have hgv0 : Chg Non wo W1 := ((Chg.refl Non wo).alloc _).then_new hgW (fun x e => by omega)
   have hgv : Chg Non wo v := by rw [hv]; exact hgv0.drew
   have hvlt := blk_lt hv0
   have hbx : v.cell? ⟨w.heap.size, 3, none⟩ = some (.slice (some ⟨g, 0, none⟩) s.queues.length d2) := blk_cell (blk_keep HBr.out hgv (fun e => e)) 3 rfl
   have hne : ¬ (⟨w.heap.size, 3, none⟩ : Addr).block = g := fun e => by simp only at e; omega
   have hne2 : ¬ (⟨wo.heap.size, 5, none⟩ : Addr).block = g := fun e => by simp only at e; omega
   have hpm : v.cell? ⟨wo.heap.size, 5, none⟩ = some (.slice A ms.length c5) := blk_cell hv0 5 rfl
   have hm5 : v.cell? ⟨g, k * 6 + 5, none⟩ = some (.slice A ms.length c5) := hgv.cell_some hm50 (fun e => e)
   have HGB := Lib.hid (blk_keep hgb hgv (fun e => e))
   have HRm := Lib.hid (hrm.non hgv (fun a vs h => msgV_non _ _ _ _ hgv h))
   have HGV := Lib.hid hgv
   have HV6 := Lib.hid hv0
   refine wp_region_held_drew (S := Chg (fun b => b = g) W1.drew) (by kernel_rfl) (Chg.refl _ _) (fun hHeld => ?_)
   clear hHeld
   rw [← hv]
   clear hv hgb hgv0 hgW hbW hrm hm50 hv0 hgv
   refine hp 0 23 (.pointer (some ⟨w.heap.size, 3, none⟩)) rfl (Chg.refl _ _) ?_
   refine hp 1 24 (.slice (some ⟨g, 0, none⟩) s.queues.length d2) rfl (Chg.refl _ _) ?_ (he := (fun W hW => by have hc := hW.cell_some hbx hne; go_simp))
   refine hp 2 25 (.int .i64 k) rfl (Chg.refl _ _) ?_
   refine hp 3 26 (.pointer (some ⟨wo.heap.size, 5, none⟩)) rfl (Chg.refl _ _) ?_
   refine hp 4 27 (.slice A ms.length c5) rfl (Chg.refl _ _) ?_ (he := (fun W hW => by have hc := hW.cell_some hpm hne2; go_simp))
   refine h_one 5 (by kernel_rfl) rfl (by kernel_rfl) ?_
   intro K hK
   go_simp
   refine (cloneBy (msgV J) J msgV.keepL msgV_one A ms c5 v (fun b e => by have := hJb b e; omega) HRm.out (by omega)).mono ?_
   rintro e u1 ⟨vm, rfl, hom, hgm⟩
   have HOM := Lib.hid hom
   have HU := Lib.hid hgm
   have HUg := Lib.hid (Chg.of_non hgm : Chg (fun b => b = g) v u1)
   have hm6 : u1.cell? ⟨g, k * 6 + 5, none⟩ = some (.slice A ms.length c5) := hgm.cell_some hm5 (fun e => e)
   have hf6 : u1.frozen? ⟨g, k * 6 + 5, none⟩ = false := by have h := blk_keep HGB.out hgm (fun e => e); exact blk_free h _
   obtain ⟨RM, dm, rfl, hdm, hdmm, _⟩ := hom.rd
   clear hom hgm
   refine hK.out _ _ HUg.out (fun _ => ?_)
   clear hK K
   try simp only [Act.put, sA, sB, sC]
   refine hp 6 29 (.pointer (some ⟨g, k * 6, none⟩)) rfl HUg.out ?_
   refine hp 7 30 (.pointer (some ⟨g, k * 6 + 5, none⟩)) rfl HUg.out ?_
   refine h_one 8 (by kernel_rfl) rfl (by kernel_rfl) ?_
   intro K hK
   go_simp
   refine hK.out _ _ (HUg.out.trans_same (chg_set u1 g (k * 6 + 5) (.slice RM ms.length dm))) (fun _ => ?_)
   clear hK K
   try simp only [Act.put, sA, sB, sC]
   refine wpAnyH_done (by kernel_rfl) ?_ _
   have hst := chg_set u1 g (k * 6 + 5) (.slice RM ms.length dm)
   have HU2 := Lib.hid (HGV.out.then_non HU.out)
   have hsu := HU2.out.size
   have hvu := HU.out.size
   obtain ⟨w3, hw3⟩ : ∃ x, x = u1.setCell ⟨g, k * 6 + 5, none⟩ (.slice RM ms.length dm) := ⟨_, rfl⟩
   rw [← hw3] at hst ⊢
   have HOF : Hid (OwnL (fluxR (quT J (fun b => v0.heap.size ≤ b ∧ b < wo.heap.size)) (fun vs => vs = [.int .i64 x1, .int .i64 x2, .int .i64 x3, .int .i64 x4, .int .i64 x5, .slice RM ms.length dm])) (w.heap.size + 2) 95 6 w3 (.slice (some ⟨g, 0, none⟩) s.queues.length d2) (((tg k s.queues).map fun x => (x, false)).set k ((⟨⟨x1, x2, x3, x4, x5⟩, ms⟩, false), true))) := Lib.hid (by
     rw [hw3] at hst ⊢
     refine OwnL.cell (R := fluxR (quT J (fun b => v0.heap.size ≤ b ∧ b < wo.heap.size)) (fun vs => vs = [.int .i64 x1, .int .i64 x2, .int .i64 x3, .int .i64 x4, .int .i64 x5, .slice RM ms.length dm])) (j := 5) (a := ((⟨⟨x1, x2, x3, x4, x5⟩, ms⟩, false), false)) (OwnL.non (flux_in _ (HO.out.mono (fun a vs h => h.bound.mono (fun b e => e)))) HU2.out ?_) (by rw [List.getElem?_map, tg_get, HA.out]; simp) (by omega) ?_ ?_
     · intro x vs h
       obtain ⟨x, t⟩ := x
       cases t with
       | true => exact h
       | false => exact quT.keep (show quT J _ wo x vs from h) HU2.out (fun _ _ e => e) (fun _ _ e => e)
     · intro x vs h
       obtain ⟨x, t⟩ := x
       cases t with
       | true => exact h
       | false => exact quT.keep (show quT J _ u1 x vs from h) hst (fun b e e2 => by have := hJb b e; omega) (fun b e e2 => by omega)
     · intro vs hvl h
       obtain ⟨m, rfl, _⟩ := (show quV J u1 ⟨⟨x1, x2, x3, x4, x5⟩, ms⟩ vs from h)
       rfl)
   have HM3 := Lib.hid (HOM.out.keep hst (fun q e e2 => by have := (HOM.out.ge e).1; omega) (fun a vs h => h.keep hst (fun b e e2 => by have := hJb b e; omega)))
   have HB3 := Lib.hid (blk_keep (blk_keep HBr.out HU2.out (fun e => e)) hst (fun e => hne e))
   have HB36 := Lib.hid (blk_keep (blk_keep HV6.out HU.out (fun e => e)) hst (fun e => hne2 e))
   have HR3 := Lib.hid ((HRm.out.non HU.out (fun a vs h => msgV_non _ _ _ _ HU.out h)).keep hst (fun b e e2 => by have := hJb b e; omega) (fun a vs _ h => h.keep hst (fun b e e2 => by have := hJb b e; omega)))
   have HG3 : Hid (Chg (fun b => b = g) wo w3) := Lib.hid ((HU2.out.of_non : Chg (fun b => b = g) wo u1).trans_same hst)
   have hpq3 : w3.cell? ⟨g, k * 6 + 5, none⟩ = some (.slice RM ms.length dm) := by
    rw [hw3]
    exact blk_cell (blk_set (k * 6 + 5) _ (blk_keep HGB.out HU.out (fun e => e))) (k * 6 + 5) (by rw [Array.getElem?_setIfInBounds_self_of_lt]; have := hm6; rw [cell_of_row _ _ _ _ _ _ (blk_keep HGB.out HU.out (fun e => e))] at this; exact (Array.getElem?_eq_some_iff.1 this).1)
   have hp3 := blk_cell HB36.out 5 (v := .slice A ms.length c5) rfl
   have hw3s : u1.heap.size ≤ w3.heap.size := hst.size
   have HP3 := Lib.hid hpq3
   clear hw3 hst HUg hm5 hm6 hf6 hbx hpm hpq3
   go_wp2_with fail
   go_loopw [34] (fun iv wr => ∃ j : Nat, j ≤ ms.length ∧ iv = .int .i64 j ∧ Hid (OwnL (msgT J (From w3.heap.size)) v.heap.size 50 1 wr (.slice RM ms.length dm) (tg j ms)) ∧ Hid (Chg (fun b => (Value.slice RM ms.length dm).ownBlock = some b) w3 wr)) (fun iv _ => ms.length - (intOf iv).toNat)
   case atStart => exact ⟨0, Nat.zero_le _, rfl, Lib.hid (tg_zero HM3.out (fun a vs h => h)), Lib.hid (Chg.refl _ _)⟩
   case round =>
    obtain ⟨j, hj, rfl, HOm, HGm⟩ := hrel
    have hgo : ∀ q, (Value.slice RM ms.length dm).ownBlock = some q → v.heap.size ≤ q ∧ q < w3.heap.size := fun q e => HM3.out.ge e
    have hs3 := HGm.out.size
    by_cases hlj : j < ms.length
    ·obtain ⟨gm, cap, cur, e1, hBm, hgbm, r1, r2, r3, hat⟩ := HOm.out.shape (by rw [tg_len]; omega)
     injection e1 with e1 e2 e3
     clear e2
     subst e1 e3
     have hgm := hgo gm rfl
     obtain ⟨l7, hl7⟩ : ∃ a, ms[j]? = some a := ⟨_, List.getElem?_eq_getElem hlj⟩
     have hltj : decide ((j : Int) < (ms.length : Int)) = true := by simpa using hlj
     obtain ⟨bm, om, vs7, rfl, hJm, hvl7, hrg7, h7, rfl, ⟨A7, c7, rfl, hc7, hcm7, hr7, _⟩, hlen7⟩ := (HR3.out.keep HGm.out (fun b e e2 => by have := hJb b e; have := (hgo b e2).1; omega) (fun a vs _ h => h.keep HGm.out (fun b e e2 => by have := hJb b e; have := (hgo b e2).1; omega))) j l7 hl7
     have hq7 : wr.cell? ⟨bm, om + j, none⟩ = some (.slice A7 l7.length c7) := by have := hrg7 0 _ rfl; simpa using this
     obtain ⟨vs8, hvl8, hrg8, hR8⟩ := hat j (l7, false) (by rw [tg_get, hl7]; simp)
     obtain ⟨h8, rfl, _⟩ := (show msgV J wr l7 vs8 from hR8)
     have hm7 : wr.cell? ⟨gm, j, none⟩ = some h8 := by have := hrg8 0 _ rfl; simpa using this
     have HTS := Lib.hid (tg_set hl7)
     have HL7 := Lib.hid hl7
     clear hat hR8 r1 r2 r3 hl7 hrg8 hrg7
     go_wp2_with fail
     obtain ⟨v', hv'⟩ : ∃ x, x = wr.drew := ⟨_, rfl⟩
     have hgv' : Chg Non wr v' := by rw [hv']; exact (Chg.refl _ _).drew
     have hbx : v'.cell? ⟨w.heap.size, 3, none⟩ = some (.slice (some ⟨g, 0, none⟩) s.queues.length d2) := blk_cell (blk_keep (blk_keep HB3.out HGm.out (fun e => by have := (hgo _ e).1; omega)) hgv' (fun e => e)) 3 rfl
     have hneb : ¬ (⟨w.heap.size, 3, none⟩ : Addr).block = gm := fun e => by simp only at e; omega
     have hneq : ¬ (⟨g, k * 6 + 5, none⟩ : Addr).block = gm := fun e => by simp only at e; omega
     have hpq : v'.cell? ⟨g, k * 6 + 5, none⟩ = some (.slice (some ⟨gm, 0, none⟩) ms.length dm) := hgv'.cell_some (HGm.out.cell_some HP3.out (fun e => by have := (hgo _ e).1; simp only at this; omega)) (fun e => e)
     have HGB7 := Lib.hid (blk_keep hgbm hgv' (fun e => e))
     have HR7 := Lib.hid (hr7.non hgv')
     have hm7 : v'.cell? ⟨gm, j, none⟩ = some h8 := hgv'.cell_some hm7 (fun e => e)
     have HGV7 := Lib.hid hgv'
     have hv's := hgv'.size
     refine wp_region_held_drew (S := Chg (fun b => b = gm) wr.drew) (by kernel_rfl) (Chg.refl _ _) (fun hHeld => ?_)
     clear hHeld
     rw [← hv']
     clear hv' hgbm hr7 hgv' hq7
     refine hp 0 39 (.pointer (some ⟨w.heap.size, 3, none⟩)) rfl (Chg.refl _ _) ?_
     refine hp 1 40 (.slice (some ⟨g, 0, none⟩) s.queues.length d2) rfl (Chg.refl _ _) ?_ (he := (fun W hW => by have hc := hW.cell_some hbx hneb; go_simp))
     refine hp 2 41 (.int .i64 k) rfl (Chg.refl _ _) ?_
     refine hp 3 42 (.pointer (some ⟨g, k * 6, none⟩)) rfl (Chg.refl _ _) ?_
     refine hp 4 43 (.pointer (some ⟨g, k * 6 + 5, none⟩)) rfl (Chg.refl _ _) ?_
     refine hp 5 44 (.slice (some ⟨gm, 0, none⟩) ms.length dm) rfl (Chg.refl _ _) ?_ (he := (fun W hW => by have hc := hW.cell_some hpq hneq; go_simp))
     refine hp 6 45 (.int .i64 j) rfl (Chg.refl _ _) ?_
     refine hp 7 46 (.slice A7 l7.length c7) rfl (Chg.refl _ _) ?_
     refine h_one 8 (by kernel_rfl) rfl (by kernel_rfl) ?_
     intro K hK
     go_simp
     refine (SlClone_ok A7 l7 c7 v' HR7.out (by omega)).mono ?_
     rintro e u2 ⟨A8, c8, rfl, q1, q2, q3, q4⟩
     have HQ8 := Lib.hid q3
     have HU8 := Lib.hid q4
     have HUg8 := Lib.hid (Chg.of_non q4 : Chg (fun b => b = gm) v' u2)
     have hm8 : u2.cell? ⟨gm, j, none⟩ = some h8 := q4.cell_some hm7 (fun e => e)
     have hf8 : u2.frozen? ⟨gm, j, none⟩ = false := by have h := blk_keep HGB7.out q4 (fun e => e); exact blk_free h _
     clear q3 q4
     refine hK.out _ _ HUg8.out (fun _ => ?_)
     clear hK K
     try simp only [Act.put, sA, sB, sC]
     refine hp 9 48 (.pointer (some ⟨gm, j, none⟩)) rfl HUg8.out ?_
     refine h_one 10 (by kernel_rfl) rfl (by kernel_rfl) ?_
     intro K hK
     go_simp
     refine hK.out _ _ (HUg8.out.trans_same (chg_set u2 gm j (.slice A8 l7.length c8))) (fun _ => ?_)
     clear hK K
     try simp only [Act.put, sA, sB, sC]
     refine wpAnyH_done (by kernel_rfl) ?_ _
     have hst := chg_set u2 gm j (.slice A8 l7.length c8)
     have HU9 := Lib.hid (HGV7.out.then_non HU8.out)
     have hsu := HU9.out.size
     have HOn : Hid (OwnL (msgT J (From w3.heap.size)) v.heap.size 50 1 (u2.setCell ⟨gm, j, none⟩ (.slice A8 l7.length c8)) (.slice (some ⟨gm, 0, none⟩) ms.length dm) (tg (j + 1) ms)) := Lib.hid (by
       rw [← HTS.out]
       have ej : j * 1 + 0 = j := by omega
       have := OwnL.cell (R' := msgT J (From w3.heap.size)) (i := j) (j := 0) (a := (l7, false)) (a' := (l7, true)) (u := .slice A8 l7.length c8) (HOm.out.non HU9.out (fun a vs h => h.keep HU9.out (fun _ _ e => e) (fun _ _ e => e))) (by rw [tg_get, HL7.out]; simp) (by omega) (by
         rw [ej]
         exact fun a vs h => h.keep hst (fun b e e2 => by have := hJb b e; omega) (fun b e e2 => by have : w3.heap.size ≤ b := e; omega)) (by
         rw [ej]
         intro vs hvl h
         obtain ⟨m, rfl, _⟩ := (show msgV J u2 l7 vs from h)
         exact ⟨_, rfl, (own_bytes ((HQ8.out.mono (by omega)).keep hst (fun b o e1 e2 e3 e4 => by omega)) q1 q2 : BytesV (From w3.heap.size) _ _ _), hlen7⟩)
       rw [ej] at this
       exact this)
     have HGn : Hid (Chg (fun b => (Value.slice (some ⟨gm, 0, none⟩) ms.length dm).ownBlock = some b) w3 (u2.setCell ⟨gm, j, none⟩ (.slice A8 l7.length c8))) := Lib.hid ((HGm.out.then_non HU9.out).trans_same (hst.mono (fun x e => by subst e; rfl)))
     clear HUg8 hst hm7 hm8 hf8 hbx hpq
     go_wp2_with fail
     exact ⟨⟨j + 1, by omega, by simp, HOn, HGn⟩, by simp [intOf]; omega⟩
    ·obtain rfl : j = ms.length := by omega
     have hltj : decide ((ms.length : Int) < (ms.length : Int)) = false := by simp
     have HOM9 := Lib.hid (tg_all (R' := msgV (From w3.heap.size)) HOm.out (fun a vs h => h))
     have HOE : Hid (OwnL (quT J (From v0.heap.size)) (w.heap.size + 2) 95 6 wr (.slice (some ⟨g, 0, none⟩) s.queues.length d2) (tg (k + 1) s.queues)) := Lib.hid (by
       refine flux_out HA.out (HOF.out.keep HGm.out (fun q e e2 => by
         have h1 := (hgo _ e2).1
         have : g = q := by simpa [Value.ownBlock] using e
         omega) ?_) (fun x vs h => h.mono (fun b e => e.1)) ?_
       · intro x vs h
         obtain ⟨x, t⟩ := x
         cases t with
         | true => exact h
         | false => exact quT.keep (show quT J _ w3 x vs from h) HGm.out (fun b e e2 => by have := hJb b e; have := (hgo b e2).1; omega) (fun b e e2 => by have := (hgo b e2).1; have := e.2; omega)
       · rintro vs rfl
         obtain ⟨A9, c9, e9, h91, h92, h93⟩ := HOM9.out.rd
         exact ⟨_, rfl, ⟨A9, c9, e9, h91, h92, h93.mono (fun b e => by have h1 := (hgo b e).1; exact Nat.le_trans (by omega) h1) (fun a vs _ h => h.mono (fun b e => by have : w3.heap.size ≤ b := e; exact Nat.le_trans (by omega) this))⟩, HBD.out, hl5⟩)
     have HGE : Hid (Chg (fun b => (Value.slice (some ⟨g, 0, none⟩) s.queues.length d2).ownBlock = some b) v0 wr) := Lib.hid ((HGr.out.trans_same (HG3.out.mono (fun x e => by subst e; rfl))).then_new HGm.out (fun x e => by have := (hgo x e).1; omega))
     go_wp2_with fail
     exact ⟨⟨k + 1, by omega, by simp, HOE, HGE⟩, by simp [intOf]; omega⟩
  ·obtain rfl : k = s.queues.length := by omega
   have hltd : decide ((s.queues.length : Int) < (s.queues.length : Int)) = false := by simp
   have HBe := Lib.hid (blk_keep HB1d.out HGr.out (fun e => by have := (HQ0.out.ge e).1; omega))
   have hgo2 : ∀ g, (Value.slice R2 s.queues.length d2).ownBlock = some g → w.heap.size + 2 ≤ g ∧ g < v0.heap.size := fun g e => HQ0.out.ge e
   have y0 := blk_cell HBr.out 0 (v := .int .i64 f) rfl
   have y1 := blk_cell HBr.out 1 (v := .int .i64 t) rfl
   have y2 := blk_cell HBr.out 2 (v := .int .i64 ver) rfl
   have y3 := blk_cell HBr.out 3 (v := .slice R2 s.queues.length d2) rfl
   have y4 := blk_cell HBr.out 4 (v := .slice A4 inp.length c4) rfl
   go_wp2_with (refine sel none (.store 313 (.tmp 2) (.tmp 51)) ?_
                refine wpList_store_rowA rfl 313 (.tmp 2) (.tmp 51) rfl (w.heap.size + 1) #[.int .i64 f, .int .i64 t, .int .i64 ver, .slice R2 s.queues.length d2, .slice A4 inp.length c4] rfl rfl 313 _ HBe.out (by kernel_rfl) rfl (by simp [Value.oneCell']) ?_
                intro W hgW hbW)
   have hA : Chg (fun b => b = w.heap.size + 1 ∨ (Value.slice R2 s.queues.length d2).ownBlock = some b) v0 W := (HGr.out.mono (fun x e => .inr e)).trans_same (hgW.mono (fun x e => .inl e))
   refine bodyPost_ret (res_c Tryz.results239 _ _ (w.heap.size + 1) 313 _ (0, 0) _ rfl hbW Tryz.underlying313 rfl (by kernel_rfl)) (by kernel_rfl) ⟨_, _, rfl, ⟨?_, ?_⟩, HG4.out.then_new hA (fun x e => ?_)⟩
   ·refine OwnL.mono (R := quV (From v0.heap.size)) ((OwnL.keep (tg_all HO.out (fun a vs h => h)) hgW (fun g e e2 => by have := (hgo2 g e).1; omega) (fun a vs h => h.keep hgW (fun b e e2 => by have : v0.heap.size ≤ b := e; omega))).base (by omega)) (fun a vs h => h.mono (fun b e => ⟨?_, fun e2 => ?_⟩))
    ·have : v0.heap.size ≤ b := e
     omega
    ·have : v0.heap.size ≤ b := e
     have := (hgo2 b e2).2
     omega
   ·have hOW : Own (w.heap.size + 2) W A4 inp := HO1d.out.keep hA (fun b o e1 e2 e3 e4 => by
      have := HOi.out b o e1 e3
      rcases e4 with e4 | e4
      · omega
      · have := hR2 b e4; omega)
    refine ⟨A4, _, rfl, q1, q2, hOW.rd, fun b o e1 e3 => ⟨?_, fun e4 => ?_⟩⟩
    ·subst e1
     have := hOW.ge e3
     omega
    ·have := HOi.out b o e1 e3
     have := hR2 b e4
     omega
   ·rcases e with e | e
    ·omega
    ·have := (hgo2 x e).1; omega
end
end Go.Proofs.YtmnaleaghfbclaaGreatDoor
