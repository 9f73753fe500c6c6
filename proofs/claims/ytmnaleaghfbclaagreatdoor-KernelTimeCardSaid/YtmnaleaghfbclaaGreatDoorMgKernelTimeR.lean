/- KernelTime, part 18 of 28: contracts of the functions that it reaches, and the laws that they need, merged and shortened (from my texts XCpd). -/
import Derived.Test.YtmnaleaghfbclaaGreatDoorMgKernelTimeA
import Derived.Test.YtmnaleaghfbclaaGreatDoorMgKernelTimeI
import Derived.Test.YtmnaleaghfbclaaGreatDoorMgKernelTimeJ
import Derived.Test.YtmnaleaghfbclaaGreatDoorMgKernelTimeO
import Derived.Test.YtmnaleaghfbclaaGreatDoorMgKernelTimeQ
namespace Go.Proofs.YtmnaleaghfbclaaGreatDoor
set_option linter.unusedVariables false
set_option linter.unusedSimpArgs false
set_option maxHeartbeats 8000000
section
open Go.RowKit
theorem h_three {P : Program} {md : Region.Mode} {ops : Array Oper} {Q : Exit → Act → World → Prop} {S : World → Prop} {fuel : Nat} {listed : Array Bool} {a : Act} {w : World} (i j k : Nat) {oi oj ok : Oper} (hr : Region.ready md ops listed = [i, j, k]) (hi : ops[i]? = some oi) (hj : ops[j]? = some oj) (hk : ops[k]? = some ok) (hwi : Region.wanted oi (yielded ops a.tmps) = true) (hwj : Region.wanted oj (yielded ops a.tmps) = true) (hwk : Region.wanted ok (yielded ops a.tmps) = true)
  (h1 : ∀ K : Act → World → Prop, Shut (∀ a w, S w → (S w → wpAnyH P md ops Q S fuel (listed.setIfInBounds i true) a w) → K a w) → Oper.wp P oi a w K Q)
  (h2 : ∀ K : Act → World → Prop, Shut (∀ a w, S w → (S w → wpAnyH P md ops Q S fuel (listed.setIfInBounds j true) a w) → K a w) → Oper.wp P oj a w K Q)
  (h3 : ∀ K : Act → World → Prop, Shut (∀ a w, S w → (S w → wpAnyH P md ops Q S fuel (listed.setIfInBounds k true) a w) → K a w) → Oper.wp P ok a w K Q) : wpAnyH P md ops Q S (fuel + 1) listed a w :=
 wpAnyH_ready hr (by simp) (AllReadyH.cons hi (fun K hK => by rw [if_pos hwi]; exact h1 K hK) (AllReadyH.cons hj (fun K hK => by rw [if_pos hwj]; exact h2 K hK) (AllReadyH.cons hk (fun K hK => by rw [if_pos hwk]; exact h3 K hK) AllReadyH.nil)))
theorem winV_oneC {w : World} (a : Win) (vs : List Value) (h : winV w a vs) : ∀ u ∈ vs, u.oneCell' = true := by
 obtain ⟨rfl, _⟩ := h
 intro u hu
 simp only [Win.L, List.mem_cons, List.not_mem_nil, or_false] at hu
 rcases hu with rfl | rfl <;> rfl
theorem chV_oneC {w : World} (a : Ch) (vs : List Value) (h : chV w a vs) : ∀ u ∈ vs, u.oneCell' = true := by
 obtain ⟨rfl, _⟩ := h
 intro u hu
 simp only [Ch.L, List.mem_cons, List.not_mem_nil, or_false] at hu
 rcases hu with rfl | rfl | rfl | rfl | rfl <;> rfl
def byV : World → UInt8 → List Value → Prop := fun _ a vs => vs = [bv a]
theorem info_uV : (Tryz.prog.info? 5).map (fun i => (i.zero, i.size, i.bytes)) = some (some (.int .u8 0), 1, 1) := by kernel_rfl
theorem rdl_of {w : World} {A : Option Addr} {l : List UInt8} (h : Rd w A l) : RdL byV (fun _ => True) 1 w A l := fun i a ha => by
 obtain ⟨b, o, rfl, hc⟩ := h i a ha
 refine ⟨b, o, [bv a], rfl, trivial, rfl, fun j v hv => ?_, rfl⟩
 have hj : j = 0 := by have := (List.getElem?_eq_some_iff.1 hv).1; simpa using this
 subst hj
 simp only [List.getElem?_cons_zero, Option.some.injEq] at hv
 subst hv
 rw [Nat.mul_one, Nat.add_zero]
 exact hc
theorem rd_of {w : World} {A : Option Addr} {l : List UInt8} {I : Nat → Prop} (h : RdL byV I 1 w A l) : Rd w A l := fun i a ha => by
 obtain ⟨b, o, vs, rfl, _, _, hc, rfl⟩ := h i a ha
 refine ⟨b, o, rfl, ?_⟩
 have := hc 0 (bv a) rfl
 rw [Nat.mul_one, Nat.add_zero] at this
 exact this
structure CpdO (w w' : World) (c : Cfg) (A4 A5 A6 : Option Addr) (c4 c5 c6 M : Nat) : Prop where
 ws : RdL winV (fun b => w.heap.size ≤ b ∧ b < M) 2 w' A4 c.ws
 cs : RdL chV (fun b => w.heap.size ≤ b ∧ b < M) 5 w' A6 c.cs
 ps : OwnL (pnV (Exc M (.slice A5 c.ps.length c5))) M 83 5 w' (.slice A5 c.ps.length c5) c.ps
 l1 : c.ws.length ≤ c4 ∧ c4 ≤ maxLen
 l2 : c.ps.length ≤ c5 ∧ c5 ≤ maxLen
 l3 : c.cs.length ≤ c6 ∧ c6 ≤ maxLen
 m : w.heap.size ≤ M
structure CpdR (V W : World) (c : Cfg) (y : Nat × Nat × Nat × Option Addr × Option Addr × Nat × Nat) : Prop where
 chg : Chg Non V W
 ge : V.heap.size ≤ y.1
 out : W.heap[y.1]? = some (.cells #[.slice y.2.2.2.1 c.ws.length y.2.2.2.2.2.1, .slice none 0 0, .slice y.2.2.2.2.1 c.cs.length y.2.2.2.2.2.2] 26 (0, 0))
 ws : OwnL winV V.heap.size 49 2 W (.slice y.2.2.2.1 c.ws.length y.2.2.2.2.2.1) c.ws
 cs : OwnL chV V.heap.size 93 5 W (.slice y.2.2.2.2.1 c.cs.length y.2.2.2.2.2.2) c.cs
set_option maxRecDepth 100000 in
theorem cpd_ok (I : Nat → Prop) (w : World) (c : Cfg) (A1 A2 A3 : Option Addr) (c1 c2 c3 : Nat) (h : CfgR I w c A1 A2 A3 c1 c2 c3) (hlw : c.ws.length ≤ 1000000) (hlp : c.ps.length ≤ 1000) (hlc : c.cs.length ≤ 1000000) (hil : ∀ a ∈ c.ps, a.img.length ≤ 512) :
  Calls Tryz.prog 12 #[.agg #[.slice A1 c.ws.length c1, .slice A2 c.ps.length c2, .slice A3 c.cs.length c3]] w fun e w' => ∃ A4 A5 A6 c4 c5 c6 M, e = .returned (.agg #[.slice A4 c.ws.length c4, .slice A5 c.ps.length c5, .slice A6 c.cs.length c6]) ∧ CpdO w w' c A4 A5 A6 c4 c5 c6 M ∧ Chg Non w w' := by
 have HC := Lib.hid (show CfgR (fun _ => True) w c A1 A2 A3 c1 c2 c3 from ⟨h.ws.mono (fun _ _ => trivial) (fun _ _ _ h => h), h.ps.mono (fun _ _ => trivial) (fun _ _ _ h => h.mono (fun _ _ => trivial)), h.cs.mono (fun _ _ => trivial) (fun _ _ _ h => h), h.l1, h.l2, h.l3⟩)
 clear h
 go_enter Tryz.func12, Tryz.ntmps12
 go_wp2_with fail
 have hb1 := al_2_0 w (.cells #[.slice A1 c.ws.length c1, .slice A2 c.ps.length c2, .slice A3 c.cs.length c3] 26) (.cells #[.slice none 0 0, .slice none 0 0, .slice none 0 0] 26)
 have hb2 := al_2_1 w (.cells #[.slice A1 c.ws.length c1, .slice A2 c.ps.length c2, .slice A3 c.cs.length c3] 26) (.cells #[.slice none 0 0, .slice none 0 0, .slice none 0 0] 26)
 have hgu : Chg Non w ((w.alloc (.cells #[.slice A1 c.ws.length c1, .slice A2 c.ps.length c2, .slice A3 c.cs.length c3] 26)).alloc (.cells #[.slice none 0 0, .slice none 0 0, .slice none 0 0] 26)) := ((Chg.refl Non w).alloc _).alloc _
 have hsz : ((w.alloc (.cells #[.slice A1 c.ws.length c1, .slice A2 c.ps.length c2, .slice A3 c.cs.length c3] 26)).alloc (.cells #[.slice none 0 0, .slice none 0 0, .slice none 0 0] 26)).heap.size = w.heap.size + 2 := by simp
 obtain ⟨U, hU⟩ : ∃ U, (w.alloc (.cells #[.slice A1 c.ws.length c1, .slice A2 c.ps.length c2, .slice A3 c.cs.length c3] 26)).alloc (.cells #[.slice none 0 0, .slice none 0 0, .slice none 0 0] 26) = U := ⟨_, rfl⟩
 rw [hU] at hb1 hb2 hgu hsz ⊢
 clear hU
 obtain ⟨g, hgg⟩ : ∃ g, w.heap.size = g := ⟨_, rfl⟩
 rw [hgg] at hb1 hb2 hsz ⊢
 have HVg : Hid (Chg Non w U.drew) := Lib.hid hgu.drew
 have HB1 := Lib.hid (show U.drew.heap[g]? = _ from hb1)
 have HB2 := Lib.hid (show U.drew.heap[g + 1]? = _ from hb2)
 have q0 := blk_cell HB1.out 0 (v := .slice A1 c.ws.length c1) rfl
 have q2 := blk_cell HB1.out 2 (v := .slice A3 c.cs.length c3) rfl
 clear hb1 hb2 hgu
 apply wp_cutB (α := Nat × Nat × Nat × Option Addr × Option Addr × Nat × Nat) (f := fun y x => ((((((((((x.put (some 6) (.slice (some ⟨y.2.1, 0, none⟩) 0 0)).put (some 7) (.pointer (some ⟨g, 0, none⟩))).put (some 8) (.slice A1 c.ws.length c1)).put (some 9) (.slice y.2.2.2.1 c.ws.length y.2.2.2.2.2.1)).put (some 10) (.slice (some ⟨y.2.2.1, 0, none⟩) 0 0)).put (some 11) (.pointer (some ⟨g, 2, none⟩))).put (some 12) (.slice A3 c.cs.length c3)).put (some 13) (.slice y.2.2.2.2.1 c.cs.length y.2.2.2.2.2.2)).put (some 14) (.agg #[.slice y.2.2.2.1 c.ws.length y.2.2.2.2.2.1, .slice none 0 0, .slice y.2.2.2.2.1 c.cs.length y.2.2.2.2.2.2])).put (some 3) (.pointer (some ⟨y.1, 0, none⟩)))) (R := fun y v => CpdR U.drew v c y)
 ·refine wp_region_held_drew (S := fun W => Chg Non U.drew W) (by kernel_rfl) (Chg.refl _ _) (fun hHeld => ?_)
  clear hHeld
  obtain ⟨V, hV⟩ : ∃ V, U.drew = V := ⟨_, rfl⟩
  rw [hV] at HVg HB1 HB2 q0 q2 ⊢
  clear hV hsz hgg
  have HV : Hid (Chg Non V V) := Lib.hid (Chg.refl _ _)
  refine hp 1 7 (.pointer (some ⟨g, 0, none⟩)) rfl HV.out ?_ (he := (fun W hW => by go_simp)) (hQ := fun _ _ _ h => absurd h.1 (by simp))
  refine hp 2 8 (.slice A1 c.ws.length c1) rfl HV.out ?_ (he := (fun W hW => by have hc := hW.cell_some q0 (fun e => e); go_simp)) (hQ := fun _ _ _ h => absurd h.1 (by simp))
  refine hp 5 11 (.pointer (some ⟨g, 2, none⟩)) rfl HV.out ?_ (he := (fun W hW => by go_simp)) (hQ := fun _ _ _ h => absurd h.1 (by simp))
  refine hp 6 12 (.slice A3 c.cs.length c3) rfl HV.out ?_ (he := (fun W hW => by have hc := hW.cell_some q2 (fun e => e); go_simp)) (hQ := fun _ _ _ h => absurd h.1 (by simp))
  refine h_three 0 4 9 (by kernel_rfl) rfl rfl rfl (by kernel_rfl) (by kernel_rfl) (by kernel_rfl) ?_ ?_ ?_
  ·intro K hK
   go_simp
   refine hK.out _ _ (HV.out.alloc _) (fun _ => ?_)
   clear hK K
   try simp only [Act.put, sA, sB, sC]
   have hnb := heap_alloc_new V (.cells #[] 49)
   have hgN : Chg Non V (V.alloc (.cells #[] 49)) := (Chg.refl Non V).alloc _
   obtain ⟨X1, hX1⟩ : ∃ X, V.alloc (.cells #[] 49) = X := ⟨_, rfl⟩
   obtain ⟨g6, hg6⟩ : ∃ b, V.heap.size = b := ⟨_, rfl⟩
   rw [hX1] at hnb hgN ⊢
   rw [hg6] at hnb ⊢
   have hVs := HV.out.size
   have hge6 : V.heap.size ≤ g6 := by omega
   have HB6 := Lib.hid hnb
   have HV := Lib.hid (HV.out.then_non hgN)
   clear hnb hgN hX1 hg6 hVs
   refine h_three 3 4 9 (by kernel_rfl) rfl rfl rfl (by kernel_rfl) (by kernel_rfl) (by kernel_rfl) ?_ ?_ ?_
   ·intro K hK
    refine wp_cp winV (.tmp 6) (.tmp 8) 22 rfl 49 (.agg #[.int .i64 0, .int .i64 0]) 2 16 Tryz.underlying22 info_clWin rfl (by omega) V.heap.size g6 HB6.out hge6 (fun _ => True) rfl A1 c.ws c1 rfl (HC.out.ws.non (HVg.out.then_non HV.out) (fun _ _ h => h)) (fun _ _ h => winV_oneC _ _ h) hlw (by omega) (fun _ _ _ _ h => h) ?_
    intro v2 X2 ho hg hv
    obtain ⟨A9, c9, rfl, h91, h92, _⟩ := ho.rd
    refine hK.out _ _ (HV.out.then_new hg (fun x e => by have e : x = g6 := e; omega)) (fun _ => ?_)
    clear hK K
    try simp only [Act.put, sA, sB, sC]
    have HO9 := Lib.hid ho
    have HV := Lib.hid (HV.out.then_new hg (fun x e => by have e : x = g6 := e; omega))
    clear ho hg hv
    refine h_two 4 9 (by kernel_rfl) rfl rfl (by kernel_rfl) (by kernel_rfl) ?_ ?_
    ·intro K hK
     go_simp
     refine hK.out _ _ (HV.out.alloc _) (fun _ => ?_)
     clear hK K
     try simp only [Act.put, sA, sB, sC]
     have hnb := heap_alloc_new X2 (.cells #[] 93)
     have hgN : Chg Non X2 (X2.alloc (.cells #[] 93)) := (Chg.refl Non X2).alloc _
     obtain ⟨X3, hX3⟩ : ∃ X, X2.alloc (.cells #[] 93) = X := ⟨_, rfl⟩
     obtain ⟨g10, hg10⟩ : ∃ b, X2.heap.size = b := ⟨_, rfl⟩
     rw [hX3] at hnb hgN ⊢
     rw [hg10] at hnb ⊢
     have hVs := HV.out.size
     have hge10 : V.heap.size ≤ g10 := by omega
     have HW9_10 : Hid (∀ x, (Value.slice A9 c.ws.length c9).ownBlock = some x → x ≠ g10) := Lib.hid (fun x e => by have := (HO9.out.ge e).2; omega)
     have HO9 := Lib.hid (HO9.out.non hgN (fun _ _ h => h))
     have HB10 := Lib.hid hnb
     have HV := Lib.hid (HV.out.then_non hgN)
     clear hnb hgN hX3 hg10 hVs
     refine h_two 7 9 (by kernel_rfl) rfl rfl (by kernel_rfl) (by kernel_rfl) ?_ ?_
     ·intro K hK
      refine wp_cp chV (.tmp 10) (.tmp 12) 24 rfl 93 (.agg #[.int .i64 0, .int .i64 0, .int .i64 0, .int .i64 0, .int .i64 0]) 5 40 Tryz.underlying24 info_clCh rfl (by omega) V.heap.size g10 HB10.out hge10 (fun _ => True) rfl A3 c.cs c3 rfl (HC.out.cs.non (HVg.out.then_non HV.out) (fun _ _ h => h)) (fun _ _ h => chV_oneC _ _ h) hlc (by omega) (fun _ _ _ _ h => h) ?_
      intro v2 X4 ho hg hv
      obtain ⟨A13, c13, rfl, h131, h132, _⟩ := ho.rd
      refine hK.out _ _ (HV.out.then_new hg (fun x e => by have e : x = g10 := e; omega)) (fun _ => ?_)
      clear hK K
      try simp only [Act.put, sA, sB, sC]
      have HO9 := Lib.hid (HO9.out.keep hg (fun x e e2 => HW9_10.out x e e2) (fun _ _ h => h))
      have HO13 := Lib.hid ho
      have HV := Lib.hid (HV.out.then_new hg (fun x e => by have e : x = g10 := e; omega))
      clear ho hg hv
      refine hp 8 14 (.agg #[.slice A9 c.ws.length c9, .slice none 0 0, .slice A13 c.cs.length c13]) rfl HV.out ?_ (he := (fun W hW => by kernel_rfl)) (hQ := fun _ _ _ h => absurd h.1 (by simp))
      refine h_one 9 (by kernel_rfl) rfl (by kernel_rfl) ?_
      intro K hK
      go_simp
      refine hK.out _ _ (HV.out.alloc _) (fun _ => ?_)
      clear hK K
      try simp only [Act.put, sA, sB, sC]
      have hnb := heap_alloc_new X4 (.cells #[.slice none 0 0, .slice none 0 0, .slice none 0 0] 26)
      have hgN : Chg Non X4 (X4.alloc (.cells #[.slice none 0 0, .slice none 0 0, .slice none 0 0] 26)) := (Chg.refl Non X4).alloc _
      obtain ⟨X5, hX5⟩ : ∃ X, X4.alloc (.cells #[.slice none 0 0, .slice none 0 0, .slice none 0 0] 26) = X := ⟨_, rfl⟩
      obtain ⟨g3, hg3⟩ : ∃ b, X4.heap.size = b := ⟨_, rfl⟩
      rw [hX5] at hnb hgN ⊢
      rw [hg3] at hnb ⊢
      have hVs := HV.out.size
      have hge3 : V.heap.size ≤ g3 := by omega
      have HW9_3 : Hid (∀ x, (Value.slice A9 c.ws.length c9).ownBlock = some x → x ≠ g3) := Lib.hid (fun x e => by have := (HO9.out.ge e).2; omega)
      have HO9 := Lib.hid (HO9.out.non hgN (fun _ _ h => h))
      have HW13_3 : Hid (∀ x, (Value.slice A13 c.cs.length c13).ownBlock = some x → x ≠ g3) := Lib.hid (fun x e => by have := (HO13.out.ge e).2; omega)
      have HO13 := Lib.hid (HO13.out.non hgN (fun _ _ h => h))
      have HB3 := Lib.hid hnb
      have HV := Lib.hid (HV.out.then_non hgN)
      clear hnb hgN hX5 hg3 hVs
      refine h_store 10 26 (.tmp 3) (.tmp 14) g3 #[.slice A9 c.ws.length c9, .slice none 0 0, .slice A13 c.cs.length c13] (by kernel_rfl) rfl (by kernel_rfl) rfl rfl rfl rfl 26 ⟨#[.slice none 0 0, .slice none 0 0, .slice none 0 0], HB3.out, rfl⟩ (by kernel_rfl) (by simp [Value.oneCell']) (fun W hg hb => HV.out.then_new hg (fun x e => by have e : x = g3 := e; omega)) ?_
      intro W hgW hbW
      have HB3 := Lib.hid hbW
      have HV := Lib.hid (HV.out.then_new hgW (fun x e => by have e : x = g3 := e; omega))
      have HO9 := Lib.hid (HO9.out.keep hgW (fun x e e2 => HW9_3.out x e e2) (fun _ _ h => h))
      have HO13 := Lib.hid (HO13.out.keep hgW (fun x e e2 => HW13_3.out x e e2) (fun _ _ h => h))
      clear hgW hbW
      refine wpAnyH_done (by kernel_rfl) ?_ _
      exact ⟨rfl, ⟨g3, g6, g10, A9, A13, c9, c13⟩, by kernel_rfl, ⟨HV.out, hge3, HB3.out, HO9.out, HO13.out⟩⟩
     ·intro K hK
      go_simp
      refine hK.out _ _ (HV.out.alloc _) (fun _ => ?_)
      clear hK K
      try simp only [Act.put, sA, sB, sC]
      have hnb := heap_alloc_new X3 (.cells #[.slice none 0 0, .slice none 0 0, .slice none 0 0] 26)
      have hgN : Chg Non X3 (X3.alloc (.cells #[.slice none 0 0, .slice none 0 0, .slice none 0 0] 26)) := (Chg.refl Non X3).alloc _
      obtain ⟨X4, hX4⟩ : ∃ X, X3.alloc (.cells #[.slice none 0 0, .slice none 0 0, .slice none 0 0] 26) = X := ⟨_, rfl⟩
      obtain ⟨g3, hg3⟩ : ∃ b, X3.heap.size = b := ⟨_, rfl⟩
      rw [hX4] at hnb hgN ⊢
      rw [hg3] at hnb ⊢
      have hVs := HV.out.size
      have hge3 : V.heap.size ≤ g3 := by omega
      have d10_3 : g10 ≠ g3 := by have := blk_lt HB10.out; omega
      have HB10 := Lib.hid (blk_keep HB10.out hgN (fun e => e))
      have HW9_3 : Hid (∀ x, (Value.slice A9 c.ws.length c9).ownBlock = some x → x ≠ g3) := Lib.hid (fun x e => by have := (HO9.out.ge e).2; omega)
      have HO9 := Lib.hid (HO9.out.non hgN (fun _ _ h => h))
      have HB3 := Lib.hid hnb
      have HV := Lib.hid (HV.out.then_non hgN)
      clear hnb hgN hX4 hg3 hVs
      refine h_one 7 (by kernel_rfl) rfl (by kernel_rfl) ?_
      intro K hK
      refine wp_cp chV (.tmp 10) (.tmp 12) 24 rfl 93 (.agg #[.int .i64 0, .int .i64 0, .int .i64 0, .int .i64 0, .int .i64 0]) 5 40 Tryz.underlying24 info_clCh rfl (by omega) V.heap.size g10 HB10.out hge10 (fun _ => True) rfl A3 c.cs c3 rfl (HC.out.cs.non (HVg.out.then_non HV.out) (fun _ _ h => h)) (fun _ _ h => chV_oneC _ _ h) hlc (by omega) (fun _ _ _ _ h => h) ?_
      intro v2 X5 ho hg hv
      obtain ⟨A13, c13, rfl, h131, h132, _⟩ := ho.rd
      refine hK.out _ _ (HV.out.then_new hg (fun x e => by have e : x = g10 := e; omega)) (fun _ => ?_)
      clear hK K
      try simp only [Act.put, sA, sB, sC]
      have HW13_3 : Hid (∀ x, (Value.slice A13 c.cs.length c13).ownBlock = some x → x ≠ g3) := Lib.hid (fun x e => by have := blk_lt HB3.out; have := d10_3.symm; rcases hv x e with e | e <;> omega)
      have HB3 := Lib.hid (blk_keep HB3.out hg (fun e => d10_3.symm e))
      have HO9 := Lib.hid (HO9.out.keep hg (fun x e e2 => HW9_10.out x e e2) (fun _ _ h => h))
      have HO13 := Lib.hid ho
      have HV := Lib.hid (HV.out.then_new hg (fun x e => by have e : x = g10 := e; omega))
      clear ho hg hv
      refine hp 8 14 (.agg #[.slice A9 c.ws.length c9, .slice none 0 0, .slice A13 c.cs.length c13]) rfl HV.out ?_ (he := (fun W hW => by kernel_rfl)) (hQ := fun _ _ _ h => absurd h.1 (by simp))
      refine h_store 10 26 (.tmp 3) (.tmp 14) g3 #[.slice A9 c.ws.length c9, .slice none 0 0, .slice A13 c.cs.length c13] (by kernel_rfl) rfl (by kernel_rfl) rfl rfl rfl rfl 26 ⟨#[.slice none 0 0, .slice none 0 0, .slice none 0 0], HB3.out, rfl⟩ (by kernel_rfl) (by simp [Value.oneCell']) (fun W hg hb => HV.out.then_new hg (fun x e => by have e : x = g3 := e; omega)) ?_
      intro W hgW hbW
      have HB3 := Lib.hid hbW
      have HV := Lib.hid (HV.out.then_new hgW (fun x e => by have e : x = g3 := e; omega))
      have HO9 := Lib.hid (HO9.out.keep hgW (fun x e e2 => HW9_3.out x e e2) (fun _ _ h => h))
      have HO13 := Lib.hid (HO13.out.keep hgW (fun x e e2 => HW13_3.out x e e2) (fun _ _ h => h))
      clear hgW hbW
      refine wpAnyH_done (by kernel_rfl) ?_ _
      exact ⟨rfl, ⟨g3, g6, g10, A9, A13, c9, c13⟩, by kernel_rfl, ⟨HV.out, hge3, HB3.out, HO9.out, HO13.out⟩⟩
    ·intro K hK
     go_simp
     refine hK.out _ _ (HV.out.alloc _) (fun _ => ?_)
     clear hK K
     try simp only [Act.put, sA, sB, sC]
     have hnb := heap_alloc_new X2 (.cells #[.slice none 0 0, .slice none 0 0, .slice none 0 0] 26)
     have hgN : Chg Non X2 (X2.alloc (.cells #[.slice none 0 0, .slice none 0 0, .slice none 0 0] 26)) := (Chg.refl Non X2).alloc _
     obtain ⟨X3, hX3⟩ : ∃ X, X2.alloc (.cells #[.slice none 0 0, .slice none 0 0, .slice none 0 0] 26) = X := ⟨_, rfl⟩
     obtain ⟨g3, hg3⟩ : ∃ b, X2.heap.size = b := ⟨_, rfl⟩
     rw [hX3] at hnb hgN ⊢
     rw [hg3] at hnb ⊢
     have hVs := HV.out.size
     have hge3 : V.heap.size ≤ g3 := by omega
     have HW9_3 : Hid (∀ x, (Value.slice A9 c.ws.length c9).ownBlock = some x → x ≠ g3) := Lib.hid (fun x e => by have := (HO9.out.ge e).2; omega)
     have HO9 := Lib.hid (HO9.out.non hgN (fun _ _ h => h))
     have HB3 := Lib.hid hnb
     have HV := Lib.hid (HV.out.then_non hgN)
     clear hnb hgN hX3 hg3 hVs
     refine h_one 4 (by kernel_rfl) rfl (by kernel_rfl) ?_
     intro K hK
     go_simp
     refine hK.out _ _ (HV.out.alloc _) (fun _ => ?_)
     clear hK K
     try simp only [Act.put, sA, sB, sC]
     have hnb := heap_alloc_new X3 (.cells #[] 93)
     have hgN : Chg Non X3 (X3.alloc (.cells #[] 93)) := (Chg.refl Non X3).alloc _
     obtain ⟨X4, hX4⟩ : ∃ X, X3.alloc (.cells #[] 93) = X := ⟨_, rfl⟩
     obtain ⟨g10, hg10⟩ : ∃ b, X3.heap.size = b := ⟨_, rfl⟩
     rw [hX4] at hnb hgN ⊢
     rw [hg10] at hnb ⊢
     have hVs := HV.out.size
     have hge10 : V.heap.size ≤ g10 := by omega
     have d3_10 : g3 ≠ g10 := by have := blk_lt HB3.out; omega
     have HB3 := Lib.hid (blk_keep HB3.out hgN (fun e => e))
     have HW9_10 : Hid (∀ x, (Value.slice A9 c.ws.length c9).ownBlock = some x → x ≠ g10) := Lib.hid (fun x e => by have := (HO9.out.ge e).2; omega)
     have HO9 := Lib.hid (HO9.out.non hgN (fun _ _ h => h))
     have HB10 := Lib.hid hnb
     have HV := Lib.hid (HV.out.then_non hgN)
     clear hnb hgN hX4 hg10 hVs
     refine h_one 7 (by kernel_rfl) rfl (by kernel_rfl) ?_
     intro K hK
     refine wp_cp chV (.tmp 10) (.tmp 12) 24 rfl 93 (.agg #[.int .i64 0, .int .i64 0, .int .i64 0, .int .i64 0, .int .i64 0]) 5 40 Tryz.underlying24 info_clCh rfl (by omega) V.heap.size g10 HB10.out hge10 (fun _ => True) rfl A3 c.cs c3 rfl (HC.out.cs.non (HVg.out.then_non HV.out) (fun _ _ h => h)) (fun _ _ h => chV_oneC _ _ h) hlc (by omega) (fun _ _ _ _ h => h) ?_
     intro v2 X5 ho hg hv
     obtain ⟨A13, c13, rfl, h131, h132, _⟩ := ho.rd
     refine hK.out _ _ (HV.out.then_new hg (fun x e => by have e : x = g10 := e; omega)) (fun _ => ?_)
     clear hK K
     try simp only [Act.put, sA, sB, sC]
     have HW13_3 : Hid (∀ x, (Value.slice A13 c.cs.length c13).ownBlock = some x → x ≠ g3) := Lib.hid (fun x e => by have := blk_lt HB3.out; have := d3_10; rcases hv x e with e | e <;> omega)
     have HB3 := Lib.hid (blk_keep HB3.out hg (fun e => d3_10 e))
     have HO9 := Lib.hid (HO9.out.keep hg (fun x e e2 => HW9_10.out x e e2) (fun _ _ h => h))
     have HO13 := Lib.hid ho
     have HV := Lib.hid (HV.out.then_new hg (fun x e => by have e : x = g10 := e; omega))
     clear ho hg hv
     refine hp 8 14 (.agg #[.slice A9 c.ws.length c9, .slice none 0 0, .slice A13 c.cs.length c13]) rfl HV.out ?_ (he := (fun W hW => by kernel_rfl)) (hQ := fun _ _ _ h => absurd h.1 (by simp))
     refine h_store 10 26 (.tmp 3) (.tmp 14) g3 #[.slice A9 c.ws.length c9, .slice none 0 0, .slice A13 c.cs.length c13] (by kernel_rfl) rfl (by kernel_rfl) rfl rfl rfl rfl 26 ⟨#[.slice none 0 0, .slice none 0 0, .slice none 0 0], HB3.out, rfl⟩ (by kernel_rfl) (by simp [Value.oneCell']) (fun W hg hb => HV.out.then_new hg (fun x e => by have e : x = g3 := e; omega)) ?_
     intro W hgW hbW
     have HB3 := Lib.hid hbW
     have HV := Lib.hid (HV.out.then_new hgW (fun x e => by have e : x = g3 := e; omega))
     have HO9 := Lib.hid (HO9.out.keep hgW (fun x e e2 => HW9_3.out x e e2) (fun _ _ h => h))
     have HO13 := Lib.hid (HO13.out.keep hgW (fun x e e2 => HW13_3.out x e e2) (fun _ _ h => h))
     clear hgW hbW
     refine wpAnyH_done (by kernel_rfl) ?_ _
     exact ⟨rfl, ⟨g3, g6, g10, A9, A13, c9, c13⟩, by kernel_rfl, ⟨HV.out, hge3, HB3.out, HO9.out, HO13.out⟩⟩
   ·intro K hK
    go_simp
    refine hK.out _ _ (HV.out.alloc _) (fun _ => ?_)
    clear hK K
    try simp only [Act.put, sA, sB, sC]
    have hnb := heap_alloc_new X1 (.cells #[] 93)
    have hgN : Chg Non X1 (X1.alloc (.cells #[] 93)) := (Chg.refl Non X1).alloc _
    obtain ⟨X2, hX2⟩ : ∃ X, X1.alloc (.cells #[] 93) = X := ⟨_, rfl⟩
    obtain ⟨g10, hg10⟩ : ∃ b, X1.heap.size = b := ⟨_, rfl⟩
    rw [hX2] at hnb hgN ⊢
    rw [hg10] at hnb ⊢
    have hVs := HV.out.size
    have hge10 : V.heap.size ≤ g10 := by omega
    have d6_10 : g6 ≠ g10 := by have := blk_lt HB6.out; omega
    have HB6 := Lib.hid (blk_keep HB6.out hgN (fun e => e))
    have HB10 := Lib.hid hnb
    have HV := Lib.hid (HV.out.then_non hgN)
    clear hnb hgN hX2 hg10 hVs
    refine h_two 3 9 (by kernel_rfl) rfl rfl (by kernel_rfl) (by kernel_rfl) ?_ ?_
    ·intro K hK
     refine wp_cp winV (.tmp 6) (.tmp 8) 22 rfl 49 (.agg #[.int .i64 0, .int .i64 0]) 2 16 Tryz.underlying22 info_clWin rfl (by omega) V.heap.size g6 HB6.out hge6 (fun _ => True) rfl A1 c.ws c1 rfl (HC.out.ws.non (HVg.out.then_non HV.out) (fun _ _ h => h)) (fun _ _ h => winV_oneC _ _ h) hlw (by omega) (fun _ _ _ _ h => h) ?_
     intro v2 X3 ho hg hv
     obtain ⟨A9, c9, rfl, h91, h92, _⟩ := ho.rd
     refine hK.out _ _ (HV.out.then_new hg (fun x e => by have e : x = g6 := e; omega)) (fun _ => ?_)
     clear hK K
     try simp only [Act.put, sA, sB, sC]
     have HW9_10 : Hid (∀ x, (Value.slice A9 c.ws.length c9).ownBlock = some x → x ≠ g10) := Lib.hid (fun x e => by have := blk_lt HB10.out; have := d6_10.symm; rcases hv x e with e | e <;> omega)
     have HB10 := Lib.hid (blk_keep HB10.out hg (fun e => d6_10.symm e))
     have HO9 := Lib.hid ho
     have HV := Lib.hid (HV.out.then_new hg (fun x e => by have e : x = g6 := e; omega))
     clear ho hg hv
     refine h_two 7 9 (by kernel_rfl) rfl rfl (by kernel_rfl) (by kernel_rfl) ?_ ?_
     ·intro K hK
      refine wp_cp chV (.tmp 10) (.tmp 12) 24 rfl 93 (.agg #[.int .i64 0, .int .i64 0, .int .i64 0, .int .i64 0, .int .i64 0]) 5 40 Tryz.underlying24 info_clCh rfl (by omega) V.heap.size g10 HB10.out hge10 (fun _ => True) rfl A3 c.cs c3 rfl (HC.out.cs.non (HVg.out.then_non HV.out) (fun _ _ h => h)) (fun _ _ h => chV_oneC _ _ h) hlc (by omega) (fun _ _ _ _ h => h) ?_
      intro v2 X4 ho hg hv
      obtain ⟨A13, c13, rfl, h131, h132, _⟩ := ho.rd
      refine hK.out _ _ (HV.out.then_new hg (fun x e => by have e : x = g10 := e; omega)) (fun _ => ?_)
      clear hK K
      try simp only [Act.put, sA, sB, sC]
      have HO9 := Lib.hid (HO9.out.keep hg (fun x e e2 => HW9_10.out x e e2) (fun _ _ h => h))
      have HO13 := Lib.hid ho
      have HV := Lib.hid (HV.out.then_new hg (fun x e => by have e : x = g10 := e; omega))
      clear ho hg hv
      refine hp 8 14 (.agg #[.slice A9 c.ws.length c9, .slice none 0 0, .slice A13 c.cs.length c13]) rfl HV.out ?_ (he := (fun W hW => by kernel_rfl)) (hQ := fun _ _ _ h => absurd h.1 (by simp))
      refine h_one 9 (by kernel_rfl) rfl (by kernel_rfl) ?_
      intro K hK
      go_simp
      refine hK.out _ _ (HV.out.alloc _) (fun _ => ?_)
      clear hK K
      try simp only [Act.put, sA, sB, sC]
      have hnb := heap_alloc_new X4 (.cells #[.slice none 0 0, .slice none 0 0, .slice none 0 0] 26)
      have hgN : Chg Non X4 (X4.alloc (.cells #[.slice none 0 0, .slice none 0 0, .slice none 0 0] 26)) := (Chg.refl Non X4).alloc _
      obtain ⟨X5, hX5⟩ : ∃ X, X4.alloc (.cells #[.slice none 0 0, .slice none 0 0, .slice none 0 0] 26) = X := ⟨_, rfl⟩
      obtain ⟨g3, hg3⟩ : ∃ b, X4.heap.size = b := ⟨_, rfl⟩
      rw [hX5] at hnb hgN ⊢
      rw [hg3] at hnb ⊢
      have hVs := HV.out.size
      have hge3 : V.heap.size ≤ g3 := by omega
      have HW9_3 : Hid (∀ x, (Value.slice A9 c.ws.length c9).ownBlock = some x → x ≠ g3) := Lib.hid (fun x e => by have := (HO9.out.ge e).2; omega)
      have HO9 := Lib.hid (HO9.out.non hgN (fun _ _ h => h))
      have HW13_3 : Hid (∀ x, (Value.slice A13 c.cs.length c13).ownBlock = some x → x ≠ g3) := Lib.hid (fun x e => by have := (HO13.out.ge e).2; omega)
      have HO13 := Lib.hid (HO13.out.non hgN (fun _ _ h => h))
      have HB3 := Lib.hid hnb
      have HV := Lib.hid (HV.out.then_non hgN)
      clear hnb hgN hX5 hg3 hVs
      refine h_store 10 26 (.tmp 3) (.tmp 14) g3 #[.slice A9 c.ws.length c9, .slice none 0 0, .slice A13 c.cs.length c13] (by kernel_rfl) rfl (by kernel_rfl) rfl rfl rfl rfl 26 ⟨#[.slice none 0 0, .slice none 0 0, .slice none 0 0], HB3.out, rfl⟩ (by kernel_rfl) (by simp [Value.oneCell']) (fun W hg hb => HV.out.then_new hg (fun x e => by have e : x = g3 := e; omega)) ?_
      intro W hgW hbW
      have HB3 := Lib.hid hbW
      have HV := Lib.hid (HV.out.then_new hgW (fun x e => by have e : x = g3 := e; omega))
      have HO9 := Lib.hid (HO9.out.keep hgW (fun x e e2 => HW9_3.out x e e2) (fun _ _ h => h))
      have HO13 := Lib.hid (HO13.out.keep hgW (fun x e e2 => HW13_3.out x e e2) (fun _ _ h => h))
      clear hgW hbW
      refine wpAnyH_done (by kernel_rfl) ?_ _
      exact ⟨rfl, ⟨g3, g6, g10, A9, A13, c9, c13⟩, by kernel_rfl, ⟨HV.out, hge3, HB3.out, HO9.out, HO13.out⟩⟩
     ·intro K hK
      go_simp
      refine hK.out _ _ (HV.out.alloc _) (fun _ => ?_)
      clear hK K
      try simp only [Act.put, sA, sB, sC]
      have hnb := heap_alloc_new X3 (.cells #[.slice none 0 0, .slice none 0 0, .slice none 0 0] 26)
      have hgN : Chg Non X3 (X3.alloc (.cells #[.slice none 0 0, .slice none 0 0, .slice none 0 0] 26)) := (Chg.refl Non X3).alloc _
      obtain ⟨X4, hX4⟩ : ∃ X, X3.alloc (.cells #[.slice none 0 0, .slice none 0 0, .slice none 0 0] 26) = X := ⟨_, rfl⟩
      obtain ⟨g3, hg3⟩ : ∃ b, X3.heap.size = b := ⟨_, rfl⟩
      rw [hX4] at hnb hgN ⊢
      rw [hg3] at hnb ⊢
      have hVs := HV.out.size
      have hge3 : V.heap.size ≤ g3 := by omega
      have d10_3 : g10 ≠ g3 := by have := blk_lt HB10.out; omega
      have HB10 := Lib.hid (blk_keep HB10.out hgN (fun e => e))
      have HW9_3 : Hid (∀ x, (Value.slice A9 c.ws.length c9).ownBlock = some x → x ≠ g3) := Lib.hid (fun x e => by have := (HO9.out.ge e).2; omega)
      have HO9 := Lib.hid (HO9.out.non hgN (fun _ _ h => h))
      have HB3 := Lib.hid hnb
      have HV := Lib.hid (HV.out.then_non hgN)
      clear hnb hgN hX4 hg3 hVs
      refine h_one 7 (by kernel_rfl) rfl (by kernel_rfl) ?_
      intro K hK
      refine wp_cp chV (.tmp 10) (.tmp 12) 24 rfl 93 (.agg #[.int .i64 0, .int .i64 0, .int .i64 0, .int .i64 0, .int .i64 0]) 5 40 Tryz.underlying24 info_clCh rfl (by omega) V.heap.size g10 HB10.out hge10 (fun _ => True) rfl A3 c.cs c3 rfl (HC.out.cs.non (HVg.out.then_non HV.out) (fun _ _ h => h)) (fun _ _ h => chV_oneC _ _ h) hlc (by omega) (fun _ _ _ _ h => h) ?_
      intro v2 X5 ho hg hv
      obtain ⟨A13, c13, rfl, h131, h132, _⟩ := ho.rd
      refine hK.out _ _ (HV.out.then_new hg (fun x e => by have e : x = g10 := e; omega)) (fun _ => ?_)
      clear hK K
      try simp only [Act.put, sA, sB, sC]
      have HW13_3 : Hid (∀ x, (Value.slice A13 c.cs.length c13).ownBlock = some x → x ≠ g3) := Lib.hid (fun x e => by have := blk_lt HB3.out; have := d10_3.symm; rcases hv x e with e | e <;> omega)
      have HB3 := Lib.hid (blk_keep HB3.out hg (fun e => d10_3.symm e))
      have HO9 := Lib.hid (HO9.out.keep hg (fun x e e2 => HW9_10.out x e e2) (fun _ _ h => h))
      have HO13 := Lib.hid ho
      have HV := Lib.hid (HV.out.then_new hg (fun x e => by have e : x = g10 := e; omega))
      clear ho hg hv
      refine hp 8 14 (.agg #[.slice A9 c.ws.length c9, .slice none 0 0, .slice A13 c.cs.length c13]) rfl HV.out ?_ (he := (fun W hW => by kernel_rfl)) (hQ := fun _ _ _ h => absurd h.1 (by simp))
      refine h_store 10 26 (.tmp 3) (.tmp 14) g3 #[.slice A9 c.ws.length c9, .slice none 0 0, .slice A13 c.cs.length c13] (by kernel_rfl) rfl (by kernel_rfl) rfl rfl rfl rfl 26 ⟨#[.slice none 0 0, .slice none 0 0, .slice none 0 0], HB3.out, rfl⟩ (by kernel_rfl) (by simp [Value.oneCell']) (fun W hg hb => HV.out.then_new hg (fun x e => by have e : x = g3 := e; omega)) ?_
      intro W hgW hbW
      have HB3 := Lib.hid hbW
      have HV := Lib.hid (HV.out.then_new hgW (fun x e => by have e : x = g3 := e; omega))
      have HO9 := Lib.hid (HO9.out.keep hgW (fun x e e2 => HW9_3.out x e e2) (fun _ _ h => h))
      have HO13 := Lib.hid (HO13.out.keep hgW (fun x e e2 => HW13_3.out x e e2) (fun _ _ h => h))
      clear hgW hbW
      refine wpAnyH_done (by kernel_rfl) ?_ _
      exact ⟨rfl, ⟨g3, g6, g10, A9, A13, c9, c13⟩, by kernel_rfl, ⟨HV.out, hge3, HB3.out, HO9.out, HO13.out⟩⟩
    ·intro K hK
     go_simp
     refine hK.out _ _ (HV.out.alloc _) (fun _ => ?_)
     clear hK K
     try simp only [Act.put, sA, sB, sC]
     have hnb := heap_alloc_new X2 (.cells #[.slice none 0 0, .slice none 0 0, .slice none 0 0] 26)
     have hgN : Chg Non X2 (X2.alloc (.cells #[.slice none 0 0, .slice none 0 0, .slice none 0 0] 26)) := (Chg.refl Non X2).alloc _
     obtain ⟨X3, hX3⟩ : ∃ X, X2.alloc (.cells #[.slice none 0 0, .slice none 0 0, .slice none 0 0] 26) = X := ⟨_, rfl⟩
     obtain ⟨g3, hg3⟩ : ∃ b, X2.heap.size = b := ⟨_, rfl⟩
     rw [hX3] at hnb hgN ⊢
     rw [hg3] at hnb ⊢
     have hVs := HV.out.size
     have hge3 : V.heap.size ≤ g3 := by omega
     have d6_3 : g6 ≠ g3 := by have := blk_lt HB6.out; omega
     have HB6 := Lib.hid (blk_keep HB6.out hgN (fun e => e))
     have d10_3 : g10 ≠ g3 := by have := blk_lt HB10.out; omega
     have HB10 := Lib.hid (blk_keep HB10.out hgN (fun e => e))
     have HB3 := Lib.hid hnb
     have HV := Lib.hid (HV.out.then_non hgN)
     clear hnb hgN hX3 hg3 hVs
     refine h_one 3 (by kernel_rfl) rfl (by kernel_rfl) ?_
     intro K hK
     refine wp_cp winV (.tmp 6) (.tmp 8) 22 rfl 49 (.agg #[.int .i64 0, .int .i64 0]) 2 16 Tryz.underlying22 info_clWin rfl (by omega) V.heap.size g6 HB6.out hge6 (fun _ => True) rfl A1 c.ws c1 rfl (HC.out.ws.non (HVg.out.then_non HV.out) (fun _ _ h => h)) (fun _ _ h => winV_oneC _ _ h) hlw (by omega) (fun _ _ _ _ h => h) ?_
     intro v2 X4 ho hg hv
     obtain ⟨A9, c9, rfl, h91, h92, _⟩ := ho.rd
     refine hK.out _ _ (HV.out.then_new hg (fun x e => by have e : x = g6 := e; omega)) (fun _ => ?_)
     clear hK K
     try simp only [Act.put, sA, sB, sC]
     have HW9_10 : Hid (∀ x, (Value.slice A9 c.ws.length c9).ownBlock = some x → x ≠ g10) := Lib.hid (fun x e => by have := blk_lt HB10.out; have := d6_10.symm; rcases hv x e with e | e <;> omega)
     have HB10 := Lib.hid (blk_keep HB10.out hg (fun e => d6_10.symm e))
     have HW9_3 : Hid (∀ x, (Value.slice A9 c.ws.length c9).ownBlock = some x → x ≠ g3) := Lib.hid (fun x e => by have := blk_lt HB3.out; have := d6_3.symm; rcases hv x e with e | e <;> omega)
     have HB3 := Lib.hid (blk_keep HB3.out hg (fun e => d6_3.symm e))
     have HO9 := Lib.hid ho
     have HV := Lib.hid (HV.out.then_new hg (fun x e => by have e : x = g6 := e; omega))
     clear ho hg hv
     refine h_one 7 (by kernel_rfl) rfl (by kernel_rfl) ?_
     intro K hK
     refine wp_cp chV (.tmp 10) (.tmp 12) 24 rfl 93 (.agg #[.int .i64 0, .int .i64 0, .int .i64 0, .int .i64 0, .int .i64 0]) 5 40 Tryz.underlying24 info_clCh rfl (by omega) V.heap.size g10 HB10.out hge10 (fun _ => True) rfl A3 c.cs c3 rfl (HC.out.cs.non (HVg.out.then_non HV.out) (fun _ _ h => h)) (fun _ _ h => chV_oneC _ _ h) hlc (by omega) (fun _ _ _ _ h => h) ?_
     intro v2 X5 ho hg hv
     obtain ⟨A13, c13, rfl, h131, h132, _⟩ := ho.rd
     refine hK.out _ _ (HV.out.then_new hg (fun x e => by have e : x = g10 := e; omega)) (fun _ => ?_)
     clear hK K
     try simp only [Act.put, sA, sB, sC]
     have HW13_3 : Hid (∀ x, (Value.slice A13 c.cs.length c13).ownBlock = some x → x ≠ g3) := Lib.hid (fun x e => by have := blk_lt HB3.out; have := d10_3.symm; rcases hv x e with e | e <;> omega)
     have HB3 := Lib.hid (blk_keep HB3.out hg (fun e => d10_3.symm e))
     have HO9 := Lib.hid (HO9.out.keep hg (fun x e e2 => HW9_10.out x e e2) (fun _ _ h => h))
     have HO13 := Lib.hid ho
     have HV := Lib.hid (HV.out.then_new hg (fun x e => by have e : x = g10 := e; omega))
     clear ho hg hv
     refine hp 8 14 (.agg #[.slice A9 c.ws.length c9, .slice none 0 0, .slice A13 c.cs.length c13]) rfl HV.out ?_ (he := (fun W hW => by kernel_rfl)) (hQ := fun _ _ _ h => absurd h.1 (by simp))
     refine h_store 10 26 (.tmp 3) (.tmp 14) g3 #[.slice A9 c.ws.length c9, .slice none 0 0, .slice A13 c.cs.length c13] (by kernel_rfl) rfl (by kernel_rfl) rfl rfl rfl rfl 26 ⟨#[.slice none 0 0, .slice none 0 0, .slice none 0 0], HB3.out, rfl⟩ (by kernel_rfl) (by simp [Value.oneCell']) (fun W hg hb => HV.out.then_new hg (fun x e => by have e : x = g3 := e; omega)) ?_
     intro W hgW hbW
     have HB3 := Lib.hid hbW
     have HV := Lib.hid (HV.out.then_new hgW (fun x e => by have e : x = g3 := e; omega))
     have HO9 := Lib.hid (HO9.out.keep hgW (fun x e e2 => HW9_3.out x e e2) (fun _ _ h => h))
     have HO13 := Lib.hid (HO13.out.keep hgW (fun x e e2 => HW13_3.out x e e2) (fun _ _ h => h))
     clear hgW hbW
     refine wpAnyH_done (by kernel_rfl) ?_ _
     exact ⟨rfl, ⟨g3, g6, g10, A9, A13, c9, c13⟩, by kernel_rfl, ⟨HV.out, hge3, HB3.out, HO9.out, HO13.out⟩⟩
   ·intro K hK
    go_simp
    refine hK.out _ _ (HV.out.alloc _) (fun _ => ?_)
    clear hK K
    try simp only [Act.put, sA, sB, sC]
    have hnb := heap_alloc_new X1 (.cells #[.slice none 0 0, .slice none 0 0, .slice none 0 0] 26)
    have hgN : Chg Non X1 (X1.alloc (.cells #[.slice none 0 0, .slice none 0 0, .slice none 0 0] 26)) := (Chg.refl Non X1).alloc _
    obtain ⟨X2, hX2⟩ : ∃ X, X1.alloc (.cells #[.slice none 0 0, .slice none 0 0, .slice none 0 0] 26) = X := ⟨_, rfl⟩
    obtain ⟨g3, hg3⟩ : ∃ b, X1.heap.size = b := ⟨_, rfl⟩
    rw [hX2] at hnb hgN ⊢
    rw [hg3] at hnb ⊢
    have hVs := HV.out.size
    have hge3 : V.heap.size ≤ g3 := by omega
    have d6_3 : g6 ≠ g3 := by have := blk_lt HB6.out; omega
    have HB6 := Lib.hid (blk_keep HB6.out hgN (fun e => e))
    have HB3 := Lib.hid hnb
    have HV := Lib.hid (HV.out.then_non hgN)
    clear hnb hgN hX2 hg3 hVs
    refine h_two 3 4 (by kernel_rfl) rfl rfl (by kernel_rfl) (by kernel_rfl) ?_ ?_
    ·intro K hK
     refine wp_cp winV (.tmp 6) (.tmp 8) 22 rfl 49 (.agg #[.int .i64 0, .int .i64 0]) 2 16 Tryz.underlying22 info_clWin rfl (by omega) V.heap.size g6 HB6.out hge6 (fun _ => True) rfl A1 c.ws c1 rfl (HC.out.ws.non (HVg.out.then_non HV.out) (fun _ _ h => h)) (fun _ _ h => winV_oneC _ _ h) hlw (by omega) (fun _ _ _ _ h => h) ?_
     intro v2 X3 ho hg hv
     obtain ⟨A9, c9, rfl, h91, h92, _⟩ := ho.rd
     refine hK.out _ _ (HV.out.then_new hg (fun x e => by have e : x = g6 := e; omega)) (fun _ => ?_)
     clear hK K
     try simp only [Act.put, sA, sB, sC]
     have HW9_3 : Hid (∀ x, (Value.slice A9 c.ws.length c9).ownBlock = some x → x ≠ g3) := Lib.hid (fun x e => by have := blk_lt HB3.out; have := d6_3.symm; rcases hv x e with e | e <;> omega)
     have HB3 := Lib.hid (blk_keep HB3.out hg (fun e => d6_3.symm e))
     have HO9 := Lib.hid ho
     have HV := Lib.hid (HV.out.then_new hg (fun x e => by have e : x = g6 := e; omega))
     clear ho hg hv
     refine h_one 4 (by kernel_rfl) rfl (by kernel_rfl) ?_
     intro K hK
     go_simp
     refine hK.out _ _ (HV.out.alloc _) (fun _ => ?_)
     clear hK K
     try simp only [Act.put, sA, sB, sC]
     have hnb := heap_alloc_new X3 (.cells #[] 93)
     have hgN : Chg Non X3 (X3.alloc (.cells #[] 93)) := (Chg.refl Non X3).alloc _
     obtain ⟨X4, hX4⟩ : ∃ X, X3.alloc (.cells #[] 93) = X := ⟨_, rfl⟩
     obtain ⟨g10, hg10⟩ : ∃ b, X3.heap.size = b := ⟨_, rfl⟩
     rw [hX4] at hnb hgN ⊢
     rw [hg10] at hnb ⊢
     have hVs := HV.out.size
     have hge10 : V.heap.size ≤ g10 := by omega
     have d3_10 : g3 ≠ g10 := by have := blk_lt HB3.out; omega
     have HB3 := Lib.hid (blk_keep HB3.out hgN (fun e => e))
     have HW9_10 : Hid (∀ x, (Value.slice A9 c.ws.length c9).ownBlock = some x → x ≠ g10) := Lib.hid (fun x e => by have := (HO9.out.ge e).2; omega)
     have HO9 := Lib.hid (HO9.out.non hgN (fun _ _ h => h))
     have HB10 := Lib.hid hnb
     have HV := Lib.hid (HV.out.then_non hgN)
     clear hnb hgN hX4 hg10 hVs
     refine h_one 7 (by kernel_rfl) rfl (by kernel_rfl) ?_
     intro K hK
     refine wp_cp chV (.tmp 10) (.tmp 12) 24 rfl 93 (.agg #[.int .i64 0, .int .i64 0, .int .i64 0, .int .i64 0, .int .i64 0]) 5 40 Tryz.underlying24 info_clCh rfl (by omega) V.heap.size g10 HB10.out hge10 (fun _ => True) rfl A3 c.cs c3 rfl (HC.out.cs.non (HVg.out.then_non HV.out) (fun _ _ h => h)) (fun _ _ h => chV_oneC _ _ h) hlc (by omega) (fun _ _ _ _ h => h) ?_
     intro v2 X5 ho hg hv
     obtain ⟨A13, c13, rfl, h131, h132, _⟩ := ho.rd
     refine hK.out _ _ (HV.out.then_new hg (fun x e => by have e : x = g10 := e; omega)) (fun _ => ?_)
     clear hK K
     try simp only [Act.put, sA, sB, sC]
     have HW13_3 : Hid (∀ x, (Value.slice A13 c.cs.length c13).ownBlock = some x → x ≠ g3) := Lib.hid (fun x e => by have := blk_lt HB3.out; have := d3_10; rcases hv x e with e | e <;> omega)
     have HB3 := Lib.hid (blk_keep HB3.out hg (fun e => d3_10 e))
     have HO9 := Lib.hid (HO9.out.keep hg (fun x e e2 => HW9_10.out x e e2) (fun _ _ h => h))
     have HO13 := Lib.hid ho
     have HV := Lib.hid (HV.out.then_new hg (fun x e => by have e : x = g10 := e; omega))
     clear ho hg hv
     refine hp 8 14 (.agg #[.slice A9 c.ws.length c9, .slice none 0 0, .slice A13 c.cs.length c13]) rfl HV.out ?_ (he := (fun W hW => by kernel_rfl)) (hQ := fun _ _ _ h => absurd h.1 (by simp))
     refine h_store 10 26 (.tmp 3) (.tmp 14) g3 #[.slice A9 c.ws.length c9, .slice none 0 0, .slice A13 c.cs.length c13] (by kernel_rfl) rfl (by kernel_rfl) rfl rfl rfl rfl 26 ⟨#[.slice none 0 0, .slice none 0 0, .slice none 0 0], HB3.out, rfl⟩ (by kernel_rfl) (by simp [Value.oneCell']) (fun W hg hb => HV.out.then_new hg (fun x e => by have e : x = g3 := e; omega)) ?_
     intro W hgW hbW
     have HB3 := Lib.hid hbW
     have HV := Lib.hid (HV.out.then_new hgW (fun x e => by have e : x = g3 := e; omega))
     have HO9 := Lib.hid (HO9.out.keep hgW (fun x e e2 => HW9_3.out x e e2) (fun _ _ h => h))
     have HO13 := Lib.hid (HO13.out.keep hgW (fun x e e2 => HW13_3.out x e e2) (fun _ _ h => h))
     clear hgW hbW
     refine wpAnyH_done (by kernel_rfl) ?_ _
     exact ⟨rfl, ⟨g3, g6, g10, A9, A13, c9, c13⟩, by kernel_rfl, ⟨HV.out, hge3, HB3.out, HO9.out, HO13.out⟩⟩
    ·intro K hK
     go_simp
     refine hK.out _ _ (HV.out.alloc _) (fun _ => ?_)
     clear hK K
     try simp only [Act.put, sA, sB, sC]
     have hnb := heap_alloc_new X2 (.cells #[] 93)
     have hgN : Chg Non X2 (X2.alloc (.cells #[] 93)) := (Chg.refl Non X2).alloc _
     obtain ⟨X3, hX3⟩ : ∃ X, X2.alloc (.cells #[] 93) = X := ⟨_, rfl⟩
     obtain ⟨g10, hg10⟩ : ∃ b, X2.heap.size = b := ⟨_, rfl⟩
     rw [hX3] at hnb hgN ⊢
     rw [hg10] at hnb ⊢
     have hVs := HV.out.size
     have hge10 : V.heap.size ≤ g10 := by omega
     have d6_10 : g6 ≠ g10 := by have := blk_lt HB6.out; omega
     have HB6 := Lib.hid (blk_keep HB6.out hgN (fun e => e))
     have d3_10 : g3 ≠ g10 := by have := blk_lt HB3.out; omega
     have HB3 := Lib.hid (blk_keep HB3.out hgN (fun e => e))
     have HB10 := Lib.hid hnb
     have HV := Lib.hid (HV.out.then_non hgN)
     clear hnb hgN hX3 hg10 hVs
     refine h_one 3 (by kernel_rfl) rfl (by kernel_rfl) ?_
     intro K hK
     refine wp_cp winV (.tmp 6) (.tmp 8) 22 rfl 49 (.agg #[.int .i64 0, .int .i64 0]) 2 16 Tryz.underlying22 info_clWin rfl (by omega) V.heap.size g6 HB6.out hge6 (fun _ => True) rfl A1 c.ws c1 rfl (HC.out.ws.non (HVg.out.then_non HV.out) (fun _ _ h => h)) (fun _ _ h => winV_oneC _ _ h) hlw (by omega) (fun _ _ _ _ h => h) ?_
     intro v2 X4 ho hg hv
     obtain ⟨A9, c9, rfl, h91, h92, _⟩ := ho.rd
     refine hK.out _ _ (HV.out.then_new hg (fun x e => by have e : x = g6 := e; omega)) (fun _ => ?_)
     clear hK K
     try simp only [Act.put, sA, sB, sC]
     have HW9_3 : Hid (∀ x, (Value.slice A9 c.ws.length c9).ownBlock = some x → x ≠ g3) := Lib.hid (fun x e => by have := blk_lt HB3.out; have := d6_3.symm; rcases hv x e with e | e <;> omega)
     have HB3 := Lib.hid (blk_keep HB3.out hg (fun e => d6_3.symm e))
     have HW9_10 : Hid (∀ x, (Value.slice A9 c.ws.length c9).ownBlock = some x → x ≠ g10) := Lib.hid (fun x e => by have := blk_lt HB10.out; have := d6_10.symm; rcases hv x e with e | e <;> omega)
     have HB10 := Lib.hid (blk_keep HB10.out hg (fun e => d6_10.symm e))
     have HO9 := Lib.hid ho
     have HV := Lib.hid (HV.out.then_new hg (fun x e => by have e : x = g6 := e; omega))
     clear ho hg hv
     refine h_one 7 (by kernel_rfl) rfl (by kernel_rfl) ?_
     intro K hK
     refine wp_cp chV (.tmp 10) (.tmp 12) 24 rfl 93 (.agg #[.int .i64 0, .int .i64 0, .int .i64 0, .int .i64 0, .int .i64 0]) 5 40 Tryz.underlying24 info_clCh rfl (by omega) V.heap.size g10 HB10.out hge10 (fun _ => True) rfl A3 c.cs c3 rfl (HC.out.cs.non (HVg.out.then_non HV.out) (fun _ _ h => h)) (fun _ _ h => chV_oneC _ _ h) hlc (by omega) (fun _ _ _ _ h => h) ?_
     intro v2 X5 ho hg hv
     obtain ⟨A13, c13, rfl, h131, h132, _⟩ := ho.rd
     refine hK.out _ _ (HV.out.then_new hg (fun x e => by have e : x = g10 := e; omega)) (fun _ => ?_)
     clear hK K
     try simp only [Act.put, sA, sB, sC]
     have HW13_3 : Hid (∀ x, (Value.slice A13 c.cs.length c13).ownBlock = some x → x ≠ g3) := Lib.hid (fun x e => by have := blk_lt HB3.out; have := d3_10; rcases hv x e with e | e <;> omega)
     have HB3 := Lib.hid (blk_keep HB3.out hg (fun e => d3_10 e))
     have HO9 := Lib.hid (HO9.out.keep hg (fun x e e2 => HW9_10.out x e e2) (fun _ _ h => h))
     have HO13 := Lib.hid ho
     have HV := Lib.hid (HV.out.then_new hg (fun x e => by have e : x = g10 := e; omega))
     clear ho hg hv
     refine hp 8 14 (.agg #[.slice A9 c.ws.length c9, .slice none 0 0, .slice A13 c.cs.length c13]) rfl HV.out ?_ (he := (fun W hW => by kernel_rfl)) (hQ := fun _ _ _ h => absurd h.1 (by simp))
     refine h_store 10 26 (.tmp 3) (.tmp 14) g3 #[.slice A9 c.ws.length c9, .slice none 0 0, .slice A13 c.cs.length c13] (by kernel_rfl) rfl (by kernel_rfl) rfl rfl rfl rfl 26 ⟨#[.slice none 0 0, .slice none 0 0, .slice none 0 0], HB3.out, rfl⟩ (by kernel_rfl) (by simp [Value.oneCell']) (fun W hg hb => HV.out.then_new hg (fun x e => by have e : x = g3 := e; omega)) ?_
     intro W hgW hbW
     have HB3 := Lib.hid hbW
     have HV := Lib.hid (HV.out.then_new hgW (fun x e => by have e : x = g3 := e; omega))
     have HO9 := Lib.hid (HO9.out.keep hgW (fun x e e2 => HW9_3.out x e e2) (fun _ _ h => h))
     have HO13 := Lib.hid (HO13.out.keep hgW (fun x e e2 => HW13_3.out x e e2) (fun _ _ h => h))
     clear hgW hbW
     refine wpAnyH_done (by kernel_rfl) ?_ _
     exact ⟨rfl, ⟨g3, g6, g10, A9, A13, c9, c13⟩, by kernel_rfl, ⟨HV.out, hge3, HB3.out, HO9.out, HO13.out⟩⟩
  ·intro K hK
   go_simp
   refine hK.out _ _ (HV.out.alloc _) (fun _ => ?_)
   clear hK K
   try simp only [Act.put, sA, sB, sC]
   have hnb := heap_alloc_new V (.cells #[] 93)
   have hgN : Chg Non V (V.alloc (.cells #[] 93)) := (Chg.refl Non V).alloc _
   obtain ⟨X1, hX1⟩ : ∃ X, V.alloc (.cells #[] 93) = X := ⟨_, rfl⟩
   obtain ⟨g10, hg10⟩ : ∃ b, V.heap.size = b := ⟨_, rfl⟩
   rw [hX1] at hnb hgN ⊢
   rw [hg10] at hnb ⊢
   have hVs := HV.out.size
   have hge10 : V.heap.size ≤ g10 := by omega
   have HB10 := Lib.hid hnb
   have HV := Lib.hid (HV.out.then_non hgN)
   clear hnb hgN hX1 hg10 hVs
   refine h_two 0 9 (by kernel_rfl) rfl rfl (by kernel_rfl) (by kernel_rfl) ?_ ?_
   ·intro K hK
    go_simp
    refine hK.out _ _ (HV.out.alloc _) (fun _ => ?_)
    clear hK K
    try simp only [Act.put, sA, sB, sC]
    have hnb := heap_alloc_new X1 (.cells #[] 49)
    have hgN : Chg Non X1 (X1.alloc (.cells #[] 49)) := (Chg.refl Non X1).alloc _
    obtain ⟨X2, hX2⟩ : ∃ X, X1.alloc (.cells #[] 49) = X := ⟨_, rfl⟩
    obtain ⟨g6, hg6⟩ : ∃ b, X1.heap.size = b := ⟨_, rfl⟩
    rw [hX2] at hnb hgN ⊢
    rw [hg6] at hnb ⊢
    have hVs := HV.out.size
    have hge6 : V.heap.size ≤ g6 := by omega
    have d10_6 : g10 ≠ g6 := by have := blk_lt HB10.out; omega
    have HB10 := Lib.hid (blk_keep HB10.out hgN (fun e => e))
    have HB6 := Lib.hid hnb
    have HV := Lib.hid (HV.out.then_non hgN)
    clear hnb hgN hX2 hg6 hVs
    refine h_two 3 9 (by kernel_rfl) rfl rfl (by kernel_rfl) (by kernel_rfl) ?_ ?_
    ·intro K hK
     refine wp_cp winV (.tmp 6) (.tmp 8) 22 rfl 49 (.agg #[.int .i64 0, .int .i64 0]) 2 16 Tryz.underlying22 info_clWin rfl (by omega) V.heap.size g6 HB6.out hge6 (fun _ => True) rfl A1 c.ws c1 rfl (HC.out.ws.non (HVg.out.then_non HV.out) (fun _ _ h => h)) (fun _ _ h => winV_oneC _ _ h) hlw (by omega) (fun _ _ _ _ h => h) ?_
     intro v2 X3 ho hg hv
     obtain ⟨A9, c9, rfl, h91, h92, _⟩ := ho.rd
     refine hK.out _ _ (HV.out.then_new hg (fun x e => by have e : x = g6 := e; omega)) (fun _ => ?_)
     clear hK K
     try simp only [Act.put, sA, sB, sC]
     have HW9_10 : Hid (∀ x, (Value.slice A9 c.ws.length c9).ownBlock = some x → x ≠ g10) := Lib.hid (fun x e => by have := blk_lt HB10.out; have := d10_6; rcases hv x e with e | e <;> omega)
     have HB10 := Lib.hid (blk_keep HB10.out hg (fun e => d10_6 e))
     have HO9 := Lib.hid ho
     have HV := Lib.hid (HV.out.then_new hg (fun x e => by have e : x = g6 := e; omega))
     clear ho hg hv
     refine h_two 7 9 (by kernel_rfl) rfl rfl (by kernel_rfl) (by kernel_rfl) ?_ ?_
     ·intro K hK
      refine wp_cp chV (.tmp 10) (.tmp 12) 24 rfl 93 (.agg #[.int .i64 0, .int .i64 0, .int .i64 0, .int .i64 0, .int .i64 0]) 5 40 Tryz.underlying24 info_clCh rfl (by omega) V.heap.size g10 HB10.out hge10 (fun _ => True) rfl A3 c.cs c3 rfl (HC.out.cs.non (HVg.out.then_non HV.out) (fun _ _ h => h)) (fun _ _ h => chV_oneC _ _ h) hlc (by omega) (fun _ _ _ _ h => h) ?_
      intro v2 X4 ho hg hv
      obtain ⟨A13, c13, rfl, h131, h132, _⟩ := ho.rd
      refine hK.out _ _ (HV.out.then_new hg (fun x e => by have e : x = g10 := e; omega)) (fun _ => ?_)
      clear hK K
      try simp only [Act.put, sA, sB, sC]
      have HO9 := Lib.hid (HO9.out.keep hg (fun x e e2 => HW9_10.out x e e2) (fun _ _ h => h))
      have HO13 := Lib.hid ho
      have HV := Lib.hid (HV.out.then_new hg (fun x e => by have e : x = g10 := e; omega))
      clear ho hg hv
      refine hp 8 14 (.agg #[.slice A9 c.ws.length c9, .slice none 0 0, .slice A13 c.cs.length c13]) rfl HV.out ?_ (he := (fun W hW => by kernel_rfl)) (hQ := fun _ _ _ h => absurd h.1 (by simp))
      refine h_one 9 (by kernel_rfl) rfl (by kernel_rfl) ?_
      intro K hK
      go_simp
      refine hK.out _ _ (HV.out.alloc _) (fun _ => ?_)
      clear hK K
      try simp only [Act.put, sA, sB, sC]
      have hnb := heap_alloc_new X4 (.cells #[.slice none 0 0, .slice none 0 0, .slice none 0 0] 26)
      have hgN : Chg Non X4 (X4.alloc (.cells #[.slice none 0 0, .slice none 0 0, .slice none 0 0] 26)) := (Chg.refl Non X4).alloc _
      obtain ⟨X5, hX5⟩ : ∃ X, X4.alloc (.cells #[.slice none 0 0, .slice none 0 0, .slice none 0 0] 26) = X := ⟨_, rfl⟩
      obtain ⟨g3, hg3⟩ : ∃ b, X4.heap.size = b := ⟨_, rfl⟩
      rw [hX5] at hnb hgN ⊢
      rw [hg3] at hnb ⊢
      have hVs := HV.out.size
      have hge3 : V.heap.size ≤ g3 := by omega
      have HW9_3 : Hid (∀ x, (Value.slice A9 c.ws.length c9).ownBlock = some x → x ≠ g3) := Lib.hid (fun x e => by have := (HO9.out.ge e).2; omega)
      have HO9 := Lib.hid (HO9.out.non hgN (fun _ _ h => h))
      have HW13_3 : Hid (∀ x, (Value.slice A13 c.cs.length c13).ownBlock = some x → x ≠ g3) := Lib.hid (fun x e => by have := (HO13.out.ge e).2; omega)
      have HO13 := Lib.hid (HO13.out.non hgN (fun _ _ h => h))
      have HB3 := Lib.hid hnb
      have HV := Lib.hid (HV.out.then_non hgN)
      clear hnb hgN hX5 hg3 hVs
      refine h_store 10 26 (.tmp 3) (.tmp 14) g3 #[.slice A9 c.ws.length c9, .slice none 0 0, .slice A13 c.cs.length c13] (by kernel_rfl) rfl (by kernel_rfl) rfl rfl rfl rfl 26 ⟨#[.slice none 0 0, .slice none 0 0, .slice none 0 0], HB3.out, rfl⟩ (by kernel_rfl) (by simp [Value.oneCell']) (fun W hg hb => HV.out.then_new hg (fun x e => by have e : x = g3 := e; omega)) ?_
      intro W hgW hbW
      have HB3 := Lib.hid hbW
      have HV := Lib.hid (HV.out.then_new hgW (fun x e => by have e : x = g3 := e; omega))
      have HO9 := Lib.hid (HO9.out.keep hgW (fun x e e2 => HW9_3.out x e e2) (fun _ _ h => h))
      have HO13 := Lib.hid (HO13.out.keep hgW (fun x e e2 => HW13_3.out x e e2) (fun _ _ h => h))
      clear hgW hbW
      refine wpAnyH_done (by kernel_rfl) ?_ _
      exact ⟨rfl, ⟨g3, g6, g10, A9, A13, c9, c13⟩, by kernel_rfl, ⟨HV.out, hge3, HB3.out, HO9.out, HO13.out⟩⟩
     ·intro K hK
      go_simp
      refine hK.out _ _ (HV.out.alloc _) (fun _ => ?_)
      clear hK K
      try simp only [Act.put, sA, sB, sC]
      have hnb := heap_alloc_new X3 (.cells #[.slice none 0 0, .slice none 0 0, .slice none 0 0] 26)
      have hgN : Chg Non X3 (X3.alloc (.cells #[.slice none 0 0, .slice none 0 0, .slice none 0 0] 26)) := (Chg.refl Non X3).alloc _
      obtain ⟨X4, hX4⟩ : ∃ X, X3.alloc (.cells #[.slice none 0 0, .slice none 0 0, .slice none 0 0] 26) = X := ⟨_, rfl⟩
      obtain ⟨g3, hg3⟩ : ∃ b, X3.heap.size = b := ⟨_, rfl⟩
      rw [hX4] at hnb hgN ⊢
      rw [hg3] at hnb ⊢
      have hVs := HV.out.size
      have hge3 : V.heap.size ≤ g3 := by omega
      have d10_3 : g10 ≠ g3 := by have := blk_lt HB10.out; omega
      have HB10 := Lib.hid (blk_keep HB10.out hgN (fun e => e))
      have HW9_3 : Hid (∀ x, (Value.slice A9 c.ws.length c9).ownBlock = some x → x ≠ g3) := Lib.hid (fun x e => by have := (HO9.out.ge e).2; omega)
      have HO9 := Lib.hid (HO9.out.non hgN (fun _ _ h => h))
      have HB3 := Lib.hid hnb
      have HV := Lib.hid (HV.out.then_non hgN)
      clear hnb hgN hX4 hg3 hVs
      refine h_one 7 (by kernel_rfl) rfl (by kernel_rfl) ?_
      intro K hK
      refine wp_cp chV (.tmp 10) (.tmp 12) 24 rfl 93 (.agg #[.int .i64 0, .int .i64 0, .int .i64 0, .int .i64 0, .int .i64 0]) 5 40 Tryz.underlying24 info_clCh rfl (by omega) V.heap.size g10 HB10.out hge10 (fun _ => True) rfl A3 c.cs c3 rfl (HC.out.cs.non (HVg.out.then_non HV.out) (fun _ _ h => h)) (fun _ _ h => chV_oneC _ _ h) hlc (by omega) (fun _ _ _ _ h => h) ?_
      intro v2 X5 ho hg hv
      obtain ⟨A13, c13, rfl, h131, h132, _⟩ := ho.rd
      refine hK.out _ _ (HV.out.then_new hg (fun x e => by have e : x = g10 := e; omega)) (fun _ => ?_)
      clear hK K
      try simp only [Act.put, sA, sB, sC]
      have HW13_3 : Hid (∀ x, (Value.slice A13 c.cs.length c13).ownBlock = some x → x ≠ g3) := Lib.hid (fun x e => by have := blk_lt HB3.out; have := d10_3.symm; rcases hv x e with e | e <;> omega)
      have HB3 := Lib.hid (blk_keep HB3.out hg (fun e => d10_3.symm e))
      have HO9 := Lib.hid (HO9.out.keep hg (fun x e e2 => HW9_10.out x e e2) (fun _ _ h => h))
      have HO13 := Lib.hid ho
      have HV := Lib.hid (HV.out.then_new hg (fun x e => by have e : x = g10 := e; omega))
      clear ho hg hv
      refine hp 8 14 (.agg #[.slice A9 c.ws.length c9, .slice none 0 0, .slice A13 c.cs.length c13]) rfl HV.out ?_ (he := (fun W hW => by kernel_rfl)) (hQ := fun _ _ _ h => absurd h.1 (by simp))
      refine h_store 10 26 (.tmp 3) (.tmp 14) g3 #[.slice A9 c.ws.length c9, .slice none 0 0, .slice A13 c.cs.length c13] (by kernel_rfl) rfl (by kernel_rfl) rfl rfl rfl rfl 26 ⟨#[.slice none 0 0, .slice none 0 0, .slice none 0 0], HB3.out, rfl⟩ (by kernel_rfl) (by simp [Value.oneCell']) (fun W hg hb => HV.out.then_new hg (fun x e => by have e : x = g3 := e; omega)) ?_
      intro W hgW hbW
      have HB3 := Lib.hid hbW
      have HV := Lib.hid (HV.out.then_new hgW (fun x e => by have e : x = g3 := e; omega))
      have HO9 := Lib.hid (HO9.out.keep hgW (fun x e e2 => HW9_3.out x e e2) (fun _ _ h => h))
      have HO13 := Lib.hid (HO13.out.keep hgW (fun x e e2 => HW13_3.out x e e2) (fun _ _ h => h))
      clear hgW hbW
      refine wpAnyH_done (by kernel_rfl) ?_ _
      exact ⟨rfl, ⟨g3, g6, g10, A9, A13, c9, c13⟩, by kernel_rfl, ⟨HV.out, hge3, HB3.out, HO9.out, HO13.out⟩⟩
    ·intro K hK
     go_simp
     refine hK.out _ _ (HV.out.alloc _) (fun _ => ?_)
     clear hK K
     try simp only [Act.put, sA, sB, sC]
     have hnb := heap_alloc_new X2 (.cells #[.slice none 0 0, .slice none 0 0, .slice none 0 0] 26)
     have hgN : Chg Non X2 (X2.alloc (.cells #[.slice none 0 0, .slice none 0 0, .slice none 0 0] 26)) := (Chg.refl Non X2).alloc _
     obtain ⟨X3, hX3⟩ : ∃ X, X2.alloc (.cells #[.slice none 0 0, .slice none 0 0, .slice none 0 0] 26) = X := ⟨_, rfl⟩
     obtain ⟨g3, hg3⟩ : ∃ b, X2.heap.size = b := ⟨_, rfl⟩
     rw [hX3] at hnb hgN ⊢
     rw [hg3] at hnb ⊢
     have hVs := HV.out.size
     have hge3 : V.heap.size ≤ g3 := by omega
     have d10_3 : g10 ≠ g3 := by have := blk_lt HB10.out; omega
     have HB10 := Lib.hid (blk_keep HB10.out hgN (fun e => e))
     have d6_3 : g6 ≠ g3 := by have := blk_lt HB6.out; omega
     have HB6 := Lib.hid (blk_keep HB6.out hgN (fun e => e))
     have HB3 := Lib.hid hnb
     have HV := Lib.hid (HV.out.then_non hgN)
     clear hnb hgN hX3 hg3 hVs
     refine h_one 3 (by kernel_rfl) rfl (by kernel_rfl) ?_
     intro K hK
     refine wp_cp winV (.tmp 6) (.tmp 8) 22 rfl 49 (.agg #[.int .i64 0, .int .i64 0]) 2 16 Tryz.underlying22 info_clWin rfl (by omega) V.heap.size g6 HB6.out hge6 (fun _ => True) rfl A1 c.ws c1 rfl (HC.out.ws.non (HVg.out.then_non HV.out) (fun _ _ h => h)) (fun _ _ h => winV_oneC _ _ h) hlw (by omega) (fun _ _ _ _ h => h) ?_
     intro v2 X4 ho hg hv
     obtain ⟨A9, c9, rfl, h91, h92, _⟩ := ho.rd
     refine hK.out _ _ (HV.out.then_new hg (fun x e => by have e : x = g6 := e; omega)) (fun _ => ?_)
     clear hK K
     try simp only [Act.put, sA, sB, sC]
     have HW9_10 : Hid (∀ x, (Value.slice A9 c.ws.length c9).ownBlock = some x → x ≠ g10) := Lib.hid (fun x e => by have := blk_lt HB10.out; have := d10_6; rcases hv x e with e | e <;> omega)
     have HB10 := Lib.hid (blk_keep HB10.out hg (fun e => d10_6 e))
     have HW9_3 : Hid (∀ x, (Value.slice A9 c.ws.length c9).ownBlock = some x → x ≠ g3) := Lib.hid (fun x e => by have := blk_lt HB3.out; have := d6_3.symm; rcases hv x e with e | e <;> omega)
     have HB3 := Lib.hid (blk_keep HB3.out hg (fun e => d6_3.symm e))
     have HO9 := Lib.hid ho
     have HV := Lib.hid (HV.out.then_new hg (fun x e => by have e : x = g6 := e; omega))
     clear ho hg hv
     refine h_one 7 (by kernel_rfl) rfl (by kernel_rfl) ?_
     intro K hK
     refine wp_cp chV (.tmp 10) (.tmp 12) 24 rfl 93 (.agg #[.int .i64 0, .int .i64 0, .int .i64 0, .int .i64 0, .int .i64 0]) 5 40 Tryz.underlying24 info_clCh rfl (by omega) V.heap.size g10 HB10.out hge10 (fun _ => True) rfl A3 c.cs c3 rfl (HC.out.cs.non (HVg.out.then_non HV.out) (fun _ _ h => h)) (fun _ _ h => chV_oneC _ _ h) hlc (by omega) (fun _ _ _ _ h => h) ?_
     intro v2 X5 ho hg hv
     obtain ⟨A13, c13, rfl, h131, h132, _⟩ := ho.rd
     refine hK.out _ _ (HV.out.then_new hg (fun x e => by have e : x = g10 := e; omega)) (fun _ => ?_)
     clear hK K
     try simp only [Act.put, sA, sB, sC]
     have HW13_3 : Hid (∀ x, (Value.slice A13 c.cs.length c13).ownBlock = some x → x ≠ g3) := Lib.hid (fun x e => by have := blk_lt HB3.out; have := d10_3.symm; rcases hv x e with e | e <;> omega)
     have HB3 := Lib.hid (blk_keep HB3.out hg (fun e => d10_3.symm e))
     have HO9 := Lib.hid (HO9.out.keep hg (fun x e e2 => HW9_10.out x e e2) (fun _ _ h => h))
     have HO13 := Lib.hid ho
     have HV := Lib.hid (HV.out.then_new hg (fun x e => by have e : x = g10 := e; omega))
     clear ho hg hv
     refine hp 8 14 (.agg #[.slice A9 c.ws.length c9, .slice none 0 0, .slice A13 c.cs.length c13]) rfl HV.out ?_ (he := (fun W hW => by kernel_rfl)) (hQ := fun _ _ _ h => absurd h.1 (by simp))
     refine h_store 10 26 (.tmp 3) (.tmp 14) g3 #[.slice A9 c.ws.length c9, .slice none 0 0, .slice A13 c.cs.length c13] (by kernel_rfl) rfl (by kernel_rfl) rfl rfl rfl rfl 26 ⟨#[.slice none 0 0, .slice none 0 0, .slice none 0 0], HB3.out, rfl⟩ (by kernel_rfl) (by simp [Value.oneCell']) (fun W hg hb => HV.out.then_new hg (fun x e => by have e : x = g3 := e; omega)) ?_
     intro W hgW hbW
     have HB3 := Lib.hid hbW
     have HV := Lib.hid (HV.out.then_new hgW (fun x e => by have e : x = g3 := e; omega))
     have HO9 := Lib.hid (HO9.out.keep hgW (fun x e e2 => HW9_3.out x e e2) (fun _ _ h => h))
     have HO13 := Lib.hid (HO13.out.keep hgW (fun x e e2 => HW13_3.out x e e2) (fun _ _ h => h))
     clear hgW hbW
     refine wpAnyH_done (by kernel_rfl) ?_ _
     exact ⟨rfl, ⟨g3, g6, g10, A9, A13, c9, c13⟩, by kernel_rfl, ⟨HV.out, hge3, HB3.out, HO9.out, HO13.out⟩⟩
   ·intro K hK
    go_simp
    refine hK.out _ _ (HV.out.alloc _) (fun _ => ?_)
    clear hK K
    try simp only [Act.put, sA, sB, sC]
    have hnb := heap_alloc_new X1 (.cells #[.slice none 0 0, .slice none 0 0, .slice none 0 0] 26)
    have hgN : Chg Non X1 (X1.alloc (.cells #[.slice none 0 0, .slice none 0 0, .slice none 0 0] 26)) := (Chg.refl Non X1).alloc _
    obtain ⟨X2, hX2⟩ : ∃ X, X1.alloc (.cells #[.slice none 0 0, .slice none 0 0, .slice none 0 0] 26) = X := ⟨_, rfl⟩
    obtain ⟨g3, hg3⟩ : ∃ b, X1.heap.size = b := ⟨_, rfl⟩
    rw [hX2] at hnb hgN ⊢
    rw [hg3] at hnb ⊢
    have hVs := HV.out.size
    have hge3 : V.heap.size ≤ g3 := by omega
    have d10_3 : g10 ≠ g3 := by have := blk_lt HB10.out; omega
    have HB10 := Lib.hid (blk_keep HB10.out hgN (fun e => e))
    have HB3 := Lib.hid hnb
    have HV := Lib.hid (HV.out.then_non hgN)
    clear hnb hgN hX2 hg3 hVs
    refine h_one 0 (by kernel_rfl) rfl (by kernel_rfl) ?_
    intro K hK
    go_simp
    refine hK.out _ _ (HV.out.alloc _) (fun _ => ?_)
    clear hK K
    try simp only [Act.put, sA, sB, sC]
    have hnb := heap_alloc_new X2 (.cells #[] 49)
    have hgN : Chg Non X2 (X2.alloc (.cells #[] 49)) := (Chg.refl Non X2).alloc _
    obtain ⟨X3, hX3⟩ : ∃ X, X2.alloc (.cells #[] 49) = X := ⟨_, rfl⟩
    obtain ⟨g6, hg6⟩ : ∃ b, X2.heap.size = b := ⟨_, rfl⟩
    rw [hX3] at hnb hgN ⊢
    rw [hg6] at hnb ⊢
    have hVs := HV.out.size
    have hge6 : V.heap.size ≤ g6 := by omega
    have d10_6 : g10 ≠ g6 := by have := blk_lt HB10.out; omega
    have HB10 := Lib.hid (blk_keep HB10.out hgN (fun e => e))
    have d3_6 : g3 ≠ g6 := by have := blk_lt HB3.out; omega
    have HB3 := Lib.hid (blk_keep HB3.out hgN (fun e => e))
    have HB6 := Lib.hid hnb
    have HV := Lib.hid (HV.out.then_non hgN)
    clear hnb hgN hX3 hg6 hVs
    refine h_one 3 (by kernel_rfl) rfl (by kernel_rfl) ?_
    intro K hK
    refine wp_cp winV (.tmp 6) (.tmp 8) 22 rfl 49 (.agg #[.int .i64 0, .int .i64 0]) 2 16 Tryz.underlying22 info_clWin rfl (by omega) V.heap.size g6 HB6.out hge6 (fun _ => True) rfl A1 c.ws c1 rfl (HC.out.ws.non (HVg.out.then_non HV.out) (fun _ _ h => h)) (fun _ _ h => winV_oneC _ _ h) hlw (by omega) (fun _ _ _ _ h => h) ?_
    intro v2 X4 ho hg hv
    obtain ⟨A9, c9, rfl, h91, h92, _⟩ := ho.rd
    refine hK.out _ _ (HV.out.then_new hg (fun x e => by have e : x = g6 := e; omega)) (fun _ => ?_)
    clear hK K
    try simp only [Act.put, sA, sB, sC]
    have HW9_10 : Hid (∀ x, (Value.slice A9 c.ws.length c9).ownBlock = some x → x ≠ g10) := Lib.hid (fun x e => by have := blk_lt HB10.out; have := d10_6; rcases hv x e with e | e <;> omega)
    have HB10 := Lib.hid (blk_keep HB10.out hg (fun e => d10_6 e))
    have HW9_3 : Hid (∀ x, (Value.slice A9 c.ws.length c9).ownBlock = some x → x ≠ g3) := Lib.hid (fun x e => by have := blk_lt HB3.out; have := d3_6; rcases hv x e with e | e <;> omega)
    have HB3 := Lib.hid (blk_keep HB3.out hg (fun e => d3_6 e))
    have HO9 := Lib.hid ho
    have HV := Lib.hid (HV.out.then_new hg (fun x e => by have e : x = g6 := e; omega))
    clear ho hg hv
    refine h_one 7 (by kernel_rfl) rfl (by kernel_rfl) ?_
    intro K hK
    refine wp_cp chV (.tmp 10) (.tmp 12) 24 rfl 93 (.agg #[.int .i64 0, .int .i64 0, .int .i64 0, .int .i64 0, .int .i64 0]) 5 40 Tryz.underlying24 info_clCh rfl (by omega) V.heap.size g10 HB10.out hge10 (fun _ => True) rfl A3 c.cs c3 rfl (HC.out.cs.non (HVg.out.then_non HV.out) (fun _ _ h => h)) (fun _ _ h => chV_oneC _ _ h) hlc (by omega) (fun _ _ _ _ h => h) ?_
    intro v2 X5 ho hg hv
    obtain ⟨A13, c13, rfl, h131, h132, _⟩ := ho.rd
    refine hK.out _ _ (HV.out.then_new hg (fun x e => by have e : x = g10 := e; omega)) (fun _ => ?_)
    clear hK K
    try simp only [Act.put, sA, sB, sC]
    have HW13_3 : Hid (∀ x, (Value.slice A13 c.cs.length c13).ownBlock = some x → x ≠ g3) := Lib.hid (fun x e => by have := blk_lt HB3.out; have := d10_3.symm; rcases hv x e with e | e <;> omega)
    have HB3 := Lib.hid (blk_keep HB3.out hg (fun e => d10_3.symm e))
    have HO9 := Lib.hid (HO9.out.keep hg (fun x e e2 => HW9_10.out x e e2) (fun _ _ h => h))
    have HO13 := Lib.hid ho
    have HV := Lib.hid (HV.out.then_new hg (fun x e => by have e : x = g10 := e; omega))
    clear ho hg hv
    refine hp 8 14 (.agg #[.slice A9 c.ws.length c9, .slice none 0 0, .slice A13 c.cs.length c13]) rfl HV.out ?_ (he := (fun W hW => by kernel_rfl)) (hQ := fun _ _ _ h => absurd h.1 (by simp))
    refine h_store 10 26 (.tmp 3) (.tmp 14) g3 #[.slice A9 c.ws.length c9, .slice none 0 0, .slice A13 c.cs.length c13] (by kernel_rfl) rfl (by kernel_rfl) rfl rfl rfl rfl 26 ⟨#[.slice none 0 0, .slice none 0 0, .slice none 0 0], HB3.out, rfl⟩ (by kernel_rfl) (by simp [Value.oneCell']) (fun W hg hb => HV.out.then_new hg (fun x e => by have e : x = g3 := e; omega)) ?_
    intro W hgW hbW
    have HB3 := Lib.hid hbW
    have HV := Lib.hid (HV.out.then_new hgW (fun x e => by have e : x = g3 := e; omega))
    have HO9 := Lib.hid (HO9.out.keep hgW (fun x e e2 => HW9_3.out x e e2) (fun _ _ h => h))
    have HO13 := Lib.hid (HO13.out.keep hgW (fun x e e2 => HW13_3.out x e e2) (fun _ _ h => h))
    clear hgW hbW
    refine wpAnyH_done (by kernel_rfl) ?_ _
    exact ⟨rfl, ⟨g3, g6, g10, A9, A13, c9, c13⟩, by kernel_rfl, ⟨HV.out, hge3, HB3.out, HO9.out, HO13.out⟩⟩
  ·intro K hK
   go_simp
   refine hK.out _ _ (HV.out.alloc _) (fun _ => ?_)
   clear hK K
   try simp only [Act.put, sA, sB, sC]
   have hnb := heap_alloc_new V (.cells #[.slice none 0 0, .slice none 0 0, .slice none 0 0] 26)
   have hgN : Chg Non V (V.alloc (.cells #[.slice none 0 0, .slice none 0 0, .slice none 0 0] 26)) := (Chg.refl Non V).alloc _
   obtain ⟨X1, hX1⟩ : ∃ X, V.alloc (.cells #[.slice none 0 0, .slice none 0 0, .slice none 0 0] 26) = X := ⟨_, rfl⟩
   obtain ⟨g3, hg3⟩ : ∃ b, V.heap.size = b := ⟨_, rfl⟩
   rw [hX1] at hnb hgN ⊢
   rw [hg3] at hnb ⊢
   have hVs := HV.out.size
   have hge3 : V.heap.size ≤ g3 := by omega
   have HB3 := Lib.hid hnb
   have HV := Lib.hid (HV.out.then_non hgN)
   clear hnb hgN hX1 hg3 hVs
   refine h_two 0 4 (by kernel_rfl) rfl rfl (by kernel_rfl) (by kernel_rfl) ?_ ?_
   ·intro K hK
    go_simp
    refine hK.out _ _ (HV.out.alloc _) (fun _ => ?_)
    clear hK K
    try simp only [Act.put, sA, sB, sC]
    have hnb := heap_alloc_new X1 (.cells #[] 49)
    have hgN : Chg Non X1 (X1.alloc (.cells #[] 49)) := (Chg.refl Non X1).alloc _
    obtain ⟨X2, hX2⟩ : ∃ X, X1.alloc (.cells #[] 49) = X := ⟨_, rfl⟩
    obtain ⟨g6, hg6⟩ : ∃ b, X1.heap.size = b := ⟨_, rfl⟩
    rw [hX2] at hnb hgN ⊢
    rw [hg6] at hnb ⊢
    have hVs := HV.out.size
    have hge6 : V.heap.size ≤ g6 := by omega
    have d3_6 : g3 ≠ g6 := by have := blk_lt HB3.out; omega
    have HB3 := Lib.hid (blk_keep HB3.out hgN (fun e => e))
    have HB6 := Lib.hid hnb
    have HV := Lib.hid (HV.out.then_non hgN)
    clear hnb hgN hX2 hg6 hVs
    refine h_two 3 4 (by kernel_rfl) rfl rfl (by kernel_rfl) (by kernel_rfl) ?_ ?_
    ·intro K hK
     refine wp_cp winV (.tmp 6) (.tmp 8) 22 rfl 49 (.agg #[.int .i64 0, .int .i64 0]) 2 16 Tryz.underlying22 info_clWin rfl (by omega) V.heap.size g6 HB6.out hge6 (fun _ => True) rfl A1 c.ws c1 rfl (HC.out.ws.non (HVg.out.then_non HV.out) (fun _ _ h => h)) (fun _ _ h => winV_oneC _ _ h) hlw (by omega) (fun _ _ _ _ h => h) ?_
     intro v2 X3 ho hg hv
     obtain ⟨A9, c9, rfl, h91, h92, _⟩ := ho.rd
     refine hK.out _ _ (HV.out.then_new hg (fun x e => by have e : x = g6 := e; omega)) (fun _ => ?_)
     clear hK K
     try simp only [Act.put, sA, sB, sC]
     have HW9_3 : Hid (∀ x, (Value.slice A9 c.ws.length c9).ownBlock = some x → x ≠ g3) := Lib.hid (fun x e => by have := blk_lt HB3.out; have := d3_6; rcases hv x e with e | e <;> omega)
     have HB3 := Lib.hid (blk_keep HB3.out hg (fun e => d3_6 e))
     have HO9 := Lib.hid ho
     have HV := Lib.hid (HV.out.then_new hg (fun x e => by have e : x = g6 := e; omega))
     clear ho hg hv
     refine h_one 4 (by kernel_rfl) rfl (by kernel_rfl) ?_
     intro K hK
     go_simp
     refine hK.out _ _ (HV.out.alloc _) (fun _ => ?_)
     clear hK K
     try simp only [Act.put, sA, sB, sC]
     have hnb := heap_alloc_new X3 (.cells #[] 93)
     have hgN : Chg Non X3 (X3.alloc (.cells #[] 93)) := (Chg.refl Non X3).alloc _
     obtain ⟨X4, hX4⟩ : ∃ X, X3.alloc (.cells #[] 93) = X := ⟨_, rfl⟩
     obtain ⟨g10, hg10⟩ : ∃ b, X3.heap.size = b := ⟨_, rfl⟩
     rw [hX4] at hnb hgN ⊢
     rw [hg10] at hnb ⊢
     have hVs := HV.out.size
     have hge10 : V.heap.size ≤ g10 := by omega
     have d3_10 : g3 ≠ g10 := by have := blk_lt HB3.out; omega
     have HB3 := Lib.hid (blk_keep HB3.out hgN (fun e => e))
     have HW9_10 : Hid (∀ x, (Value.slice A9 c.ws.length c9).ownBlock = some x → x ≠ g10) := Lib.hid (fun x e => by have := (HO9.out.ge e).2; omega)
     have HO9 := Lib.hid (HO9.out.non hgN (fun _ _ h => h))
     have HB10 := Lib.hid hnb
     have HV := Lib.hid (HV.out.then_non hgN)
     clear hnb hgN hX4 hg10 hVs
     refine h_one 7 (by kernel_rfl) rfl (by kernel_rfl) ?_
     intro K hK
     refine wp_cp chV (.tmp 10) (.tmp 12) 24 rfl 93 (.agg #[.int .i64 0, .int .i64 0, .int .i64 0, .int .i64 0, .int .i64 0]) 5 40 Tryz.underlying24 info_clCh rfl (by omega) V.heap.size g10 HB10.out hge10 (fun _ => True) rfl A3 c.cs c3 rfl (HC.out.cs.non (HVg.out.then_non HV.out) (fun _ _ h => h)) (fun _ _ h => chV_oneC _ _ h) hlc (by omega) (fun _ _ _ _ h => h) ?_
     intro v2 X5 ho hg hv
     obtain ⟨A13, c13, rfl, h131, h132, _⟩ := ho.rd
     refine hK.out _ _ (HV.out.then_new hg (fun x e => by have e : x = g10 := e; omega)) (fun _ => ?_)
     clear hK K
     try simp only [Act.put, sA, sB, sC]
     have HW13_3 : Hid (∀ x, (Value.slice A13 c.cs.length c13).ownBlock = some x → x ≠ g3) := Lib.hid (fun x e => by have := blk_lt HB3.out; have := d3_10; rcases hv x e with e | e <;> omega)
     have HB3 := Lib.hid (blk_keep HB3.out hg (fun e => d3_10 e))
     have HO9 := Lib.hid (HO9.out.keep hg (fun x e e2 => HW9_10.out x e e2) (fun _ _ h => h))
     have HO13 := Lib.hid ho
     have HV := Lib.hid (HV.out.then_new hg (fun x e => by have e : x = g10 := e; omega))
     clear ho hg hv
     refine hp 8 14 (.agg #[.slice A9 c.ws.length c9, .slice none 0 0, .slice A13 c.cs.length c13]) rfl HV.out ?_ (he := (fun W hW => by kernel_rfl)) (hQ := fun _ _ _ h => absurd h.1 (by simp))
     refine h_store 10 26 (.tmp 3) (.tmp 14) g3 #[.slice A9 c.ws.length c9, .slice none 0 0, .slice A13 c.cs.length c13] (by kernel_rfl) rfl (by kernel_rfl) rfl rfl rfl rfl 26 ⟨#[.slice none 0 0, .slice none 0 0, .slice none 0 0], HB3.out, rfl⟩ (by kernel_rfl) (by simp [Value.oneCell']) (fun W hg hb => HV.out.then_new hg (fun x e => by have e : x = g3 := e; omega)) ?_
     intro W hgW hbW
     have HB3 := Lib.hid hbW
     have HV := Lib.hid (HV.out.then_new hgW (fun x e => by have e : x = g3 := e; omega))
     have HO9 := Lib.hid (HO9.out.keep hgW (fun x e e2 => HW9_3.out x e e2) (fun _ _ h => h))
     have HO13 := Lib.hid (HO13.out.keep hgW (fun x e e2 => HW13_3.out x e e2) (fun _ _ h => h))
     clear hgW hbW
     refine wpAnyH_done (by kernel_rfl) ?_ _
     exact ⟨rfl, ⟨g3, g6, g10, A9, A13, c9, c13⟩, by kernel_rfl, ⟨HV.out, hge3, HB3.out, HO9.out, HO13.out⟩⟩
    ·intro K hK
     go_simp
     refine hK.out _ _ (HV.out.alloc _) (fun _ => ?_)
     clear hK K
     try simp only [Act.put, sA, sB, sC]
     have hnb := heap_alloc_new X2 (.cells #[] 93)
     have hgN : Chg Non X2 (X2.alloc (.cells #[] 93)) := (Chg.refl Non X2).alloc _
     obtain ⟨X3, hX3⟩ : ∃ X, X2.alloc (.cells #[] 93) = X := ⟨_, rfl⟩
     obtain ⟨g10, hg10⟩ : ∃ b, X2.heap.size = b := ⟨_, rfl⟩
     rw [hX3] at hnb hgN ⊢
     rw [hg10] at hnb ⊢
     have hVs := HV.out.size
     have hge10 : V.heap.size ≤ g10 := by omega
     have d3_10 : g3 ≠ g10 := by have := blk_lt HB3.out; omega
     have HB3 := Lib.hid (blk_keep HB3.out hgN (fun e => e))
     have d6_10 : g6 ≠ g10 := by have := blk_lt HB6.out; omega
     have HB6 := Lib.hid (blk_keep HB6.out hgN (fun e => e))
     have HB10 := Lib.hid hnb
     have HV := Lib.hid (HV.out.then_non hgN)
     clear hnb hgN hX3 hg10 hVs
     refine h_one 3 (by kernel_rfl) rfl (by kernel_rfl) ?_
     intro K hK
     refine wp_cp winV (.tmp 6) (.tmp 8) 22 rfl 49 (.agg #[.int .i64 0, .int .i64 0]) 2 16 Tryz.underlying22 info_clWin rfl (by omega) V.heap.size g6 HB6.out hge6 (fun _ => True) rfl A1 c.ws c1 rfl (HC.out.ws.non (HVg.out.then_non HV.out) (fun _ _ h => h)) (fun _ _ h => winV_oneC _ _ h) hlw (by omega) (fun _ _ _ _ h => h) ?_
     intro v2 X4 ho hg hv
     obtain ⟨A9, c9, rfl, h91, h92, _⟩ := ho.rd
     refine hK.out _ _ (HV.out.then_new hg (fun x e => by have e : x = g6 := e; omega)) (fun _ => ?_)
     clear hK K
     try simp only [Act.put, sA, sB, sC]
     have HW9_3 : Hid (∀ x, (Value.slice A9 c.ws.length c9).ownBlock = some x → x ≠ g3) := Lib.hid (fun x e => by have := blk_lt HB3.out; have := d3_6; rcases hv x e with e | e <;> omega)
     have HB3 := Lib.hid (blk_keep HB3.out hg (fun e => d3_6 e))
     have HW9_10 : Hid (∀ x, (Value.slice A9 c.ws.length c9).ownBlock = some x → x ≠ g10) := Lib.hid (fun x e => by have := blk_lt HB10.out; have := d6_10.symm; rcases hv x e with e | e <;> omega)
     have HB10 := Lib.hid (blk_keep HB10.out hg (fun e => d6_10.symm e))
     have HO9 := Lib.hid ho
     have HV := Lib.hid (HV.out.then_new hg (fun x e => by have e : x = g6 := e; omega))
     clear ho hg hv
     refine h_one 7 (by kernel_rfl) rfl (by kernel_rfl) ?_
     intro K hK
     refine wp_cp chV (.tmp 10) (.tmp 12) 24 rfl 93 (.agg #[.int .i64 0, .int .i64 0, .int .i64 0, .int .i64 0, .int .i64 0]) 5 40 Tryz.underlying24 info_clCh rfl (by omega) V.heap.size g10 HB10.out hge10 (fun _ => True) rfl A3 c.cs c3 rfl (HC.out.cs.non (HVg.out.then_non HV.out) (fun _ _ h => h)) (fun _ _ h => chV_oneC _ _ h) hlc (by omega) (fun _ _ _ _ h => h) ?_
     intro v2 X5 ho hg hv
     obtain ⟨A13, c13, rfl, h131, h132, _⟩ := ho.rd
     refine hK.out _ _ (HV.out.then_new hg (fun x e => by have e : x = g10 := e; omega)) (fun _ => ?_)
     clear hK K
     try simp only [Act.put, sA, sB, sC]
     have HW13_3 : Hid (∀ x, (Value.slice A13 c.cs.length c13).ownBlock = some x → x ≠ g3) := Lib.hid (fun x e => by have := blk_lt HB3.out; have := d3_10; rcases hv x e with e | e <;> omega)
     have HB3 := Lib.hid (blk_keep HB3.out hg (fun e => d3_10 e))
     have HO9 := Lib.hid (HO9.out.keep hg (fun x e e2 => HW9_10.out x e e2) (fun _ _ h => h))
     have HO13 := Lib.hid ho
     have HV := Lib.hid (HV.out.then_new hg (fun x e => by have e : x = g10 := e; omega))
     clear ho hg hv
     refine hp 8 14 (.agg #[.slice A9 c.ws.length c9, .slice none 0 0, .slice A13 c.cs.length c13]) rfl HV.out ?_ (he := (fun W hW => by kernel_rfl)) (hQ := fun _ _ _ h => absurd h.1 (by simp))
     refine h_store 10 26 (.tmp 3) (.tmp 14) g3 #[.slice A9 c.ws.length c9, .slice none 0 0, .slice A13 c.cs.length c13] (by kernel_rfl) rfl (by kernel_rfl) rfl rfl rfl rfl 26 ⟨#[.slice none 0 0, .slice none 0 0, .slice none 0 0], HB3.out, rfl⟩ (by kernel_rfl) (by simp [Value.oneCell']) (fun W hg hb => HV.out.then_new hg (fun x e => by have e : x = g3 := e; omega)) ?_
     intro W hgW hbW
     have HB3 := Lib.hid hbW
     have HV := Lib.hid (HV.out.then_new hgW (fun x e => by have e : x = g3 := e; omega))
     have HO9 := Lib.hid (HO9.out.keep hgW (fun x e e2 => HW9_3.out x e e2) (fun _ _ h => h))
     have HO13 := Lib.hid (HO13.out.keep hgW (fun x e e2 => HW13_3.out x e e2) (fun _ _ h => h))
     clear hgW hbW
     refine wpAnyH_done (by kernel_rfl) ?_ _
     exact ⟨rfl, ⟨g3, g6, g10, A9, A13, c9, c13⟩, by kernel_rfl, ⟨HV.out, hge3, HB3.out, HO9.out, HO13.out⟩⟩
   ·intro K hK
    go_simp
    refine hK.out _ _ (HV.out.alloc _) (fun _ => ?_)
    clear hK K
    try simp only [Act.put, sA, sB, sC]
    have hnb := heap_alloc_new X1 (.cells #[] 93)
    have hgN : Chg Non X1 (X1.alloc (.cells #[] 93)) := (Chg.refl Non X1).alloc _
    obtain ⟨X2, hX2⟩ : ∃ X, X1.alloc (.cells #[] 93) = X := ⟨_, rfl⟩
    obtain ⟨g10, hg10⟩ : ∃ b, X1.heap.size = b := ⟨_, rfl⟩
    rw [hX2] at hnb hgN ⊢
    rw [hg10] at hnb ⊢
    have hVs := HV.out.size
    have hge10 : V.heap.size ≤ g10 := by omega
    have d3_10 : g3 ≠ g10 := by have := blk_lt HB3.out; omega
    have HB3 := Lib.hid (blk_keep HB3.out hgN (fun e => e))
    have HB10 := Lib.hid hnb
    have HV := Lib.hid (HV.out.then_non hgN)
    clear hnb hgN hX2 hg10 hVs
    refine h_one 0 (by kernel_rfl) rfl (by kernel_rfl) ?_
    intro K hK
    go_simp
    refine hK.out _ _ (HV.out.alloc _) (fun _ => ?_)
    clear hK K
    try simp only [Act.put, sA, sB, sC]
    have hnb := heap_alloc_new X2 (.cells #[] 49)
    have hgN : Chg Non X2 (X2.alloc (.cells #[] 49)) := (Chg.refl Non X2).alloc _
    obtain ⟨X3, hX3⟩ : ∃ X, X2.alloc (.cells #[] 49) = X := ⟨_, rfl⟩
    obtain ⟨g6, hg6⟩ : ∃ b, X2.heap.size = b := ⟨_, rfl⟩
    rw [hX3] at hnb hgN ⊢
    rw [hg6] at hnb ⊢
    have hVs := HV.out.size
    have hge6 : V.heap.size ≤ g6 := by omega
    have d3_6 : g3 ≠ g6 := by have := blk_lt HB3.out; omega
    have HB3 := Lib.hid (blk_keep HB3.out hgN (fun e => e))
    have d10_6 : g10 ≠ g6 := by have := blk_lt HB10.out; omega
    have HB10 := Lib.hid (blk_keep HB10.out hgN (fun e => e))
    have HB6 := Lib.hid hnb
    have HV := Lib.hid (HV.out.then_non hgN)
    clear hnb hgN hX3 hg6 hVs
    refine h_one 3 (by kernel_rfl) rfl (by kernel_rfl) ?_
    intro K hK
    refine wp_cp winV (.tmp 6) (.tmp 8) 22 rfl 49 (.agg #[.int .i64 0, .int .i64 0]) 2 16 Tryz.underlying22 info_clWin rfl (by omega) V.heap.size g6 HB6.out hge6 (fun _ => True) rfl A1 c.ws c1 rfl (HC.out.ws.non (HVg.out.then_non HV.out) (fun _ _ h => h)) (fun _ _ h => winV_oneC _ _ h) hlw (by omega) (fun _ _ _ _ h => h) ?_
    intro v2 X4 ho hg hv
    obtain ⟨A9, c9, rfl, h91, h92, _⟩ := ho.rd
    refine hK.out _ _ (HV.out.then_new hg (fun x e => by have e : x = g6 := e; omega)) (fun _ => ?_)
    clear hK K
    try simp only [Act.put, sA, sB, sC]
    have HW9_3 : Hid (∀ x, (Value.slice A9 c.ws.length c9).ownBlock = some x → x ≠ g3) := Lib.hid (fun x e => by have := blk_lt HB3.out; have := d3_6; rcases hv x e with e | e <;> omega)
    have HB3 := Lib.hid (blk_keep HB3.out hg (fun e => d3_6 e))
    have HW9_10 : Hid (∀ x, (Value.slice A9 c.ws.length c9).ownBlock = some x → x ≠ g10) := Lib.hid (fun x e => by have := blk_lt HB10.out; have := d10_6; rcases hv x e with e | e <;> omega)
    have HB10 := Lib.hid (blk_keep HB10.out hg (fun e => d10_6 e))
    have HO9 := Lib.hid ho
    have HV := Lib.hid (HV.out.then_new hg (fun x e => by have e : x = g6 := e; omega))
    clear ho hg hv
    refine h_one 7 (by kernel_rfl) rfl (by kernel_rfl) ?_
    intro K hK
    refine wp_cp chV (.tmp 10) (.tmp 12) 24 rfl 93 (.agg #[.int .i64 0, .int .i64 0, .int .i64 0, .int .i64 0, .int .i64 0]) 5 40 Tryz.underlying24 info_clCh rfl (by omega) V.heap.size g10 HB10.out hge10 (fun _ => True) rfl A3 c.cs c3 rfl (HC.out.cs.non (HVg.out.then_non HV.out) (fun _ _ h => h)) (fun _ _ h => chV_oneC _ _ h) hlc (by omega) (fun _ _ _ _ h => h) ?_
    intro v2 X5 ho hg hv
    obtain ⟨A13, c13, rfl, h131, h132, _⟩ := ho.rd
    refine hK.out _ _ (HV.out.then_new hg (fun x e => by have e : x = g10 := e; omega)) (fun _ => ?_)
    clear hK K
    try simp only [Act.put, sA, sB, sC]
    have HW13_3 : Hid (∀ x, (Value.slice A13 c.cs.length c13).ownBlock = some x → x ≠ g3) := Lib.hid (fun x e => by have := blk_lt HB3.out; have := d3_10; rcases hv x e with e | e <;> omega)
    have HB3 := Lib.hid (blk_keep HB3.out hg (fun e => d3_10 e))
    have HO9 := Lib.hid (HO9.out.keep hg (fun x e e2 => HW9_10.out x e e2) (fun _ _ h => h))
    have HO13 := Lib.hid ho
    have HV := Lib.hid (HV.out.then_new hg (fun x e => by have e : x = g10 := e; omega))
    clear ho hg hv
    refine hp 8 14 (.agg #[.slice A9 c.ws.length c9, .slice none 0 0, .slice A13 c.cs.length c13]) rfl HV.out ?_ (he := (fun W hW => by kernel_rfl)) (hQ := fun _ _ _ h => absurd h.1 (by simp))
    refine h_store 10 26 (.tmp 3) (.tmp 14) g3 #[.slice A9 c.ws.length c9, .slice none 0 0, .slice A13 c.cs.length c13] (by kernel_rfl) rfl (by kernel_rfl) rfl rfl rfl rfl 26 ⟨#[.slice none 0 0, .slice none 0 0, .slice none 0 0], HB3.out, rfl⟩ (by kernel_rfl) (by simp [Value.oneCell']) (fun W hg hb => HV.out.then_new hg (fun x e => by have e : x = g3 := e; omega)) ?_
    intro W hgW hbW
    have HB3 := Lib.hid hbW
    have HV := Lib.hid (HV.out.then_new hgW (fun x e => by have e : x = g3 := e; omega))
    have HO9 := Lib.hid (HO9.out.keep hgW (fun x e e2 => HW9_3.out x e e2) (fun _ _ h => h))
    have HO13 := Lib.hid (HO13.out.keep hgW (fun x e e2 => HW13_3.out x e e2) (fun _ _ h => h))
    clear hgW hbW
    refine wpAnyH_done (by kernel_rfl) ?_ _
    exact ⟨rfl, ⟨g3, g6, g10, A9, A13, c9, c13⟩, by kernel_rfl, ⟨HV.out, hge3, HB3.out, HO9.out, HO13.out⟩⟩
 rintro ⟨g3, g6, g10, A9, A13, c9, c13⟩ V1 hR
 simp only [Act.put, sA, sB, sC]
 obtain ⟨hchg, hge3, hout, hws, hcs⟩ := hR
 simp only at hge3 hout hws hcs
 have HG1 := Lib.hid (HVg.out.then_non hchg)
 have HB1 := Lib.hid (blk_keep HB1.out hchg (fun e => e))
 have HB2 := Lib.hid (blk_keep HB2.out hchg (fun e => e))
 obtain ⟨A9', c9', e9, w1, w2, w3⟩ := hws.rd
 obtain ⟨rfl, _, rfl⟩ : A9 = A9' ∧ True ∧ c9 = c9' := by injection e9 with e1 e2 e3; exact ⟨e1, trivial, e3⟩
 obtain ⟨A13', c13', e13, z1, z2, z3⟩ := hcs.rd
 obtain ⟨rfl, _, rfl⟩ : A13 = A13' ∧ True ∧ c13 = c13' := by injection e13 with e1 e2 e3; exact ⟨e1, trivial, e3⟩
 have hne : ∀ {α : Type} {R : World → α → List Value → Prop} {B sz : Nat} {e : TypeId} {v : Value} {l : List α} {cs : Array Value}, OwnL R B e sz V1 v l → V1.heap[g3]? = some (.cells cs 26 (0, 0)) → e ≠ 26 → ∀ g, v.ownBlock = some g → g ≠ g3 := by
  intro α R B sz e v l cs ho hout he g e1 e2
  subst e2
  obtain ⟨xss, ⟨_, hx⟩, _⟩ := ho
  rcases hx with ⟨h0, _⟩ | ⟨g', cap, cur, e3, _, hb, _⟩
  ·rw [h0] at e1; cases e1
  ·rw [e3] at e1
   injection e1 with e1
   subst e1
   rw [hout] at hb
   injection hb with hb
   injection hb with _ hb _
   exact he hb.symm
 have HW9 : Hid (RdL winV (fun b => b ≠ g3 ∧ b ≠ g + 1 ∧ w.heap.size ≤ b ∧ b < V1.heap.size) 2 V1 A9 c.ws) := Lib.hid (w3.mono (fun b e => ⟨hne hws hout (by decide) b e, by have := (hws.ge e).1; have : U.drew.heap.size = U.heap.size := rfl; omega, by have := (hws.ge e).1; have : U.drew.heap.size = U.heap.size := rfl; omega, (hws.ge e).2⟩) (fun _ _ _ h => h))
 have HW13 : Hid (RdL chV (fun b => b ≠ g3 ∧ b ≠ g + 1 ∧ w.heap.size ≤ b ∧ b < V1.heap.size) 5 V1 A13 c.cs) := Lib.hid (z3.mono (fun b e => ⟨hne hcs hout (by decide) b e, by have := (hcs.ge e).1; have : U.drew.heap.size = U.heap.size := rfl; omega, by have := (hcs.ge e).1; have : U.drew.heap.size = U.heap.size := rfl; omega, (hcs.ge e).2⟩) (fun _ _ _ h => h))
 have hgw : w.heap.size ≤ g3 := by have := HVg.out.size; omega
 have hg3g : g ≠ g3 ∧ g + 1 ≠ g3 := by have : U.drew.heap.size = U.heap.size := rfl; omega
 have HOut := Lib.hid hout
 have HIl := Lib.hid hil
 have hg3l := blk_lt hout
 clear hchg hws hcs w3 z3 e9 e13 hne hout hil q0 q2 HVg
 go_wp2_with fail
 go_loopw [4] (fun iv wr => ∃ (k : Nat) (lv : Value), k ≤ c.ps.length ∧ iv = .int .i64 k ∧ Hid (OwnL (pnV (Exc V1.heap.size lv)) V1.heap.size 83 5 wr lv (c.ps.take k)) ∧ Hid (Chg (fun b => b = g3) V1 wr) ∧ Hid (wr.heap[g3]? = some (.cells #[.slice A9 c.ws.length c9, lv, .slice A13 c.cs.length c13] 26 (0, 0)))) (fun iv _ => c.ps.length - (intOf iv).toNat)
 case atStart => exact ⟨0, _, Nat.zero_le _, rfl, Lib.hid (OwnL.nil _ _ _ _ _), Lib.hid (Chg.refl _ _), HOut⟩
 case round =>
  clear HOut
  obtain ⟨k, lv, hk, rfl, HO, HG, HB⟩ := hrel
  have HGu := Lib.hid (HG1.out.then_new HG.out (fun x e => by have e : x = g3 := e; omega))
  have HBx := Lib.hid (blk_keep HB1.out HG.out hg3g.1)
  have q1 := blk_cell HBx.out 1 (v := .slice A2 c.ps.length c2) rfl
  have hlx := blk_lt HBx.out
  have hlo := blk_lt HB.out
  by_cases hlt : k < c.ps.length
  ·have hltd : decide ((k : Int) < (c.ps.length : Int)) = true := by simpa using hlt
   obtain ⟨a, ha⟩ : ∃ a, c.ps[k]? = some a := ⟨_, List.getElem?_eq_getElem hlt⟩
   obtain ⟨b, o, m, rfl, k0, k1, k2, k3, k4, hbm, i1, i2, i3, hil2, hbl⟩ := pn_at HC.out.ps HGu.out ha
   have him := HIl.out a (List.mem_of_getElem? ha)
   have HS : Hid (c.ps.take (k + 1) = c.ps.take k ++ [a]) := Lib.hid (by
     obtain ⟨hk, rfl⟩ := List.getElem?_eq_some_iff.1 ha
     exact List.take_succ_eq_append_getElem hk)
   clear ha
   obtain ⟨x, y, z, kp, im⟩ := a
   simp only at k0 k1 k2 k3 k4 hbm i1 i2 i3 hil2 him
   obtain ⟨Ai, ci, rfl, _, _, hrm, _⟩ := hbm
   have HRm := Lib.hid hrm
   have HIi := Lib.hid (And.intro i1 (And.intro i2 i3))
   clear hrm i1 i2 i3
   go_wp2_with (refine sel none (.store 83 (.tmp 5) (.tmp 26)) ?_; refine Vm_stop ?_)
   refine HoleV.mk ?_
   refine wpList_store_rowA rfl 83 (.tmp 5) (.tmp 26) rfl wr.heap.size #[.int .i64 x, .int .i64 y, .int .i64 z, .bool kp, .slice Ai im.length ci] rfl rfl 83 _ (blk_new _ _) (by kernel_rfl) rfl (by simp [Value.oneCell']) ?_
   intro W2 hgW hbW
   have huW : Chg Non wr W2 := ((Chg.refl Non wr).alloc _).then_new hgW (fun x e => by omega)
   obtain ⟨gp, hgp⟩ : ∃ gp, wr.heap.size = gp := ⟨_, rfl⟩
   have hwz := huW.size
   rw [hgp] at hbW hwz ⊢
   have HBp := Lib.hid hbW
   have p4 := blk_cell hbW 4 (v := .slice Ai im.length ci) rfl
   have hlp2 := blk_lt hbW
   have HGa := Lib.hid huW
   clear huW hgW hbW k0 k1 k2 k3 k4
   go_wp2_with (refine sel (some 30) (.call _) ?_; refine Vm_stop ?_)
   refine HoleV.mk ?_
   have hb5 := blk_new W2 (.cells #[] 5)
   have hgb : Chg Non W2 (W2.alloc (.cells #[] 5)) := (Chg.refl Non W2).alloc _
   refine wpList_plain rfl (fun K hK => ?_)
   refine wp_cp byV (.tmp 27) (.tmp 29) 50 rfl 5 (.int .u8 0) 1 1 Tryz.underlying50 info_uV rfl (by omega) W2.heap.size W2.heap.size hb5 (Nat.le_refl _) (fun _ => True) rfl Ai im ci rfl (rdl_of ((HRm.out.non HGa.out).non hgb)) (fun _ _ h u hu => by subst h; simp at hu; subst hu; rfl) (by omega) (by omega) (fun _ _ _ _ h => h) ?_
   intro v3 W3 ho hg3 hv3
   refine hK _ _ ?_
   clear hK K
   obtain ⟨A5, c5, rfl, hc5, hm5, hr5⟩ := ho.rd
   have hW23 : Chg Non W2 W3 := hgb.then_new hg3 (fun x e => by have e : x = W2.heap.size := e; omega)
   have HM : Hid (BytesV (fun b => gp < b) W3 im (.slice A5 im.length c5)) := Lib.hid ⟨A5, c5, rfl, hc5, hm5, rd_of hr5, fun b o e hl => by
     obtain ⟨b', o', e', hI, _⟩ := hr5.at_ (List.length_pos_iff.2 hl)
     rw [e] at e'
     injection e' with e'
     injection e' with e1 _ _
     subst e1
     have := (ho.ge hI).1
     omega⟩
   have HBp3 := Lib.hid (blk_keep HBp.out hW23 (fun e => e))
   have HGb := Lib.hid (HGa.out.then_non hW23)
   have hz3 := hW23.size
   clear hb5 hgb ho hg3 hv3 hr5 hc5 hm5 p4 hW23
   have p4 := blk_cell HBp3.out 4 (v := .slice Ai im.length ci) rfl
   have pf := blk_free HBp3.out 4
   have hlp3 := blk_lt HBp3.out
   go_wp2_with (refine sel (some 33) (.load _ (.tmp 32)) ?_; refine Vm_stop ?_)
   refine HoleV.mk ?_
   have hst4 := chg_set W3 gp 4 (.slice A5 im.length c5)
   have hbp4 := blk_set 4 (.slice A5 im.length c5) HBp3.out
   have HM4 := Lib.hid (HM.out.keep hst4 (fun b (e : gp < b) (e2 : b = gp) => by omega))
   have hgb4 : Chg Non wr (W3.setCell ⟨gp, 4, none⟩ (.slice A5 im.length c5)) := HGb.out.then_new hst4 (fun x e => by have e : x = gp := e; omega)
   obtain ⟨W4, hW4⟩ : ∃ W4, W3.setCell ⟨gp, 4, none⟩ (.slice A5 im.length c5) = W4 := ⟨_, rfl⟩
   rw [hW4] at hst4 hbp4 HM4 hgb4 ⊢
   have HBp4 : Hid (W4.heap[gp]? = some (.cells #[.int .i64 x, .int .i64 y, .int .i64 z, .bool kp, .slice A5 im.length c5] 83 (0, 0))) := Lib.hid hbp4
   have HGw := Lib.hid hgb4
   have HB4 := Lib.hid (blk_keep HB.out hgb4 (fun e => e))
   have f1 := blk_cell HB4.out 1 (v := lv) rfl
   have hl4 := blk_lt HB4.out
   have hlp4 := blk_lt HBp4.out
   have m0 := blk_cell HBp4.out 0 (v := .int .i64 x) rfl
   have m1 := blk_cell HBp4.out 1 (v := .int .i64 y) rfl
   have m2 := blk_cell HBp4.out 2 (v := .int .i64 z) rfl
   have m3 := blk_cell HBp4.out 3 (v := .bool kp) rfl
   have m4 := blk_cell HBp4.out 4 (v := .slice A5 im.length c5) rfl
   have hz4 := hgb4.size
   have HO4 := Lib.hid (HO.out.non hgb4 (fun a vs h => h.keep hgb4 (fun _ _ e => e)))
   have hz5 : V1.heap.size ≤ wr.heap.size := HG.out.size
   have HMb : Hid (BytesV (fun b => Exc V1.heap.size lv b ∧ b < W4.heap.size) W4 im (.slice A5 im.length c5)) := Lib.hid ((HM4.out.bound).mono (fun b e => ⟨⟨by have := e.1; omega, fun e2 => by have := (HO.out.ge e2).2; have := e.1; omega⟩, e.2⟩))
   clear hst4 hbp4 hgb4 hW4 HM HM4 HBp HBp3 p4 pf hlp2 hlp3 hz3 HGa HGb
   go_wp2_with (refine sel (some 36) (.call _) ?_; refine Vm_stop ?_)
   refine HoleV.mk ?_
   refine wpList_snocL (pnV (fun b => Exc V1.heap.size lv b ∧ b < W4.heap.size)) rfl (.tmp 33) (.tmp 35) 23 rfl V1.heap.size 83 _ 5 56 Tryz.underlying23 info_clPn rfl (by omega) lv (c.ps.take k) rfl ((HO4.out.mono (R' := pnV (fun b => Exc V1.heap.size lv b ∧ b < W4.heap.size)) (fun _ _ h => by obtain ⟨m, h1, h2, h3⟩ := h; exact ⟨m, h1, h2.bound, h3⟩)).non ((Chg.refl Non W4).alloc _) (fun _ _ h => h.keep ((Chg.refl Non W4).alloc _) (fun _ _ e => e))) W4.heap.size ⟨x, y, z, kp, im⟩ #[.int .i64 x, .int .i64 y, .int .i64 z, .bool kp, .slice A5 im.length c5] 83 rfl (blk_new _ _) rfl (by simp [Value.oneCell']) (by rw [List.length_take]; omega) (by omega) (by simp; omega) (fun _ _ _ hg h => h.keep hg (fun b e => e.1.2)) ⟨_, rfl, HMb.out.non ((Chg.refl Non W4).alloc _), HIi.out, hil2⟩ ?_
   intro v2 w2 ho hg hv
   have HO2 : Hid (OwnL (pnV (Exc V1.heap.size v2)) V1.heap.size 83 5 w2 v2 (c.ps.take (k + 1))) := Lib.hid (by
     rw [HS.out]
     refine ho.mono (fun a vs h => h.mono (fun b e => ⟨e.1.1, fun e2 => ?_⟩))
     rcases hv b e2 with e3 | e3
     · exact e.1.2 e3
     · have := e.2; simp at e3; omega)
   have HG2 : Hid (Chg (fun b => b = g3) V1 w2) := Lib.hid (((HG.out.then_non HGw.out).alloc _).then_new hg (fun x e => by have := (HO4.out.ge e).1; omega))
   have HB2 := Lib.hid (blk_keep (blk_keep HB4.out ((Chg.refl Non _).alloc _) (fun e => e)) hg (fun e => by have := (HO4.out.ge e).1; omega))
   have f2 := blk_free HB2.out 1
   have f3 := blk_cell HB2.out 1 (v := lv) rfl
   obtain ⟨A6, c6, hv6, hl6, hm6, _⟩ := ho.rd
   obtain ⟨n6, hn6⟩ : ∃ q, (c.ps.take k ++ [(⟨x, y, z, kp, im⟩ : Pn)]).length = q := ⟨_, rfl⟩
   rw [hn6] at hv6
   subst hv6
   clear ho hg hv m0 m1 m2 m3 m4 f1
   go_wp2_with fail
   have hst := chg_set w2 g3 1 (.slice A6 n6 c6)
   exact ⟨⟨k + 1, _, by omega, by simp, Lib.hid (HO2.out.keep hst (fun g e e2 => by have := (HO2.out.ge e).1; have e2 : g = g3 := e2; omega) (fun a vs h => h.keep hst (fun b e e2 => by have := e.1; have e2 : b = g3 := e2; omega))), Lib.hid (HG2.out.trans_same hst), Lib.hid (blk_set 1 _ HB2.out)⟩, by simp [intOf]; omega⟩
  ·obtain rfl : k = c.ps.length := by omega
   have hltd : decide ((c.ps.length : Int) < (c.ps.length : Int)) = false := by simp
   rw [List.take_length] at HO
   obtain ⟨A6, c6, hv6, hl6, hm6, hr6⟩ := HO.out.rd
   subst hv6
   have HB2r := Lib.hid (blk_keep HB2.out HG.out hg3g.2)
   have HF9 : Hid (RdL winV (fun b => b ≠ g + 1 ∧ w.heap.size ≤ b ∧ b < V1.heap.size) 2 wr A9 c.ws) := Lib.hid ((HW9.out.keep HG.out (fun b e e2 => e.1 e2) (fun _ _ _ h => h)).mono (fun _ e => e.2) (fun _ _ _ h => h))
   have HF13 : Hid (RdL chV (fun b => b ≠ g + 1 ∧ w.heap.size ≤ b ∧ b < V1.heap.size) 5 wr A13 c.cs) := Lib.hid ((HW13.out.keep HG.out (fun b e e2 => e.1 e2) (fun _ _ _ h => h)).mono (fun _ e => e.2) (fun _ _ _ h => h))
   have hg1V : g + 1 < V1.heap.size := blk_lt HB2.out
   have o0 := blk_cell HB.out 0 (v := .slice A9 c.ws.length c9) rfl
   have o1 := blk_cell HB.out 1 (v := .slice A6 c.ps.length c6) rfl
   have o2 := blk_cell HB.out 2 (v := .slice A13 c.cs.length c13) rfl
   go_wp2_with (refine sel none (.store 26 (.tmp 2) (.tmp 38)) ?_; refine Vm_stop ?_)
   refine HoleV.mk ?_
   refine wpList_store_rowA rfl 26 (.tmp 2) (.tmp 38) rfl (g + 1) #[.slice A9 c.ws.length c9, .slice A6 c.ps.length c6, .slice A13 c.cs.length c13] rfl rfl 26 _ HB2r.out (by kernel_rfl) rfl (by simp [Value.oneCell']) ?_
   intro W5 hgW hbW
   have HGf : Hid (Chg Non w W5) := Lib.hid (HGu.out.then_new hgW (fun x e => by have e : x = g + 1 := e; omega))
   have hVw : w.heap.size ≤ V1.heap.size := HG1.out.size
   have HF5 : Hid (CpdO w W5 c A9 A6 A13 c9 c6 c13 V1.heap.size) := Lib.hid ⟨(HF9.out.keep hgW (fun b e (e2 : b = g + 1) => e.1 e2) (fun _ _ _ h => h)).mono (fun _ e => e.2) (fun _ _ _ h => h), (HF13.out.keep hgW (fun b e (e2 : b = g + 1) => e.1 e2) (fun _ _ _ h => h)).mono (fun _ e => e.2) (fun _ _ _ h => h),
     HO.out.keep hgW (fun b e (e2 : b = g + 1) => by have := (HO.out.ge e).1; omega) (fun a vs h => h.keep hgW (fun b e (e2 : b = g + 1) => by have := e.1; omega)), ⟨w1, w2⟩, ⟨hl6, hm6⟩, ⟨z1, z2⟩, hVw⟩
   go_wp2_with fail
   exact bodyPost_ret (res_c Tryz.results12 _ _ (g + 1) 26 _ (0, 0) _ rfl hbW Tryz.underlying26 rfl (by kernel_rfl)) (by kernel_rfl) ⟨_, _, _, _, _, _, _, rfl, HF5.out, HGf.out⟩
end
end Go.Proofs.YtmnaleaghfbclaaGreatDoor
