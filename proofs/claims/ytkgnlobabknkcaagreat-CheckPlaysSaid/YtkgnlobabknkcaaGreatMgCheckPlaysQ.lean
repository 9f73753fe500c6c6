/- CheckPlays, part 17 of 27: contracts of the functions that it reaches, and the laws that they need, merged and shortened (from my texts XStU, XCkI). -/
import Derived.Test.YtkgnlobabknkcaaGreatMgCheckPlaysA
import Derived.Test.YtkgnlobabknkcaaGreatMgCheckPlaysI
import Derived.Test.YtkgnlobabknkcaaGreatMgCheckPlaysN
import Derived.Test.YtkgnlobabknkcaaGreatMgCheckPlaysO
import Derived.Test.YtkgnlobabknkcaaGreatMgCheckPlaysP
namespace Go.Proofs.YtkgnlobabknkcaaGreat
set_option linter.unusedVariables false
set_option linter.unusedSimpArgs false
set_option maxHeartbeats 8000000
set_option maxRecDepth 100000
section
open Go.RowKit
theorem StaV.bds {I : Nat → Prop} {w : World} {s : Sta} {b d : Value} (h : StaV I w s b d) : ∀ p ∈ s.parts, p.Bd := by
 obtain ⟨A, c, _, _, _, hr⟩ := h.ps
 intro p hp
 obtain ⟨i, hi⟩ := List.getElem?_of_mem hp
 obtain ⟨_, _, vs, _, _, _, _, m, _, _, hb, _⟩ := hr i p hi
 exact hb
theorem OwnL.slV {α : Type} {RI : (Nat → Prop) → World → α → List Value → Prop} (hRI : Rel RI) {B B' : Nat} {e : TypeId} {sz : Nat} {w : World} {v : Value} {l : List α} (h : OwnL (RI (Exc B v)) B e sz w v l) (hB : B' ≤ B) : SlV (RI (From B')) (From B') sz w l v := by
 obtain ⟨A, c, h1, h2, h3, h4⟩ := h.rd
 exact ⟨A, c, h1, h2, h3, h4.mono (fun b e => Nat.le_trans hB (h.ge e).1) (fun a vs _ hr => hRI.mono _ _ _ _ _ (fun b hb => Nat.le_trans hB hb.1) hr)⟩
theorem StaO.keepB {T : Nat → Prop} {B B' : Nat} {w w' : World} {s : Sta} {b d : Value} (h : StaO B w s b d) (hg : Chg T w w') (hn : ∀ x, B ≤ x → ¬ T x) (hB : B' ≤ B) : StaO B' w' s b d :=
 ⟨((h.ps.keep hg (fun g e => hn g (h.ps.ge e).1) (fun a vs r => r.keep hg (fun b hb => hn b hb.1))).mono (fun _ _ r => r.mono (fun b hb => ⟨Nat.le_trans hB hb.1, hb.2⟩))).base hB,
  ((h.qs.keep hg (fun g e => hn g (h.qs.ge e).1) (fun a vs r => r.keep hg (fun b hb => hn b hb.1))).mono (fun _ _ r => r.mono (fun b hb => ⟨Nat.le_trans hB hb.1, hb.2⟩))).base hB⟩
def zStC : Array Value := #[.int .i64 0, .slice none 0 0, .slice none 0 0]
theorem parseS_def (l : List UInt8) (x1 : Int) (r1 r2 r3 : Rs) (x2 : List Pt) (x3 : List Qu) (e1 : Rs.int ⟨l, 0, false⟩ = (x1, r1)) (e2 : Rs.rows 6 Rs.pt r1 = (x2, r2)) (e3 : Rs.rows 8 Rs.qu r2 = (x3, r3)) :
  parseS l = if r3.er = 0 ∧ r3.l = [] ∧ r3.wide = false ∧ mayS ⟨x1, x2, x3⟩ = true then some ⟨x1, x2, x3⟩ else none := by
 unfold parseS Rs.sta
 simp only [e1, e2, e3]
theorem parse_core (A : Option Addr) (l : List UInt8) (c : Nat) (w : World) (hr : Rd w A l) (hl : l.length ≤ 65536) :
  Calls Tryz.prog 110 #[.slice A l.length c] w fun e w' => (∃ s b d, parseS l = some s ∧ e = .returned (.tuple #[.agg #[.int .i64 s.frames, b, d], .int .i64 0]) ∧ StaO w.heap.size w' s b d ∧ Chg Non w w') ∨
   (parseS l = none ∧ e = .returned (.tuple #[.agg zStC, .int .i64 210]) ∧ Chg Non w w') := by
 have HN := Lh (NewReader_ok A l c (w.alloc (.cells zStC 25)) (hr.non ((Chg.refl Non w).alloc _)) hl)
 have hs0 : (w.alloc (.cells zStC 25)).heap.size = w.heap.size + 1 := by simp
 rw [hs0] at HN
 have HPd := Lh (parseS_def l)
 clear hr
 go_enter Tryz.func110, Tryz.ntmps110
 go_wp2_with fail
 refine HN.out.mono ?_
 rintro e w1 ⟨rfl, hR, hg⟩
 have HZ1 := Lh (blk_keep (blk_new w (.cells zStC 25)) hg (fun e => e))
 have hR := hR.below
 obtain ⟨S, hS⟩ : ∃ S, w1.heap.size = S := ⟨_, rfl⟩
 rw [hS] at hR
 have hpS : w.heap.size + 1 < S := by rw [← hS]; exact hR.lt
 obtain ⟨p, hp⟩ : ∃ p, w.heap.size + 1 = p := ⟨_, rfl⟩
 rw [hp] at hR hpS ⊢
 obtain ⟨W2, hW2⟩ : ∃ W2, w1.alloc (.cells #[.pointer (some ⟨p, 0, none⟩), .bool false] 203) = W2 := ⟨_, rfl⟩
 have hg12 : Chg Non w1 W2 := by rw [← hW2]; exact (Chg.refl Non w1).alloc _
 have hsr : IsSR S W2 S p ⟨l, 0, false⟩ := by
  refine ⟨hR.non hg12, ?_, hpS, Nat.le_refl _⟩
  rw [← hW2, ← hS]
  exact blk_new _ _
 have HG2 : Hid (Chg Non w W2) := Lh ((((Chg.refl Non w).alloc _).then_non hg).then_non hg12)
 have HZ2 := Lh (blk_keep HZ1.out hg12 (fun e => e))
 have H1 := Lh (show Calls Tryz.prog 142 #[.pointer (some ⟨p, 0, none⟩)] W2 fun e w' => e = .returned (.int .i64 (Rs.int ⟨l, 0, false⟩).1) ∧ IsSR S w' S p (Rs.int ⟨l, 0, false⟩).2 ∧ Chg (At p) W2 w' from
   (RInt_B S p l 0 W2 hsr.rb).mono (fun e w' h => ⟨h.1, hsr.step h.2.1 h.2.2, h.2.2⟩))
 obtain ⟨⟨x1, r1⟩, hr1⟩ : ∃ y, Rs.int ⟨l, 0, false⟩ = y := ⟨_, rfl⟩
 have hx1 : I64 (Rs.int ⟨l, 0, false⟩).1 := rdInt_bd l 0
 rw [hr1] at H1 hx1
 have HR1 := Lh hr1
 simp only at H1 hx1
 have HX1 := Lh hx1
 have HEq := Lh (And.intro hW2 hS)
 have hlS : S < W2.heap.size := hsr.lt
 have hwp : w.heap.size < p := by omega
 clear hR hg hr1 hx1 hg12 hsr HN hs0 HZ1 hp hW2 hS
 go_wp2_with fail
 rw [HEq.out.1, HEq.out.2]
 refine H1.out.mono ?_
 rintro e w3 ⟨rfl, hs, hg⟩
 have HS3 := Lh hs
 have HG3 := Lh (HG2.out.then_new hg (fun x e => by have e : x = p := e; omega))
 have HZ3 := Lh (blk_keep HZ2.out hg (fun e => by have e : w.heap.size = p := e; omega))
 have hl3 := HS3.out.lt
 clear hs hg HZ2 HG2 H1 HEq hlS
 -- the parts
 obtain ⟨W4, hW4⟩ : ∃ W4, w3.alloc (.cells #[.int .i64 x1, .slice none 0 0, .slice none 0 0] 25) = W4 := ⟨_, rfl⟩
 have hg34 : Chg Non w3 W4 := by rw [← hW4]; exact (Chg.refl Non w3).alloc _
 have HB4 : Hid (W4.heap[w3.heap.size]? = some (.cells #[.int .i64 x1, .slice none 0 0, .slice none 0 0] 25 (0, 0))) := Lh (by rw [← hW4]; exact blk_new _ _)
 have HS4 := Lh (HS3.out.non hg34)
 have HZ4 := Lh (blk_keep HZ3.out hg34 (fun e => e))
 have HG4 := Lh (HG3.out.then_non hg34)
 have H2 := Lh (readPart ptV relPt S S p 6 (by omega) Rs.pt _ (part_gets S S p) r1 W4 HS4.out)
 obtain ⟨⟨x2, r2⟩, hr2⟩ : ∃ y, Rs.rows 6 Rs.pt r1 = y := ⟨_, rfl⟩
 have hx2 := rows_len 6 Rs.pt r1
 rw [hr2] at H2 hx2
 simp only at H2 hx2
 have HR2 := Lh hr2
 have HW4 := Lh hW4
 clear hr2 hg34 hW4 HZ3 HG3 HS3
 go_wp2_with fail
 rw [HW4.out]
 refine H2.out.mono ?_
 rintro e w5 ⟨v2, rfl, ho, hs, hg⟩
 obtain ⟨b5, hb5⟩ : ∃ b, w3.heap.size = b := ⟨_, rfl⟩
 rw [hb5] at hl3 HB4 ⊢
 have hb5l : b5 < W4.heap.size := blk_lt HB4.out
 have hB5 := blk_keep HB4.out hg (fun e => by rcases e with e | e <;> omega)
 have HZ5 := Lh (blk_keep HZ4.out hg (fun e => by rcases e with e | e <;> omega))
 have HG5 := Lh (HG4.out.then_new hg (fun x e => by rcases e with e | e <;> omega))
 obtain ⟨A2, c2, rfl, hc2, hm2, _⟩ := ho.rd
 have hst := setAt w5 b5 1 (.slice A2 x2.length c2)
 have f5 := blk_free hB5 1
 have c5 := blk_cell hB5 1 (v := .slice none 0 0) rfl
 have hl5 := blk_lt hB5
 obtain ⟨W6, hW6⟩ : ∃ W6, w5.setCell ⟨b5, 1, none⟩ (.slice A2 x2.length c2) = W6 := ⟨_, rfl⟩
 have HB6 : Hid (W6.heap[b5]? = some (.cells #[.int .i64 x1, .slice A2 x2.length c2, .slice none 0 0] 25 (0, 0))) := Lh (by rw [← hW6]; exact blk_set 1 _ hB5)
 rw [hW6] at hst
 have HS6 := Lh (hs.keep hst (fun b hb e => by have e : b = b5 := e; omega) (fun e => by have e : S = b5 := e; omega))
 have HZ6 := Lh (blk_keep HZ5.out hst (fun e => by have e : w.heap.size = b5 := e; omega))
 have HG6 := Lh (HG5.out.then_new hst (fun x e => by have e : x = b5 := e; omega))
 have HO6 := Lh ((ho.mono (fun _ _ h => h)).keep hst (fun g e e2 => by have := (ho.ge e).1; have e2 : g = b5 := e2; omega) (fun a vs h => h.keep hst (fun b hb e2 => by have := hb.1; have e2 : b = b5 := e2; omega)))
 have H3 := Lh (readQueue quV relQu S S p 8 (by omega) Rs.qu _ (queue_gets S S p) r2 W6 HS6.out)
 obtain ⟨⟨x3, r3⟩, hr3⟩ : ∃ y, Rs.rows 8 Rs.qu r2 = y := ⟨_, rfl⟩
 have hx3 := rows_len 8 Rs.qu r2
 rw [hr3] at H3 hx3
 simp only at H3 hx3
 have HR3 := Lh hr3
 have HW6 := Lh hW6
 have hl6 : b5 < W6.heap.size := blk_lt HB6.out
 clear hr3 hst hW6 HZ5 HG5 hs hg ho hB5 H2 HB4 hb5 HS4 HZ4
 go_wp2_with fail
 rw [HW6.out]
 refine H3.out.mono ?_
 rintro e w7 ⟨v3, rfl, ho, hs, hg⟩
--END--
 obtain ⟨A3, c3, rfl, hc3, hm3, _⟩ := ho.rd
 have hB7 := blk_keep HB6.out hg (fun e => by rcases e with e | e <;> omega)
 have hst := setAt w7 b5 2 (.slice A3 x3.length c3)
 have f7 := blk_free hB7 2
 have c7 := blk_cell hB7 2 (v := .slice none 0 0) rfl
 have hl7 := blk_lt hB7
 obtain ⟨W8, hW8⟩ : ∃ W8, w7.setCell ⟨b5, 2, none⟩ (.slice A3 x3.length c3) = W8 := ⟨_, rfl⟩
 have HB : Hid (W8.heap[b5]? = some (.cells #[.int .i64 x1, .slice A2 x2.length c2, .slice A3 x3.length c3] 25 (0, 0))) := Lh (by rw [← hW8]; exact blk_set 2 _ hB7)
 have hwl : w.heap.size ≤ W4.heap.size := HG4.out.size
 have hw6 : w.heap.size ≤ W6.heap.size := HG6.out.size
 have hs7 := hs.keep hst (fun b hb e => by have e : b = b5 := e; omega) (fun e => by have e : S = b5 := e; omega)
 have hz7 := blk_keep (blk_keep HZ6.out hg (fun e => by rcases e with e | e <;> omega)) hst (fun e => by have e : w.heap.size = b5 := e; omega)
 have hg7 := (HG6.out.then_new hg (fun x e => by rcases e with e | e <;> omega)).then_new hst (fun x e => by have e : x = b5 := e; omega)
 have hp7 : SlV (ptV (From w.heap.size)) (From w.heap.size) 14 (w7.setCell ⟨b5, 2, none⟩ (.slice A3 x3.length c3)) x2 (.slice A2 x2.length c2) :=
  OwnL.slV relPt ((HO6.out.keep hg (fun g e e2 => by have := (HO6.out.ge e).1; rcases e2 with e2 | e2 <;> omega) (fun a vs h => h.keep hg (fun b hb e2 => by have := hb.1; rcases e2 with e2 | e2 <;> omega))).keep hst (fun g e e2 => by have := (HO6.out.ge e).1; have e2 : g = b5 := e2; omega) (fun a vs h => h.keep hst (fun b hb e2 => by have := hb.1; have e2 : b = b5 := e2; omega))) hwl
 have hq7 : SlV (quV (From w.heap.size)) (From w.heap.size) 6 (w7.setCell ⟨b5, 2, none⟩ (.slice A3 x3.length c3)) x3 (.slice A3 x3.length c3) :=
  OwnL.slV relQu (ho.keep hst (fun g e e2 => by have := (ho.ge e).1; have e2 : g = b5 := e2; omega) (fun a vs h => h.keep hst (fun b hb e2 => by have := hb.1; have e2 : b = b5 := e2; omega))) hw6
 rw [hW8] at hs7 hz7 hg7 hp7 hq7
 have HS := Lh hs7
 obtain ⟨n0, _, _⟩ := hs.cells
 have hl10 := hs.lt
 have HZ := Lh hz7
 have HG := Lh hg7
 have HSV : Hid (StaV (From w.heap.size) W8 ⟨x1, x2, x3⟩ (.slice A2 x2.length c2) (.slice A3 x3.length c3)) := Lh ⟨hp7, hq7⟩
 have hPd := HPd.out x1 r1 r2 r3 x2 x3 HR1.out HR2.out HR3.out
 have HEn := Lh (End_any p r3.l r3.er W8 hs7.rb.isR)
 have HW8 := Lh hW8
 obtain ⟨k0, k1, _⟩ := hs7.cells
 have d0 := blk_cell HB.out 0 (v := .int .i64 x1) rfl
 have d1 := blk_cell HB.out 1 (v := .slice A2 x2.length c2) rfl
 have d2 := blk_cell HB.out 2 (v := .slice A3 x3.length c3) rfl
 have hl8 := blk_lt HB.out
 have hl9 := hs7.lt
 clear hs7 hz7 hg7 hp7 hq7 hst hW8 ho hs hg hB7 HO6 HS6 HZ6 HG6 HB6 HPd HG4 HW4 HW6 H3
 obtain ⟨er, her⟩ : ∃ er, (if r3.er = 0 ∧ r3.l ≠ [] then (50 : Int) else r3.er) = er := ⟨_, rfl⟩
 rw [her] at HEn
 obtain ⟨b2, hb2⟩ : ∃ b, w.heap.size = b := ⟨_, rfl⟩
 rw [hb2] at HZ
 have HB2 := Lh hb2
 by_cases h1 : er = 0
 case neg =>
  have hnone : parseS l = none := by
   rw [hPd, if_neg]
   rintro ⟨e1, e2, _⟩
   rw [← her, if_neg (by rintro ⟨_, h⟩; exact h e2)] at h1
   exact h1 e1
  have de : (er != 0) = true := by simpa using h1
  have HNo := Lh hnone
  clear h1 her hPd hnone
  go_wp2_with fail
  rw [HW8.out]
  refine HEn.out.mono ?_
  rintro e u ⟨rfl, rfl⟩
  go_wp2_with (refine sel none (.store 25 (.tmp 2) (.tmp 43)) ?_; refine wpList_store_rowA rfl 25 (.tmp 2) (.tmp 43) rfl b2 zStC rfl rfl 25 zStC HZ.out (by kernel_rfl) rfl (by kernel_rfl) ?_; intro W9 hgW9 hbW9)
  exact bodyPost_ret (res_ct Tryz.results110 _ _ b2 25 _ (0, 0) _ (.int .i64 210) rfl rfl hbW9 Tryz.underlying25 rfl (by kernel_rfl)) rfl (.inr ⟨HNo.out, rfl, HG.out.then_new hgW9 (fun x e => by have e : x = b2 := e; omega)⟩)
 have hl0 : r3.l = [] := by
  by_cases he : r3.er = 0
  ·by_cases hl0 : r3.l = []
   ·exact hl0
   ·rw [if_pos ⟨he, hl0⟩] at her; omega
  ·rw [if_neg (fun h => he h.1)] at her; omega
 have her0 : r3.er = 0 := by
  rw [if_neg (fun h => h.2 hl0)] at her; omega
 subst h1
 have de : ((0 : Int) != 0) = false := by decide
 cases hw : r3.wide with
 | true =>
  rw [hw] at k1
  have HNo := Lh (show parseS l = none by
    rw [hPd, if_neg]
    rintro ⟨_, _, e3, _⟩
    rw [hw] at e3; cases e3)
  clear her hPd hw hl0 her0
  go_wp2_with fail
  rw [HW8.out]
  refine HEn.out.mono ?_
  rintro e u ⟨rfl, rfl⟩
  go_wp2_with (refine sel none (.store 25 (.tmp 2) (.tmp 43)) ?_; refine wpList_store_rowA rfl 25 (.tmp 2) (.tmp 43) rfl b2 zStC rfl rfl 25 zStC HZ.out (by kernel_rfl) rfl (by kernel_rfl) ?_; intro W9 hgW9 hbW9)
  exact bodyPost_ret (res_ct Tryz.results110 _ _ b2 25 _ (0, 0) _ (.int .i64 210) rfl rfl hbW9 Tryz.underlying25 rfl (by kernel_rfl)) rfl (.inr ⟨HNo.out, rfl, HG.out.then_new hgW9 (fun x e => by have e : x = b2 := e; omega)⟩)
 | false =>
  rw [hw] at k1
  have HMy := Lh (smay_ok (From w.heap.size) ⟨x1, x2, x3⟩ (.slice A2 x2.length c2) (.slice A3 x3.length c3) W8 HSV.out)
  cases hmy : mayS ⟨x1, x2, x3⟩ with
  | false =>
   rw [hmy] at HMy
   have HNo := Lh (show parseS l = none by
     rw [hPd, if_neg]
     rintro ⟨_, _, _, e4⟩
     rw [hmy] at e4; cases e4)
   clear her hPd hw hl0 her0 hmy
   go_wp2_with fail
   rw [HW8.out]
   refine HEn.out.mono ?_
   rintro e u ⟨rfl, rfl⟩
   go_wp2_with fail
   refine HMy.out.mono ?_
   rintro e u ⟨rfl, hgu⟩
   replace HZ := Lh (blk_keep HZ.out hgu (fun e => e))
   replace HG := Lh (HG.out.then_non hgu)
   clear hgu
   go_wp2_with (refine sel none (.store 25 (.tmp 2) (.tmp 43)) ?_; refine wpList_store_rowA rfl 25 (.tmp 2) (.tmp 43) rfl b2 zStC rfl rfl 25 zStC HZ.out (by kernel_rfl) rfl (by kernel_rfl) ?_; intro W9 hgW9 hbW9)
   exact bodyPost_ret (res_ct Tryz.results110 _ _ b2 25 _ (0, 0) _ (.int .i64 210) rfl rfl hbW9 Tryz.underlying25 rfl (by kernel_rfl)) rfl (.inr ⟨HNo.out, rfl, HG.out.then_new hgW9 (fun x e => by have e : x = b2 := e; omega)⟩)
  | true =>
   rw [hmy] at HMy
   have HYes := Lh (show parseS l = some ⟨x1, x2, x3⟩ by
     rw [hPd, if_pos ⟨her0, hl0, hw, hmy⟩])
   have hbd := stBd_may hmy HSV.out.bds
   have HCp := Lh (fun W (hg : Chg Non W8 W) => scopy_apart (From w.heap.size) W ⟨x1, x2, x3⟩ (.slice A2 x2.length c2) (.slice A3 x3.length c3) (HSV.out.non hg) (by have := hbd.np; omega) (by have := hbd.nq; omega) (fun a ha => by have := (hbd.qs a ha).2.1; omega))
   clear her hPd hw hl0 her0 hmy hbd
   go_wp2_with fail
   rw [HW8.out]
   refine HEn.out.mono ?_
   rintro e u ⟨rfl, rfl⟩
   go_wp2_with fail
   refine HMy.out.mono ?_
   rintro e u ⟨rfl, hgu⟩
   replace HZ := Lh (blk_keep HZ.out hgu (fun e => e))
   replace HG := Lh (HG.out.then_non hgu)
   replace HCp := Lh (HCp.out u hgu)
   have g0 := hgu.cell_some d0 (fun e => e)
   have g1 := hgu.cell_some d1 (fun e => e)
   have g2 := hgu.cell_some d2 (fun e => e)
   clear hgu
   go_wp2_with fail
   refine HCp.out.mono ?_
   rintro e u2 ⟨vb, vd, rfl, hst, hM, hgu⟩
   have HST := Lh hst
   have HZ2 := Lh (blk_keep HZ.out hgu (fun e => e))
   have HG2 := Lh (HG.out.then_non hgu)
   have hsu := HG.out.size
   obtain ⟨A4, c4, rfl, _⟩ := hst.ps.rd
   obtain ⟨A5, c5, rfl, _⟩ := hst.qs.rd
   clear hst hM hgu
   go_wp2_with (refine sel none (.store 25 (.tmp 2) (.tmp 45)) ?_; refine wpList_store_rowA rfl 25 (.tmp 2) (.tmp 45) rfl b2 #[.int .i64 x1, .slice A4 x2.length c4, .slice A5 x3.length c5] rfl rfl 25 zStC HZ2.out (by kernel_rfl) rfl (by kernel_rfl) ?_; intro W9 hgW9 hbW9)
   have hn : ∀ b, u.heap.size ≤ b → ¬ b = b2 := fun b hb e => by
    have := blk_lt HZ.out; omega
   refine bodyPost_ret (res_ct Tryz.results110 _ _ b2 25 _ (0, 0) _ (.int .i64 0) rfl rfl hbW9 Tryz.underlying25 rfl (by kernel_rfl)) rfl (.inl ⟨_, _, _, HYes.out, rfl, ?_, HG2.out.then_new hgW9 (fun x e => by have e : x = b2 := e; omega)⟩)
   exact HST.out.keepB hgW9 hn (by have := blk_lt HZ.out; omega)
end
section
open Go.RowKit Go.Shelf
attribute [local go_sem] Oper.semAt_some
structure KX (bx : Nat) (a b : World) : Prop where
 size : a.heap.size ≤ b.heap.size
 cell : ∀ v, a.cell? ⟨bx, 0, none⟩ = some v → b.cell? ⟨bx, 0, none⟩ = some v
namespace KX
variable {bx : Nat}
theorem refl (a : World) : KX bx a a := ⟨Nat.le_refl _, fun _ h => h⟩
theorem trans {a b c : World} (h : KX bx a b) (k : KX bx b c) : KX bx a c := ⟨Nat.le_trans h.size k.size, fun v h1 => k.cell v (h.cell v h1)⟩
theorem of_chg {S : Nat → Prop} {a b : World} (h : Chg S a b) (hn : ¬ S bx) : KX bx a b := ⟨h.size, fun v hc => h.cell_some hc hn⟩
theorem put (W : World) (l : Nat) (o o' : Obj) (h : W.heap[l]? = some o) (hc : o.isCells = false) : KX bx W (W.putObj l o') := by
 have hg := grownBy_putObj' W l o'
 refine ⟨hg.size, fun v hv => ?_⟩
 have hlt := lt_of_cell hv
 refine (World.cell?_of_block (hg.block bx hlt (fun e => ?_))).trans hv
 cases e
 cases o with
 | cells cs t fr => cases hc
 | _ => simp [World.cell?, h] at hv
end KX
def secE (b1 : Nat) (k : Fin 95) : Array Value := #[.int .i64 ((b1 : Int) + 1 + (k.val : Int)), .int .i64 ((k.val : Int) * 64)]
def finTo (k : Nat) : List (Fin 95) := (List.finRange 95).take k
theorem finTo_len (k : Nat) (h : k ≤ 95) : (finTo k).length = k := by simp [finTo, h]
theorem finTo_succ (k : Nat) (h : k < 95) : finTo (k + 1) = finTo k ++ [⟨k, h⟩] := by
 unfold finTo
 rw [List.take_add_one, List.getElem?_eq_getElem (by simpa using h)]
 simp
theorem sec1_in (n : Nat) (hn : 1 ≤ n) (l bx p : Nat) (hp : p < 2) (J Jx : List (Fin 95) → World → Prop) (W : World)
  (hY : ∀ pre x W, J pre W → pre.length < 96 → YieldAt Fence.wide (n - 1) Tryz.prog l (secE (131 + 96 * p) x) W fun e W' =>
    (e = .returned (.bool true) ∧ J (pre ++ [x]) W' ∧ KX bx W W') ∨ (e = .returned (.bool false) ∧ Jx (pre ++ [x]) W'))
  (hbx : W.cell? ⟨bx, 0, none⟩ = some (.int .i64 (p : Int))) (h0 : J [] W) :
  CallsIn Fence.wide n Tryz.prog 79 #[.func (.yield l) #[] #[], .pointer (some ⟨bx, 0, none⟩)] W fun e W' => (∃ v, e = .returned v) ∧
   ((∃ ys, ys = finTo 95 ∧ J ys W') ∨ (∃ pre : List (Fin 95), (∃ k, k < 95 ∧ pre = finTo (k + 1)) ∧ Jx pre W')) := by
 have HY := Lh hY
 have HH := Lh (fun W => head_ok p hp W)
 have hb := show 131 + 96 * p < 1000 by omega
 clear hY
 obtain ⟨b1, hb1⟩ : ∃ b, 131 + 96 * p = b := ⟨_, rfl⟩
 rw [hb1] at HY HH hb
 have HP := Lh hp
 clear hb1 hp
 have hro : Fence.wide.round = none := rfl
 refine callsIn_of_wp Tryz.func79 rfl trivial ?_ hro
 simp only [Tryz.ntmps79, List.size_toArray, List.length_cons, List.length_nil, Nat.reduceAdd, Nat.reduceSub, Array.replicate_succ, Array.replicate_zero, List.push_toArray, List.append_toArray, List.nil_append, List.cons_append]
 gi_wp2
 gi_loopw [4] (fun iv wr => ∃ k : Nat, k ≤ 95 ∧ iv = .int .i64 k ∧ Hid (J (finTo k) wr) ∧ Hid (KX bx W wr)) (fun iv _ => 95 - (intOf iv).toNat)
 case atStart => exact ⟨0, Nat.zero_le _, rfl, Lh h0, Lh (KX.refl _)⟩
 case round =>
  obtain ⟨k, hk, rfl, HJ, HK⟩ := hrel
  by_cases hlt : k < 95
  ·have hltd : decide ((k : Int) < 95) = true := by rw [decide_eq_true_eq]; omega
   have kB := HK.out.cell _ hbx
   have hlb := lt_of_cell kB
   gi_wp2_with fail
   refine ⟨trivial, (callsIn_wide.2 (HH.out _)).mono ?_⟩
   rintro e u ⟨rfl, rfl⟩
   obtain ⟨fn, tmps, assign, body, hy, hR⟩ := HY.out _ ⟨k, hlt⟩ _ HJ.out (by rw [finTo_len k hk]; omega)
   dsimp only [secE] at hy
   have HRR := Lh hR
   have HS := Lh (finTo_succ k hlt)
   clear hR
   gi_wp2_with fail
   refine HRR.out.mono ?_
   rintro e W3 (⟨rfl, hJ3, hk3⟩ | ⟨rfl, hJx3⟩)
   ·have HJ3 : Hid (J (finTo (k + 1)) W3) := Lh (by rw [HS.out]; exact hJ3)
    have HK3 := Lh (HK.out.trans hk3)
    clear hJ3 hk3
    gi_wp2
    go_roundw
    case rel => exact ⟨k + 1, by omega, by simp, HJ3, HK3⟩
    case measure => simp [intOf]; omega
   ·have HJX : Hid (Jx (finTo (k + 1)) W3) := Lh (by rw [HS.out]; exact hJx3)
    clear hJx3
    gi_wp2
    refine bodyPost_ret (results_none rfl _ _ _) rfl ?_
    exact ⟨⟨_, rfl⟩, .inr ⟨_, ⟨k, hlt, rfl⟩, HJX.out⟩⟩
  ·obtain rfl : k = 95 := by omega
   have hltd : decide (((95 : Nat) : Int) < 95) = false := by decide
   gi_wp2
   go_end0
   exact ⟨⟨_, rfl⟩, .inl ⟨_, rfl, HJ.out⟩⟩
theorem sec_stops (n : Nat) (hn : 1 ≤ n) (bx p : Nat) (hp : p < 2) (w : World) (hbx : w.cell? ⟨bx, 0, none⟩ = some (.int .i64 (p : Int))) :
  SeqStopsK Fence.wide n Tryz.prog 79 #[.pointer (some ⟨bx, 0, none⟩)] (secE (131 + 96 * p)) (KX bx) (fun ys => ys = finTo 95) (fun pre => ∃ k, k < 95 ∧ pre = finTo (k + 1)) 96 w := fun l J Jx W hW hJ hJx hY h0 => by
 have hg : Chg Non w W := Chg.of_below hW (Nat.le_refl _)
 exact sec1_in n hn l bx p hp J Jx W hY (hg.cell_some hbx (fun e => e)) h0
theorem sectors_ok (p : Nat) (w : World) :
  Calls Tryz.prog 34 #[.int .i64 (p : Int)] w fun e w' => e = .returned (.func (.func 79) #[] #[.pointer (some ⟨w.heap.size, 0, none⟩)]) ∧ w' = w.alloc (.cells #[.int .i64 (p : Int)] 82) := by
 have hmf := mk_func
 go_enter Tryz.func34, Tryz.ntmps34
 go_wp2
 go_ret
 exact ⟨rfl, rfl⟩
end
end Go.Proofs.YtkgnlobabknkcaaGreat
