/- BootNil: the walk. -/
import Derived.Test.YtajkajgifigmbaaGreatMgBootNilA
import Derived.Test.YtajkajgifigmbaaGreatMgBootNilB
import Derived.Test.YtajkajgifigmbaaGreatMgBootNilC
import Derived.Test.YtajkajgifigmbaaGreatMgBootNilD
import Derived.Test.YtajkajgifigmbaaGreatMgBootNilE
import Derived.Test.YtajkajgifigmbaaGreatMgBootNilF
import Derived.Test.YtajkajgifigmbaaGreatMgBootNilG
import Derived.Test.YtajkajgifigmbaaGreatMgBootNilH
import Derived.Test.YtajkajgifigmbaaGreatMgBootNilI
import Derived.Test.YtajkajgifigmbaaGreatMgBootNilJ
import Derived.Test.YtajkajgifigmbaaGreatMgBootNilK
import Derived.Test.YtajkajgifigmbaaGreatMgBootNilL
import Derived.Test.YtajkajgifigmbaaGreatMgBootNilM
import Derived.Test.YtajkajgifigmbaaGreatMgBootNilN
import Derived.Test.YtajkajgifigmbaaGreatMgBootNilShelf
namespace Go.Proofs.YtajkajgifigmbaaGreat
set_option linter.unusedVariables false
set_option linter.unusedSimpArgs false
set_option maxHeartbeats 8000000
open Go.RowKit Go.Shelf

/-- Format says e, or (at a disk that is too small) that the manifest is none -/
def BadF (V : World) (p : Option Addr) (C : Array Value) (e : Int) : Prop := ∀ W, Chg Non V W → Calls Tryz.prog 19 #[.pointer p, .agg C] W fun x w' => (∃ z : Int, (z = e ∨ e = 61 ∧ z = 2) ∧ x = .returned (.tuple #[.agg choZ, .int .i64 z])) ∧ Chg Non W w'
theorem fold_size (o : Nat) (L : List (Value × Nat)) (Z : Array Value) : (List.foldl (fun (cs : Array Value) (x : Value × Nat) => cs.setIfInBounds (o + x.2) x.1) Z L).size = Z.size := by
 induction L generalizing Z with
 | nil => rfl
 | cons x r ih => rw [List.foldl_cons, ih, Array.size_setIfInBounds]
theorem fold_actB (Z X : Array Value) (h0 : Z.size = 74) (h : X.size = 74) : Array.foldl (fun (cs : Array Value) (x : Value × Nat) => cs.setIfInBounds x.2 x.1) Z X.zipIdx 0 74 = X := by
 have e : 74 = X.zipIdx.size := by simp [h]
 rw [e, ← Array.foldl_toList, Array.toList_zipIdx]
 apply Array.ext_getElem?
 intro i
 have := fold_sh 0 X.toList 0 Z i
 simp only [Nat.zero_add] at this
 rw [this, h0, Array.length_toList, h]
 by_cases hi : i < 74
 ·rw [if_pos ⟨by omega, hi, hi⟩, Array.getElem?_toList]; rfl
 ·rw [if_neg (by omega), Array.getElem?_eq_none (by omega), Array.getElem?_eq_none (by omega)]
theorem act_of (C : Array Value) (hC : C.size = 69) : ∃ X : Array Value, Array.foldl (fun (cs : Array Value) (x : Value × Nat) => cs.setIfInBounds (3 + x.2) x.1) Tryz.zeroCells34 C.zipIdx 0 69 = X ∧ X.size = 74 ∧ X[37]? = C[34]? ∧ X[38]? = C[35]? ∧ X[39]? = C[36]? ∧ X[72]? = some (.slice none 0 0) := by
 have e : 69 = C.zipIdx.size := by simp [hC]
 refine ⟨_, rfl, ?_⟩
 have hz : (Tryz.zeroCells34).size = 74 := by kernel_rfl
 have key : ∀ i, (Array.foldl (fun (cs : Array Value) (x : Value × Nat) => cs.setIfInBounds (3 + x.2) x.1) Tryz.zeroCells34 C.zipIdx 0 69)[i]? = if 3 ≤ i ∧ i < 72 then C[i - 3]? else (Tryz.zeroCells34)[i]? := fun i => by
  rw [e, ← Array.foldl_toList, Array.toList_zipIdx, fold_sh, Array.length_toList, hC, hz]
  by_cases hi : 3 ≤ i ∧ i < 72
  ·rw [if_pos hi, if_pos ⟨by omega, by omega, by omega⟩, Array.getElem?_toList]
  ·rw [if_neg hi, if_neg (by omega)]
 refine ⟨?_, by rw [key, if_pos (by omega)], by rw [key, if_pos (by omega)], by rw [key, if_pos (by omega)], by rw [key, if_neg (by omega)]; kernel_rfl⟩
 rw [e, ← Array.foldl_toList, fold_size, hz]
/-- what each round of the loop finds -/
structure BnR (w : World) (C : Array Value) (b1 bs bd pd ps pm : Nat) (W : World) : Prop where
 g : Chg Non w W
 c : W.heap[b1]? = some (.cells C 30 (0, 0))
 l : W.heap[bs]? = some (.cells #[.pointer none, .pointer (some ⟨bd, 0, none⟩), .pointer (some ⟨pd, 0, none⟩)] 36 (0, 0))
 n : W.cell? ⟨bd, 2, none⟩ = some (.map none)
 d : IsD W pd ps pm (Dk.new 1)
theorem BnR.non {w : World} {C : Array Value} {b1 bs bd pd ps pm : Nat} {W W' : World} (h : BnR w C b1 bs bd pd ps pm W) (hg : Chg Non W W') : BnR w C b1 bs bd pd ps pm W' :=
 ⟨h.g.then_non hg, blk_keep h.c hg (fun e => e), blk_keep h.l hg (fun e => e), hg.cell_some h.n (fun e => e), h.d.non hg⟩
section
variable {w : World} {C : Array Value} {b1 bs bd pd ps pm : Nat} {W : World}
theorem dk1_at : (Dk.new 1).at_ 0 = List.replicate 64 0 := by rfl
theorem badG0 (h : BnR w C b1 bs bd pd ps pm W) : BadG W none 1 := fun V hV => cGet_no none V (fun _ _ => trivial)
theorem badG1 (h : BnR w C b1 bs bd pd ps pm W) : BadG W (some ⟨bd, 0, none⟩) 1 := fun V hV => cGet_no (some ⟨bd, 0, none⟩) V (fun V2 h2 => ⟨rfl, (hV.then_non h2).cell_some h.n (fun e => e)⟩)
theorem badG2 (h : BnR w C b1 bs bd pd ps pm W) : BadG W (some ⟨pd, 0, none⟩) 61 := fun V hV => cGet_small pd ps pm (Dk.new 1) V (h.d.non hV) rfl rfl dk1_at
def FnH (w : World) (C : Array Value) : Prop := ∀ (W : World), Chg Non w W → ∀ (p : Option Addr), (∀ V, Chg Non W V → Calls Tryz.prog 60 #[.pointer p] V fun e w' => e = .returned (.int .i64 0) ∧ V = w') → Calls Tryz.prog 19 #[.pointer p, .agg C] W fun e w' => e = .returned (.tuple #[.agg choZ, .int .i64 1]) ∧ Chg Non W w'
def FsH (w : World) (C : Array Value) : Prop := ∀ (W : World), Chg Non w W → ∀ (pd ps pm : Nat) (D : Dk), IsD W pd ps pm D → D.up = true → D.sec.length = 1 → Calls Tryz.prog 19 #[.pointer (some ⟨pd, 0, none⟩), .agg C] W fun e w' => (∃ z : Int, (z = 61 ∨ z = 2) ∧ e = .returned (.tuple #[.agg choZ, .int .i64 z])) ∧ Chg Non W w'
theorem badF0 (h : BnR w C b1 bs bd pd ps pm W) (h1 : FnH w C) (h2 : FsH w C) : BadF W none C 1 := fun V hV => (h1 V (h.g.then_non hV) none (fun V2 _ => (Len_no none V2 trivial))).mono (fun e w' h => ⟨⟨1, .inl rfl, h.1⟩, h.2⟩)
theorem badF1 (h : BnR w C b1 bs bd pd ps pm W) (h1 : FnH w C) (h2 : FsH w C) : BadF W (some ⟨bd, 0, none⟩) C 1 := fun V hV => (h1 V (h.g.then_non hV) (some ⟨bd, 0, none⟩) (fun V2 h2 => (Len_no (some ⟨bd, 0, none⟩) V2 ⟨rfl, (hV.then_non h2).cell_some h.n (fun e => e)⟩))).mono (fun e w' h => ⟨⟨1, .inl rfl, h.1⟩, h.2⟩)
theorem badF2 (h : BnR w C b1 bs bd pd ps pm W) (h1 : FnH w C) (h2 : FsH w C) : BadF W (some ⟨pd, 0, none⟩) C 61 := fun V hV => (h2 V (h.g.then_non hV) pd ps pm (Dk.new 1) (h.d.non hV) rfl rfl).mono (fun e w' ⟨⟨z, hz, he⟩, hg⟩ => ⟨⟨z, hz.imp id (fun e => ⟨rfl, e⟩), he⟩, hg⟩)
end
set_option maxRecDepth 100000 in
theorem bootNil_walk (I : Nat → Prop) (w : World) (m : Mf) (A1 A2 A3 : Option Addr) (c1 c2 c3 : Nat) (C : Array Value) (h : MfR I w m A1 A2 A3 c1 c2 c3 C) (hI : ∀ b, I b → b < w.heap.size) :
  Calls Tryz.prog 3 #[.agg C] w fun e w' => e = .returned (.bool true) ∧ Chg Non w w' := by
 have HSz := Lib.hid h.cells.size
 have HGr := Lib.hid (fun W bL X hg hL h37 h38 h39 h72 => great26 I bL X m.cfg A1 A2 A3 c1 c2 c3 W hL h37 h38 h39 h72 (h.cfg.non hg))
 have HC34 := Lib.hid h.cells.c0
 have HC35 := Lib.hid h.cells.c1
 have HC36 := Lib.hid h.cells.c2
 have HFn : Hid (FnH w C) := Lib.hid (fun W hg p hp => fmt_nil I p W m A1 A2 A3 c1 c2 c3 C (h.non hg) (fun b hb => by have := hI b hb; have := Chg.size hg; omega) hp)
 have HFs : Hid (FsH w C) := Lib.hid (fun W hg pd ps pm D hD hup hlen => fmt_small I pd ps pm D W m A1 A2 A3 c1 c2 c3 C (h.non hg) (fun b hb => by have := hI b hb; have := Chg.size hg; omega) hD hup hlen)
 obtain ⟨X, hX, hXs, x37, x38, x39, x72⟩ := act_of C h.cells.size
 have HX := Lib.hid hX
 have HXc := Lib.hid (And.intro (x37.trans h.cells.c0) (And.intro (x38.trans h.cells.c1) (And.intro (x39.trans h.cells.c2) x72)))
 clear h hI hX x37 x38 x39 x72
 go_enter Tryz.func3, Tryz.ntmps3
 go_wp2_with (first
   | (refine sel (some 23) (.load 30 (.tmp 1)) ?_
      refine wpList_loadW (some 23) 30 (.tmp 1) w.heap.size 0 C _ rfl rfl (by kernel_rfl) (by kernel_rfl) (row_range (heap_alloc_new _ _)) Tryz.underlying30 rfl (by rw [HSz.out]; kernel_rfl) ?_)
   | (refine sel (some 24) (.build 34 #[(3, .tmp 23)]) ?_
      refine wpList_pureW (some 24) (.agg X) rfl (by kernel_rfl) (by have h1 := HSz.out; go_simp; exact HX.out) ?_))
 rw [fold_actB _ X (by rfl) hXs]
 refine (HGr.out _ (w.heap.size + 1) X (((Chg.refl Non w).alloc _).alloc _) (heap_alloc2_new _ _ _) HXc.out.1 HXc.out.2.1 HXc.out.2.2.1 HXc.out.2.2.2).mono ?_
 rintro e U ⟨⟨g, rfl⟩, hg⟩
 have HU := Lib.hid ((((Chg.refl Non w).alloc _).alloc _).then_non hg)
 have HC := Lib.hid (blockN hg (heap_alloc2_old w (.cells C 30) (.cells X 34)))
 clear hg HGr HX HXc hXs
 cases g with
 | true =>
  go_wp2_with fail
  go_ret
  exact ⟨rfl, HU.out⟩
 | false =>
 go_wp2_with fail
 refine (New_ok 1 U (by omega) (by omega)).mono ?_
 rintro e U1 ⟨pd, ps, pm, rfl, hD, _, _, _, hg⟩
 have HU1 := Lib.hid (HU.out.then_non hg)
 have HC1 := Lib.hid (blockN hg HC.out)
 have HD := Lib.hid hD
 clear hg hD HU HC
 go_wp2_with fail
 clear HC34 HC35 HC36
 go_loopw [7] (fun i wr => ∃ k : Nat, k ≤ 3 ∧ i = .int .i64 k ∧ BnR w C w.heap.size (U1.heap.size + 1) U1.heap.size pd ps pm wr) (fun i _ => 3 - (intOf i).toNat)
 case atStart =>
  refine ⟨0, by omega, rfl, (HU1.out.alloc _).alloc _, blockN (((Chg.refl Non U1).alloc _).alloc _) HC1.out, heap_alloc2_new _ _ _, ?_, HD.out.non (((Chg.refl Non U1).alloc _).alloc _)⟩
  rw [cell_of_row _ _ _ _ _ _ (heap_alloc2_old _ _ _)]
  rfl
 case round =>
  obtain ⟨k, hk, rfl, hR⟩ := hrel
  have HR0 := Lib.hid hR
  obtain ⟨b1, hb1⟩ : ∃ b, w.heap.size = b := ⟨_, rfl⟩
  obtain ⟨bd, hbd⟩ : ∃ b, U1.heap.size = b := ⟨_, rfl⟩
  obtain ⟨bs, hbs⟩ : ∃ b, bd + 1 = b := ⟨_, rfl⟩
  rw [hb1, hbd, hbs] at HR0 ⊢
  clear hb1 hbd hbs hR HU1 HC1 HD
  have hk4 : k = 0 ∨ k = 1 ∨ k = 2 ∨ k = 3 := by omega
  rcases hk4 with rfl | rfl | rfl | rfl
  ·as_aux_lemma =>
    have HG := Lib.hid (badG0 HR0.out)
    have HF := Lib.hid (badF0 HR0.out HFn.out HFs.out)
    have kl := blk_cell HR0.out.l 0 (v := .pointer none) rfl
    go_wp2_with fail
    refine (bLook none 1 _ (HG.out.non (Chg.refl Non _)) (by omega)).mono ?_
    rintro e u1 ⟨rfl, hg⟩
    have HX1 := Lib.hid hg
    clear hg kl
    go_wp2_with (first
      | (refine sel none (.store 48 (.tmp 9) (.tmp 50)) ?_
         refine wpList_store_rowA rfl 48 (.tmp 9) (.tmp 50) rfl u1.heap.size choZ rfl rfl 48 _ (heap_alloc_new _ _) info_cho rfl choZ_one ?_
         intro v1 k1 k2
         have hgn : Chg Non wr v1 := (HX1.out.alloc _).then_new k1 (fun x e => by have := HX1.out.size; omega)
         have HV1 := Lib.hid (hgn)
         have HR1 := Lib.hid (HR0.out.non hgn)
         have kl := blk_cell HR1.out.l 0 (v := .pointer none) rfl
         have HB9_1 := Lib.hid k2
         clear k1 k2 hgn))
    go_wp2_with fail
    refine (bAhead none 1 _ (HG.out.non HV1.out) (by omega)).mono ?_
    rintro e u2 ⟨rfl, hg⟩
    have HX2 := Lib.hid hg
    clear hg kl
    go_wp2_with (first
      | (refine sel none (.store 48 (.tmp 11) (.tmp 58)) ?_
         refine wpList_store_rowA rfl 48 (.tmp 11) (.tmp 58) rfl u2.heap.size choZ rfl rfl 48 _ (heap_alloc_new _ _) info_cho rfl choZ_one ?_
         intro v2 k1 k2
         have hgn : Chg Non v1 v2 := (HX2.out.alloc _).then_new k1 (fun x e => by have := HX2.out.size; omega)
         have HV2 := Lib.hid ((HV1.out.then_non hgn))
         have HR2 := Lib.hid (HR1.out.non hgn)
         have kl := blk_cell HR2.out.l 0 (v := .pointer none) rfl
         have HB9_2 := Lib.hid (blockN hgn HB9_1.out)
         have HB11_2 := Lib.hid k2
         clear k1 k2 hgn))
    go_wp2_with fail
    refine (bBack none 1 _ (HG.out.non HV2.out) (by omega)).mono ?_
    rintro e u3 ⟨rfl, hg⟩
    have HX3 := Lib.hid hg
    clear hg kl
    go_wp2_with (first
      | (refine sel none (.store 48 (.tmp 13) (.tmp 66)) ?_
         refine wpList_store_rowA rfl 48 (.tmp 13) (.tmp 66) rfl u3.heap.size choZ rfl rfl 48 _ (heap_alloc_new _ _) info_cho rfl choZ_one ?_
         intro v3 k1 k2
         have hgn : Chg Non v2 v3 := (HX3.out.alloc _).then_new k1 (fun x e => by have := HX3.out.size; omega)
         have HV3 := Lib.hid ((HV2.out.then_non hgn))
         have HR3 := Lib.hid (HR2.out.non hgn)
         have kl := blk_cell HR3.out.l 0 (v := .pointer none) rfl
         have HB9_3 := Lib.hid (blockN hgn HB9_2.out)
         have HB11_3 := Lib.hid (blockN hgn HB11_2.out)
         have HB13_3 := Lib.hid k2
         clear k1 k2 hgn))
    go_wp2_with fail
    refine (bConfirm none 1 _ (HG.out.non HV3.out) (by omega)).mono ?_
    rintro e u4 ⟨rfl, hg⟩
    have HX4 := Lib.hid hg
    clear hg kl
    go_wp2_with (first
      | (refine sel none (.store 48 (.tmp 15) (.tmp 74)) ?_
         refine wpList_store_rowA rfl 48 (.tmp 15) (.tmp 74) rfl u4.heap.size choZ rfl rfl 48 _ (heap_alloc_new _ _) info_cho rfl choZ_one ?_
         intro v4 k1 k2
         have hgn : Chg Non v3 v4 := (HX4.out.alloc _).then_new k1 (fun x e => by have := HX4.out.size; omega)
         have HV4 := Lib.hid ((HV3.out.then_non hgn))
         have HR4 := Lib.hid (HR3.out.non hgn)
         have kl := blk_cell HR4.out.l 0 (v := .pointer none) rfl
         have HB9_4 := Lib.hid (blockN hgn HB9_3.out)
         have HB11_4 := Lib.hid (blockN hgn HB11_3.out)
         have HB13_4 := Lib.hid (blockN hgn HB13_3.out)
         have HB15_4 := Lib.hid k2
         clear k1 k2 hgn))
    go_wp2_with fail
    refine (bStart none 1 _ (HG.out.non HV4.out) (by omega)).mono ?_
    rintro e u5 ⟨rfl, hg⟩
    have HX5 := Lib.hid hg
    clear hg kl
    go_wp2_with (first
      | (refine sel none (.store 48 (.tmp 17) (.tmp 82)) ?_
         refine wpList_store_rowA rfl 48 (.tmp 17) (.tmp 82) rfl u5.heap.size choZ rfl rfl 48 _ (heap_alloc_new _ _) info_cho rfl choZ_one ?_
         intro v5 k1 k2
         have hgn : Chg Non v4 v5 := (HX5.out.alloc _).then_new k1 (fun x e => by have := HX5.out.size; omega)
         have HV5 := Lib.hid ((HV4.out.then_non hgn))
         have HR5 := Lib.hid (HR4.out.non hgn)
         have kl := blk_cell HR5.out.l 0 (v := .pointer none) rfl
         have HB9_5 := Lib.hid (blockN hgn HB9_4.out)
         have HB11_5 := Lib.hid (blockN hgn HB11_4.out)
         have HB13_5 := Lib.hid (blockN hgn HB13_4.out)
         have HB15_5 := Lib.hid (blockN hgn HB15_4.out)
         have HB17_5 := Lib.hid k2
         clear k1 k2 hgn)
      | (refine sel (some 85) (.build 53 #[]) ?_
         refine wpList_pureW (some 85) (.agg choZ) rfl (by kernel_rfl) (by kernel_rfl) ?_)
      | (refine sel none (.store 53 (.tmp 20) (.tmp 85)) ?_
         refine wpList_store_rowA rfl 53 (.tmp 20) (.tmp 85) rfl v5.heap.size choZ rfl rfl 53 _ (heap_alloc_new _ _) info_choR rfl choZ_one ?_
         intro v6 k1 k2
         have hgn : Chg Non v5 v6 := ((Chg.refl Non v5).alloc _).then_new k1 (fun x e => by omega)
         have HV6 := Lib.hid (HV5.out.then_non hgn)
         have HR6 := Lib.hid (HR5.out.non hgn)
         have HB9_6 := Lib.hid (blockN hgn HB9_5.out)
         have HB11_6 := Lib.hid (blockN hgn HB11_5.out)
         have HB13_6 := Lib.hid (blockN hgn HB13_5.out)
         have HB15_6 := Lib.hid (blockN hgn HB15_5.out)
         have HB17_6 := Lib.hid (blockN hgn HB17_5.out)
         have HB20_6 := Lib.hid k2
         clear k1 k2 hgn kl))
    obtain ⟨U0, hU0⟩ : ∃ u, u = v6.drew := ⟨_, rfl⟩
    have HB9 : Hid (U0.heap[u1.heap.size]? = some (.cells choZ 48 (0, 0))) := Lib.hid (by rw [hU0]; exact HB9_6.out)
    have HB11 : Hid (U0.heap[u2.heap.size]? = some (.cells choZ 48 (0, 0))) := Lib.hid (by rw [hU0]; exact HB11_6.out)
    have HB13 : Hid (U0.heap[u3.heap.size]? = some (.cells choZ 48 (0, 0))) := Lib.hid (by rw [hU0]; exact HB13_6.out)
    have HB15 : Hid (U0.heap[u4.heap.size]? = some (.cells choZ 48 (0, 0))) := Lib.hid (by rw [hU0]; exact HB15_6.out)
    have HB17 : Hid (U0.heap[u5.heap.size]? = some (.cells choZ 48 (0, 0))) := Lib.hid (by rw [hU0]; exact HB17_6.out)
    have HB20 : Hid (U0.heap[v5.heap.size]? = some (.cells choZ 53 (0, 0))) := Lib.hid (by rw [hU0]; exact HB20_6.out)
    have HR7 : Hid (BnR w C b1 bs bd pd ps pm U0) := Lib.hid (by rw [hU0]; exact HR6.out.non (Chg.refl Non v6).drew)
    have HV7 : Hid (Chg Non wr U0) := Lib.hid (by rw [hU0]; exact HV6.out.drew)
    refine wp_region_held_drew (S := Chg Non U0) (by kernel_rfl) (by rw [hU0]; exact Chg.refl _ _) (fun _ => ?_)
    rw [← hU0]
    clear hU0
    have hc : Chg Non U0 U0 := Chg.refl _ _
    refine hp 0 86 (.int .i64 1) rfl hc ?_
    refine hp 1 87 (.int .i64 1) rfl hc ?_
    refine hp 2 88 (.bool false) rfl hc ?_
    refine hp 3 89 (.bool false) rfl hc ?_
    refine hp 4 90 (.int .i64 1) rfl hc ?_
    refine hp 5 91 (.int .i64 1) rfl hc ?_
    refine hp 6 92 (.bool false) rfl hc ?_
    refine hp 7 93 (.bool false) rfl hc ?_
    refine hp 8 94 (.bool false) rfl hc ?_
    refine hp 9 95 (.int .i64 1) rfl hc ?_
    refine hp 10 96 (.int .i64 1) rfl hc ?_
    refine hp 11 97 (.bool false) rfl hc ?_
    refine hp 12 98 (.bool false) rfl hc ?_
    refine hp 13 99 (.bool false) rfl hc ?_
    refine hp 14 100 (.int .i64 1) rfl hc ?_
    refine hp 15 101 (.int .i64 1) rfl hc ?_
    refine hp 16 102 (.bool false) rfl hc ?_
    refine hp 17 103 (.bool false) rfl hc ?_
    refine hp 18 104 (.bool false) rfl hc ?_
    refine hp 19 105 (.int .i64 1) rfl hc ?_
    refine hp 20 106 (.int .i64 1) rfl hc ?_
    refine hp 21 107 (.bool false) rfl hc ?_
    refine hp 22 108 (.bool false) rfl hc ?_
    refine hp 23 109 (.bool false) rfl hc ?_
    refine hp 24 110 (.bool false) rfl hc ?_
    refine hp 25 111 (.bool false) rfl hc ?_
    refine hp 26 112 (.bool false) rfl hc ?_
    refine h_load 27 (some 113) 48 (.tmp 9) u1.heap.size 0 choZ _ rfl (by kernel_rfl) (by kernel_rfl) (by kernel_rfl) (by kernel_rfl) (by kernel_rfl) (fun _ _ _ h => h) (by kernel_rfl) (by kernel_rfl) (fun w h => row_range (blockN h HB9.out)) Tryz.underlying48 rfl info_cho hc ?_
    try simp only [Act.put, sA, sB, sC]
    refine h_load 29 (some 115) 53 (.tmp 20) v5.heap.size 0 choZ _ rfl (by kernel_rfl) (by kernel_rfl) (by kernel_rfl) (by kernel_rfl) (by kernel_rfl) (fun _ _ _ h => h) (by kernel_rfl) (by kernel_rfl) (fun w h => row_range (blockN h HB20.out)) Tryz.underlying53 rfl info_choR hc ?_
    try simp only [Act.put, sA, sB, sC]
    refine h_one 28 (by kernel_rfl) rfl (by kernel_rfl) ?_
    intro K hK
    go_simp
    refine (asZ _).mono ?_
    rintro e x0a ⟨rfl, hg⟩
    have hx0a : Chg Non U0 x0a := hc.then_non hg
    clear hg
    refine hK.out _ _ hx0a (fun _ => ?_)
    clear hK K
    try simp only [Act.put, sA, sB, sC]
    refine h_one 30 (by kernel_rfl) rfl (by kernel_rfl) ?_
    intro K hK
    go_simp
    refine (same26 _).mono ?_
    rintro e x0b ⟨rfl, hg⟩
    have hx0b : Chg Non U0 x0b := hx0a.then_non hg
    clear hg
    refine hK.out _ _ hx0b (fun _ => ?_)
    clear hK K
    try simp only [Act.put, sA, sB, sC]
    refine hp 31 117 (.bool false) rfl hx0b ?_
    refine hp 32 118 (.bool false) rfl hx0b ?_
    refine hp 33 119 (.bool false) rfl hx0b ?_
    refine h_load 34 (some 120) 48 (.tmp 11) u2.heap.size 0 choZ _ rfl (by kernel_rfl) (by kernel_rfl) (by kernel_rfl) (by kernel_rfl) (by kernel_rfl) (fun _ _ _ h => h) (by kernel_rfl) (by kernel_rfl) (fun w h => row_range (blockN h HB11.out)) Tryz.underlying48 rfl info_cho hx0b ?_
    try simp only [Act.put, sA, sB, sC]
    refine h_load 36 (some 122) 53 (.tmp 20) v5.heap.size 0 choZ _ rfl (by kernel_rfl) (by kernel_rfl) (by kernel_rfl) (by kernel_rfl) (by kernel_rfl) (fun _ _ _ h => h) (by kernel_rfl) (by kernel_rfl) (fun w h => row_range (blockN h HB20.out)) Tryz.underlying53 rfl info_choR hx0b ?_
    try simp only [Act.put, sA, sB, sC]
    refine h_one 35 (by kernel_rfl) rfl (by kernel_rfl) ?_
    intro K hK
    go_simp
    refine (asZ _).mono ?_
    rintro e x1a ⟨rfl, hg⟩
    have hx1a : Chg Non U0 x1a := hx0b.then_non hg
    clear hg
    refine hK.out _ _ hx1a (fun _ => ?_)
    clear hK K
    try simp only [Act.put, sA, sB, sC]
    refine h_one 37 (by kernel_rfl) rfl (by kernel_rfl) ?_
    intro K hK
    go_simp
    refine (same26 _).mono ?_
    rintro e x1b ⟨rfl, hg⟩
    have hx1b : Chg Non U0 x1b := hx1a.then_non hg
    clear hg
    refine hK.out _ _ hx1b (fun _ => ?_)
    clear hK K
    try simp only [Act.put, sA, sB, sC]
    refine hp 38 124 (.bool false) rfl hx1b ?_
    refine hp 39 125 (.bool false) rfl hx1b ?_
    refine hp 40 126 (.bool false) rfl hx1b ?_
    refine h_load 41 (some 127) 48 (.tmp 13) u3.heap.size 0 choZ _ rfl (by kernel_rfl) (by kernel_rfl) (by kernel_rfl) (by kernel_rfl) (by kernel_rfl) (fun _ _ _ h => h) (by kernel_rfl) (by kernel_rfl) (fun w h => row_range (blockN h HB13.out)) Tryz.underlying48 rfl info_cho hx1b ?_
    try simp only [Act.put, sA, sB, sC]
    refine h_load 43 (some 129) 53 (.tmp 20) v5.heap.size 0 choZ _ rfl (by kernel_rfl) (by kernel_rfl) (by kernel_rfl) (by kernel_rfl) (by kernel_rfl) (fun _ _ _ h => h) (by kernel_rfl) (by kernel_rfl) (fun w h => row_range (blockN h HB20.out)) Tryz.underlying53 rfl info_choR hx1b ?_
    try simp only [Act.put, sA, sB, sC]
    refine h_one 42 (by kernel_rfl) rfl (by kernel_rfl) ?_
    intro K hK
    go_simp
    refine (asZ _).mono ?_
    rintro e x2a ⟨rfl, hg⟩
    have hx2a : Chg Non U0 x2a := hx1b.then_non hg
    clear hg
    refine hK.out _ _ hx2a (fun _ => ?_)
    clear hK K
    try simp only [Act.put, sA, sB, sC]
    refine h_one 44 (by kernel_rfl) rfl (by kernel_rfl) ?_
    intro K hK
    go_simp
    refine (same26 _).mono ?_
    rintro e x2b ⟨rfl, hg⟩
    have hx2b : Chg Non U0 x2b := hx2a.then_non hg
    clear hg
    refine hK.out _ _ hx2b (fun _ => ?_)
    clear hK K
    try simp only [Act.put, sA, sB, sC]
    refine hp 45 131 (.bool false) rfl hx2b ?_
    refine hp 46 132 (.bool false) rfl hx2b ?_
    refine hp 47 133 (.bool false) rfl hx2b ?_
    refine h_load 48 (some 134) 48 (.tmp 15) u4.heap.size 0 choZ _ rfl (by kernel_rfl) (by kernel_rfl) (by kernel_rfl) (by kernel_rfl) (by kernel_rfl) (fun _ _ _ h => h) (by kernel_rfl) (by kernel_rfl) (fun w h => row_range (blockN h HB15.out)) Tryz.underlying48 rfl info_cho hx2b ?_
    try simp only [Act.put, sA, sB, sC]
    refine h_load 50 (some 136) 53 (.tmp 20) v5.heap.size 0 choZ _ rfl (by kernel_rfl) (by kernel_rfl) (by kernel_rfl) (by kernel_rfl) (by kernel_rfl) (fun _ _ _ h => h) (by kernel_rfl) (by kernel_rfl) (fun w h => row_range (blockN h HB20.out)) Tryz.underlying53 rfl info_choR hx2b ?_
    try simp only [Act.put, sA, sB, sC]
    refine h_one 49 (by kernel_rfl) rfl (by kernel_rfl) ?_
    intro K hK
    go_simp
    refine (asZ _).mono ?_
    rintro e x3a ⟨rfl, hg⟩
    have hx3a : Chg Non U0 x3a := hx2b.then_non hg
    clear hg
    refine hK.out _ _ hx3a (fun _ => ?_)
    clear hK K
    try simp only [Act.put, sA, sB, sC]
    refine h_one 51 (by kernel_rfl) rfl (by kernel_rfl) ?_
    intro K hK
    go_simp
    refine (same26 _).mono ?_
    rintro e x3b ⟨rfl, hg⟩
    have hx3b : Chg Non U0 x3b := hx3a.then_non hg
    clear hg
    refine hK.out _ _ hx3b (fun _ => ?_)
    clear hK K
    try simp only [Act.put, sA, sB, sC]
    refine hp 52 138 (.bool false) rfl hx3b ?_
    refine hp 53 139 (.bool false) rfl hx3b ?_
    refine hp 54 140 (.bool false) rfl hx3b ?_
    refine h_load 55 (some 141) 48 (.tmp 17) u5.heap.size 0 choZ _ rfl (by kernel_rfl) (by kernel_rfl) (by kernel_rfl) (by kernel_rfl) (by kernel_rfl) (fun _ _ _ h => h) (by kernel_rfl) (by kernel_rfl) (fun w h => row_range (blockN h HB17.out)) Tryz.underlying48 rfl info_cho hx3b ?_
    try simp only [Act.put, sA, sB, sC]
    refine h_load 57 (some 143) 53 (.tmp 20) v5.heap.size 0 choZ _ rfl (by kernel_rfl) (by kernel_rfl) (by kernel_rfl) (by kernel_rfl) (by kernel_rfl) (fun _ _ _ h => h) (by kernel_rfl) (by kernel_rfl) (fun w h => row_range (blockN h HB20.out)) Tryz.underlying53 rfl info_choR hx3b ?_
    try simp only [Act.put, sA, sB, sC]
    refine h_one 56 (by kernel_rfl) rfl (by kernel_rfl) ?_
    intro K hK
    go_simp
    refine (asZ _).mono ?_
    rintro e x4a ⟨rfl, hg⟩
    have hx4a : Chg Non U0 x4a := hx3b.then_non hg
    clear hg
    refine hK.out _ _ hx4a (fun _ => ?_)
    clear hK K
    try simp only [Act.put, sA, sB, sC]
    refine h_one 58 (by kernel_rfl) rfl (by kernel_rfl) ?_
    intro K hK
    go_simp
    refine (same26 _).mono ?_
    rintro e x4b ⟨rfl, hg⟩
    have hx4b : Chg Non U0 x4b := hx4a.then_non hg
    clear hg
    refine hK.out _ _ hx4b (fun _ => ?_)
    clear hK K
    try simp only [Act.put, sA, sB, sC]
    refine hp 59 145 (.bool false) rfl hx4b ?_
    refine hp 60 146 (.bool false) rfl hx4b ?_
    refine wpAnyH_done (by kernel_rfl) ?_ _
    have HR8 := Lib.hid (HR7.out.non hx4b)
    have HV8 := Lib.hid (HV7.out.then_non hx4b)
    have HB := Lib.hid (blockN hx4b HB20.out)
    clear hc hx0a hx0b hx1a hx1b hx2a hx2b hx3a hx3b hx4a hx4b
    clear HB9 HB11 HB13 HB15 HB17 HB20 HR7 HV7
    go_wp2_with fail
    obtain ⟨U2, hU2⟩ : ∃ u, u = x4b.drew := ⟨_, rfl⟩
    have HR9 : Hid (BnR w C b1 bs bd pd ps pm U2) := Lib.hid (by rw [hU2]; exact HR8.out.non (Chg.refl Non x4b).drew)
    have HV9 : Hid (Chg Non wr U2) := Lib.hid (by rw [hU2]; exact HV8.out.drew)
    have HB20 : Hid (U2.heap[v5.heap.size]? = some (.cells choZ 53 (0, 0))) := Lib.hid (by rw [hU2]; exact HB.out)
    refine wp_region_held_drew (S := Chg Non U2) (by kernel_rfl) (by rw [hU2]; exact Chg.refl _ _) (fun _ => ?_)
    rw [← hU2]
    clear hU2 HB HR8 HV8
    have hc : Chg Non U2 U2 := Chg.refl _ _
    refine hp 0 148 (.slice (some ⟨bs, 0, none⟩) 3 3) rfl hc ?_
    refine hp 1 149 (.int .i64 0) rfl hc ?_
    refine hp 2 150 (.pointer (some ⟨bs, 0, none⟩)) rfl hc ?_
    refine hp 3 151 (.pointer none) rfl hc ?_ (he := (fun W e => by have := blk_cell (HR9.out.non e).l 0 (v := .pointer none) rfl; go_simp))
    refine h_load 4 (some 152) 30 (.tmp 1) b1 0 C _ rfl (by kernel_rfl) (by kernel_rfl) (by kernel_rfl) (by kernel_rfl) (by kernel_rfl) (fun _ _ _ h => h) (by kernel_rfl) (by kernel_rfl) (fun w h => row_range (HR9.out.non h).c) Tryz.underlying30 rfl (by rw [HSz.out]; kernel_rfl) hc ?_
    try simp only [Act.put, sA, sB, sC]
    refine hTwo 5 9 (by kernel_rfl) rfl rfl (by kernel_rfl) (by kernel_rfl) ?_ ?_
    ·intro K hK
     go_simp
     refine (HF.out _ (HV9.out.then_non hc)).mono ?_
     rintro e y ⟨⟨z, hz, rfl⟩, hg⟩
     have hcy : Chg Non U2 y := hc.then_non hg
     clear hg
     refine hK.out _ _ hcy (fun _ => ?_)
     clear hK K
     try simp only [Act.put, sA, sB, sC]
     refine hp 6 147 (.tuple #[.agg choZ, .int .i64 z]) rfl hcy ?_
     refine hp 7 154 (.agg choZ) rfl hcy ?_
     refine hp 8 155 (.int .i64 z) rfl hcy ?_
     refine h_one 9 (by kernel_rfl) rfl (by kernel_rfl) ?_
     intro K hK
     go_simp
     have hc2 : Chg Non U2 (y.alloc (.cells choZ 48)) := hcy.alloc _
     refine hK.out _ _ hc2 (fun _ => ?_)
     clear hK K
     try simp only [Act.put, sA, sB, sC]
     have HNB := Lib.hid (blk_new y (.cells choZ 48))
     have HSz2 : Hid (U2.heap.size ≤ y.heap.size) := Lib.hid hcy.size
     refine h_store 10 48 (.tmp 21) (.tmp 154) y.heap.size choZ (by kernel_rfl) rfl (by kernel_rfl) (by kernel_rfl) (by kernel_rfl) (by kernel_rfl) (by kernel_rfl) 48 ⟨_, HNB.out, rfl⟩ info_cho choZ_one (fun W h1 h2 => hc2.then_new h1 (fun x e => by have := HSz2.out; omega)) ?_
     intro y3 k1 k2
     have hc3 : Chg Non U2 y3 := hc2.then_new k1 (fun x e => by have := HSz2.out; omega)
     have HB21 := Lib.hid k2
     clear k1 k2
     refine hp 11 22 (.int .i64 z) rfl hc3 ?_
     refine wpAnyH_done (by kernel_rfl) ?_ _
     have HRa := Lib.hid (HR9.out.non hc3)
     have HBa := Lib.hid (blockN hc3 HB20.out)
     clear hc3
     go_wp2_with fail
     obtain ⟨U3, hU3⟩ : ∃ u, u = y3.drew := ⟨_, rfl⟩
     have HRb : Hid (BnR w C b1 bs bd pd ps pm U3) := Lib.hid (by rw [hU3]; exact HRa.out.non (Chg.refl Non y3).drew)
     have HBb : Hid (U3.heap[v5.heap.size]? = some (.cells choZ 53 (0, 0))) := Lib.hid (by rw [hU3]; exact HBa.out)
     have HBc : Hid (U3.heap[y.heap.size]? = some (.cells choZ 48 (0, 0))) := Lib.hid (by rw [hU3]; exact HB21.out)
     refine wp_region_held_drew (S := Chg Non U3) (by kernel_rfl) (by rw [hU3]; exact Chg.refl _ _) (fun _ => ?_)
     rw [← hU3]
     clear hU3
     have hd : Chg Non U3 U3 := Chg.refl _ _
     refine h_load 0 (some 156) 48 (.tmp 21) y.heap.size 0 choZ _ rfl (by kernel_rfl) (by kernel_rfl) (by kernel_rfl) (by kernel_rfl) (by kernel_rfl) (fun _ _ _ h => h) (by kernel_rfl) (by kernel_rfl) (fun w h => row_range (blockN h HBc.out)) Tryz.underlying48 rfl info_cho hd ?_
     try simp only [Act.put, sA, sB, sC]
     refine h_load 2 (some 158) 53 (.tmp 20) v5.heap.size 0 choZ _ rfl (by kernel_rfl) (by kernel_rfl) (by kernel_rfl) (by kernel_rfl) (by kernel_rfl) (fun _ _ _ h => h) (by kernel_rfl) (by kernel_rfl) (fun w h => row_range (blockN h HBb.out)) Tryz.underlying53 rfl info_choR hd ?_
     try simp only [Act.put, sA, sB, sC]
     refine h_one 1 (by kernel_rfl) rfl (by kernel_rfl) ?_
     intro K hK
     go_simp
     refine (asZ _).mono ?_
     rintro e z1 ⟨rfl, hg⟩
     have hz1 : Chg Non U3 z1 := hd.then_non hg
     clear hg
     refine hK.out _ _ hz1 (fun _ => ?_)
     clear hK K
     try simp only [Act.put, sA, sB, sC]
     refine h_one 3 (by kernel_rfl) rfl (by kernel_rfl) ?_
     intro K hK
     go_simp
     refine (same26 _).mono ?_
     rintro e z2 ⟨rfl, hg⟩
     have hz2 : Chg Non U3 z2 := hz1.then_non hg
     clear hg
     refine hK.out _ _ hz2 (fun _ => ?_)
     clear hK K
     try simp only [Act.put, sA, sB, sC]
     refine hp 4 160 (.bool false) rfl hz2 ?_
     refine hp 5 161 (.bool false) rfl hz2 ?_
     rcases hz with rfl | ⟨he, rfl⟩
     ·refine hp 6 162 (.int .i64 1) rfl hz2 ?_
      refine hp 7 163 (.int .i64 1) rfl hz2 ?_
      refine hp 8 164 (.bool false) rfl hz2 ?_
      refine hp 9 165 (.bool false) rfl hz2 ?_
      refine hs 10 166 rfl hz2 ?_
      refine hs 11 167 rfl hz2 ?_
      refine hs 12 168 rfl hz2 ?_
      refine hs 13 169 rfl hz2 ?_
      refine hs 14 170 rfl hz2 ?_
      refine hs 15 171 rfl hz2 ?_
      refine hp 16 172 (.bool false) rfl hz2 ?_
      refine hp 17 173 (.bool false) rfl hz2 ?_
      refine wpAnyH_done (by kernel_rfl) ?_ _
      have HRz := Lib.hid (HRb.out.non hz2)
      clear hz1 hz2 hd
      go_wp2_with fail
      case roundEnd => exact ⟨⟨1, by omega, rfl, HRz.out⟩, by simp [intOf]⟩
     ·omega
    ·intro K hK
     go_simp
     have hc2 : Chg Non U2 (U2.alloc (.cells choZ 48)) := hc.alloc _
     refine hK.out _ _ hc2 (fun _ => ?_)
     clear hK K
     try simp only [Act.put, sA, sB, sC]
     have HNB := Lib.hid (blk_new U2 (.cells choZ 48))
     have HSz2 : Hid (U2.heap.size ≤ U2.heap.size) := Lib.hid (Nat.le_refl _)
     refine h_one 5 (by kernel_rfl) rfl (by kernel_rfl) ?_
     intro K hK
     go_simp
     refine (HF.out _ (HV9.out.then_non hc2)).mono ?_
     rintro e y ⟨⟨z, hz, rfl⟩, hg⟩
     have hcy : Chg Non U2 y := hc2.then_non hg
     have HNB := Lib.hid (blk_keep HNB.out hg (fun e => e))
     clear hg
     refine hK.out _ _ hcy (fun _ => ?_)
     clear hK K
     try simp only [Act.put, sA, sB, sC]
     refine hp 6 147 (.tuple #[.agg choZ, .int .i64 z]) rfl hcy ?_
     refine hp 7 154 (.agg choZ) rfl hcy ?_
     refine hp 8 155 (.int .i64 z) rfl hcy ?_
     refine h_store 10 48 (.tmp 21) (.tmp 154) U2.heap.size choZ (by kernel_rfl) rfl (by kernel_rfl) (by kernel_rfl) (by kernel_rfl) (by kernel_rfl) (by kernel_rfl) 48 ⟨_, HNB.out, rfl⟩ info_cho choZ_one (fun W h1 h2 => hcy.then_new h1 (fun x e => by have := HSz2.out; omega)) ?_
     intro y3 k1 k2
     have hc3 : Chg Non U2 y3 := hcy.then_new k1 (fun x e => by have := HSz2.out; omega)
     have HB21 := Lib.hid k2
     clear k1 k2
     refine hp 11 22 (.int .i64 z) rfl hc3 ?_
     refine wpAnyH_done (by kernel_rfl) ?_ _
     have HRa := Lib.hid (HR9.out.non hc3)
     have HBa := Lib.hid (blockN hc3 HB20.out)
     clear hc3
     go_wp2_with fail
     obtain ⟨U3, hU3⟩ : ∃ u, u = y3.drew := ⟨_, rfl⟩
     have HRb : Hid (BnR w C b1 bs bd pd ps pm U3) := Lib.hid (by rw [hU3]; exact HRa.out.non (Chg.refl Non y3).drew)
     have HBb : Hid (U3.heap[v5.heap.size]? = some (.cells choZ 53 (0, 0))) := Lib.hid (by rw [hU3]; exact HBa.out)
     have HBc : Hid (U3.heap[U2.heap.size]? = some (.cells choZ 48 (0, 0))) := Lib.hid (by rw [hU3]; exact HB21.out)
     refine wp_region_held_drew (S := Chg Non U3) (by kernel_rfl) (by rw [hU3]; exact Chg.refl _ _) (fun _ => ?_)
     rw [← hU3]
     clear hU3
     have hd : Chg Non U3 U3 := Chg.refl _ _
     refine h_load 0 (some 156) 48 (.tmp 21) U2.heap.size 0 choZ _ rfl (by kernel_rfl) (by kernel_rfl) (by kernel_rfl) (by kernel_rfl) (by kernel_rfl) (fun _ _ _ h => h) (by kernel_rfl) (by kernel_rfl) (fun w h => row_range (blockN h HBc.out)) Tryz.underlying48 rfl info_cho hd ?_
     try simp only [Act.put, sA, sB, sC]
     refine h_load 2 (some 158) 53 (.tmp 20) v5.heap.size 0 choZ _ rfl (by kernel_rfl) (by kernel_rfl) (by kernel_rfl) (by kernel_rfl) (by kernel_rfl) (fun _ _ _ h => h) (by kernel_rfl) (by kernel_rfl) (fun w h => row_range (blockN h HBb.out)) Tryz.underlying53 rfl info_choR hd ?_
     try simp only [Act.put, sA, sB, sC]
     refine h_one 1 (by kernel_rfl) rfl (by kernel_rfl) ?_
     intro K hK
     go_simp
     refine (asZ _).mono ?_
     rintro e z1 ⟨rfl, hg⟩
     have hz1 : Chg Non U3 z1 := hd.then_non hg
     clear hg
     refine hK.out _ _ hz1 (fun _ => ?_)
     clear hK K
     try simp only [Act.put, sA, sB, sC]
     refine h_one 3 (by kernel_rfl) rfl (by kernel_rfl) ?_
     intro K hK
     go_simp
     refine (same26 _).mono ?_
     rintro e z2 ⟨rfl, hg⟩
     have hz2 : Chg Non U3 z2 := hz1.then_non hg
     clear hg
     refine hK.out _ _ hz2 (fun _ => ?_)
     clear hK K
     try simp only [Act.put, sA, sB, sC]
     refine hp 4 160 (.bool false) rfl hz2 ?_
     refine hp 5 161 (.bool false) rfl hz2 ?_
     rcases hz with rfl | ⟨he, rfl⟩
     ·refine hp 6 162 (.int .i64 1) rfl hz2 ?_
      refine hp 7 163 (.int .i64 1) rfl hz2 ?_
      refine hp 8 164 (.bool false) rfl hz2 ?_
      refine hp 9 165 (.bool false) rfl hz2 ?_
      refine hs 10 166 rfl hz2 ?_
      refine hs 11 167 rfl hz2 ?_
      refine hs 12 168 rfl hz2 ?_
      refine hs 13 169 rfl hz2 ?_
      refine hs 14 170 rfl hz2 ?_
      refine hs 15 171 rfl hz2 ?_
      refine hp 16 172 (.bool false) rfl hz2 ?_
      refine hp 17 173 (.bool false) rfl hz2 ?_
      refine wpAnyH_done (by kernel_rfl) ?_ _
      have HRz := Lib.hid (HRb.out.non hz2)
      clear hz1 hz2 hd
      go_wp2_with fail
      case roundEnd => exact ⟨⟨1, by omega, rfl, HRz.out⟩, by simp [intOf]⟩
     ·omega
  ·as_aux_lemma =>
    have HG := Lib.hid (badG1 HR0.out)
    have HF := Lib.hid (badF1 HR0.out HFn.out HFs.out)
    have kl := blk_cell HR0.out.l 1 (v := .pointer (some ⟨bd, 0, none⟩)) rfl
    go_wp2_with fail
    refine (bLook (some ⟨bd, 0, none⟩) 1 _ (HG.out.non (Chg.refl Non _)) (by omega)).mono ?_
    rintro e u1 ⟨rfl, hg⟩
    have HX1 := Lib.hid hg
    clear hg kl
    go_wp2_with (first
      | (refine sel none (.store 48 (.tmp 9) (.tmp 50)) ?_
         refine wpList_store_rowA rfl 48 (.tmp 9) (.tmp 50) rfl u1.heap.size choZ rfl rfl 48 _ (heap_alloc_new _ _) info_cho rfl choZ_one ?_
         intro v1 k1 k2
         have hgn : Chg Non wr v1 := (HX1.out.alloc _).then_new k1 (fun x e => by have := HX1.out.size; omega)
         have HV1 := Lib.hid (hgn)
         have HR1 := Lib.hid (HR0.out.non hgn)
         have kl := blk_cell HR1.out.l 1 (v := .pointer (some ⟨bd, 0, none⟩)) rfl
         have HB9_1 := Lib.hid k2
         clear k1 k2 hgn))
    go_wp2_with fail
    refine (bAhead (some ⟨bd, 0, none⟩) 1 _ (HG.out.non HV1.out) (by omega)).mono ?_
    rintro e u2 ⟨rfl, hg⟩
    have HX2 := Lib.hid hg
    clear hg kl
    go_wp2_with (first
      | (refine sel none (.store 48 (.tmp 11) (.tmp 58)) ?_
         refine wpList_store_rowA rfl 48 (.tmp 11) (.tmp 58) rfl u2.heap.size choZ rfl rfl 48 _ (heap_alloc_new _ _) info_cho rfl choZ_one ?_
         intro v2 k1 k2
         have hgn : Chg Non v1 v2 := (HX2.out.alloc _).then_new k1 (fun x e => by have := HX2.out.size; omega)
         have HV2 := Lib.hid ((HV1.out.then_non hgn))
         have HR2 := Lib.hid (HR1.out.non hgn)
         have kl := blk_cell HR2.out.l 1 (v := .pointer (some ⟨bd, 0, none⟩)) rfl
         have HB9_2 := Lib.hid (blockN hgn HB9_1.out)
         have HB11_2 := Lib.hid k2
         clear k1 k2 hgn))
    go_wp2_with fail
    refine (bBack (some ⟨bd, 0, none⟩) 1 _ (HG.out.non HV2.out) (by omega)).mono ?_
    rintro e u3 ⟨rfl, hg⟩
    have HX3 := Lib.hid hg
    clear hg kl
    go_wp2_with (first
      | (refine sel none (.store 48 (.tmp 13) (.tmp 66)) ?_
         refine wpList_store_rowA rfl 48 (.tmp 13) (.tmp 66) rfl u3.heap.size choZ rfl rfl 48 _ (heap_alloc_new _ _) info_cho rfl choZ_one ?_
         intro v3 k1 k2
         have hgn : Chg Non v2 v3 := (HX3.out.alloc _).then_new k1 (fun x e => by have := HX3.out.size; omega)
         have HV3 := Lib.hid ((HV2.out.then_non hgn))
         have HR3 := Lib.hid (HR2.out.non hgn)
         have kl := blk_cell HR3.out.l 1 (v := .pointer (some ⟨bd, 0, none⟩)) rfl
         have HB9_3 := Lib.hid (blockN hgn HB9_2.out)
         have HB11_3 := Lib.hid (blockN hgn HB11_2.out)
         have HB13_3 := Lib.hid k2
         clear k1 k2 hgn))
    go_wp2_with fail
    refine (bConfirm (some ⟨bd, 0, none⟩) 1 _ (HG.out.non HV3.out) (by omega)).mono ?_
    rintro e u4 ⟨rfl, hg⟩
    have HX4 := Lib.hid hg
    clear hg kl
    go_wp2_with (first
      | (refine sel none (.store 48 (.tmp 15) (.tmp 74)) ?_
         refine wpList_store_rowA rfl 48 (.tmp 15) (.tmp 74) rfl u4.heap.size choZ rfl rfl 48 _ (heap_alloc_new _ _) info_cho rfl choZ_one ?_
         intro v4 k1 k2
         have hgn : Chg Non v3 v4 := (HX4.out.alloc _).then_new k1 (fun x e => by have := HX4.out.size; omega)
         have HV4 := Lib.hid ((HV3.out.then_non hgn))
         have HR4 := Lib.hid (HR3.out.non hgn)
         have kl := blk_cell HR4.out.l 1 (v := .pointer (some ⟨bd, 0, none⟩)) rfl
         have HB9_4 := Lib.hid (blockN hgn HB9_3.out)
         have HB11_4 := Lib.hid (blockN hgn HB11_3.out)
         have HB13_4 := Lib.hid (blockN hgn HB13_3.out)
         have HB15_4 := Lib.hid k2
         clear k1 k2 hgn))
    go_wp2_with fail
    refine (bStart (some ⟨bd, 0, none⟩) 1 _ (HG.out.non HV4.out) (by omega)).mono ?_
    rintro e u5 ⟨rfl, hg⟩
    have HX5 := Lib.hid hg
    clear hg kl
    go_wp2_with (first
      | (refine sel none (.store 48 (.tmp 17) (.tmp 82)) ?_
         refine wpList_store_rowA rfl 48 (.tmp 17) (.tmp 82) rfl u5.heap.size choZ rfl rfl 48 _ (heap_alloc_new _ _) info_cho rfl choZ_one ?_
         intro v5 k1 k2
         have hgn : Chg Non v4 v5 := (HX5.out.alloc _).then_new k1 (fun x e => by have := HX5.out.size; omega)
         have HV5 := Lib.hid ((HV4.out.then_non hgn))
         have HR5 := Lib.hid (HR4.out.non hgn)
         have kl := blk_cell HR5.out.l 1 (v := .pointer (some ⟨bd, 0, none⟩)) rfl
         have HB9_5 := Lib.hid (blockN hgn HB9_4.out)
         have HB11_5 := Lib.hid (blockN hgn HB11_4.out)
         have HB13_5 := Lib.hid (blockN hgn HB13_4.out)
         have HB15_5 := Lib.hid (blockN hgn HB15_4.out)
         have HB17_5 := Lib.hid k2
         clear k1 k2 hgn)
      | (refine sel (some 85) (.build 53 #[]) ?_
         refine wpList_pureW (some 85) (.agg choZ) rfl (by kernel_rfl) (by kernel_rfl) ?_)
      | (refine sel none (.store 53 (.tmp 20) (.tmp 85)) ?_
         refine wpList_store_rowA rfl 53 (.tmp 20) (.tmp 85) rfl v5.heap.size choZ rfl rfl 53 _ (heap_alloc_new _ _) info_choR rfl choZ_one ?_
         intro v6 k1 k2
         have hgn : Chg Non v5 v6 := ((Chg.refl Non v5).alloc _).then_new k1 (fun x e => by omega)
         have HV6 := Lib.hid (HV5.out.then_non hgn)
         have HR6 := Lib.hid (HR5.out.non hgn)
         have HB9_6 := Lib.hid (blockN hgn HB9_5.out)
         have HB11_6 := Lib.hid (blockN hgn HB11_5.out)
         have HB13_6 := Lib.hid (blockN hgn HB13_5.out)
         have HB15_6 := Lib.hid (blockN hgn HB15_5.out)
         have HB17_6 := Lib.hid (blockN hgn HB17_5.out)
         have HB20_6 := Lib.hid k2
         clear k1 k2 hgn kl))
    obtain ⟨U0, hU0⟩ : ∃ u, u = v6.drew := ⟨_, rfl⟩
    have HB9 : Hid (U0.heap[u1.heap.size]? = some (.cells choZ 48 (0, 0))) := Lib.hid (by rw [hU0]; exact HB9_6.out)
    have HB11 : Hid (U0.heap[u2.heap.size]? = some (.cells choZ 48 (0, 0))) := Lib.hid (by rw [hU0]; exact HB11_6.out)
    have HB13 : Hid (U0.heap[u3.heap.size]? = some (.cells choZ 48 (0, 0))) := Lib.hid (by rw [hU0]; exact HB13_6.out)
    have HB15 : Hid (U0.heap[u4.heap.size]? = some (.cells choZ 48 (0, 0))) := Lib.hid (by rw [hU0]; exact HB15_6.out)
    have HB17 : Hid (U0.heap[u5.heap.size]? = some (.cells choZ 48 (0, 0))) := Lib.hid (by rw [hU0]; exact HB17_6.out)
    have HB20 : Hid (U0.heap[v5.heap.size]? = some (.cells choZ 53 (0, 0))) := Lib.hid (by rw [hU0]; exact HB20_6.out)
    have HR7 : Hid (BnR w C b1 bs bd pd ps pm U0) := Lib.hid (by rw [hU0]; exact HR6.out.non (Chg.refl Non v6).drew)
    have HV7 : Hid (Chg Non wr U0) := Lib.hid (by rw [hU0]; exact HV6.out.drew)
    refine wp_region_held_drew (S := Chg Non U0) (by kernel_rfl) (by rw [hU0]; exact Chg.refl _ _) (fun _ => ?_)
    rw [← hU0]
    clear hU0
    have hc : Chg Non U0 U0 := Chg.refl _ _
    refine hp 0 86 (.int .i64 1) rfl hc ?_
    refine hp 1 87 (.int .i64 1) rfl hc ?_
    refine hp 2 88 (.bool false) rfl hc ?_
    refine hp 3 89 (.bool false) rfl hc ?_
    refine hp 4 90 (.int .i64 1) rfl hc ?_
    refine hp 5 91 (.int .i64 1) rfl hc ?_
    refine hp 6 92 (.bool false) rfl hc ?_
    refine hp 7 93 (.bool false) rfl hc ?_
    refine hp 8 94 (.bool false) rfl hc ?_
    refine hp 9 95 (.int .i64 1) rfl hc ?_
    refine hp 10 96 (.int .i64 1) rfl hc ?_
    refine hp 11 97 (.bool false) rfl hc ?_
    refine hp 12 98 (.bool false) rfl hc ?_
    refine hp 13 99 (.bool false) rfl hc ?_
    refine hp 14 100 (.int .i64 1) rfl hc ?_
    refine hp 15 101 (.int .i64 1) rfl hc ?_
    refine hp 16 102 (.bool false) rfl hc ?_
    refine hp 17 103 (.bool false) rfl hc ?_
    refine hp 18 104 (.bool false) rfl hc ?_
    refine hp 19 105 (.int .i64 1) rfl hc ?_
    refine hp 20 106 (.int .i64 1) rfl hc ?_
    refine hp 21 107 (.bool false) rfl hc ?_
    refine hp 22 108 (.bool false) rfl hc ?_
    refine hp 23 109 (.bool false) rfl hc ?_
    refine hp 24 110 (.bool false) rfl hc ?_
    refine hp 25 111 (.bool false) rfl hc ?_
    refine hp 26 112 (.bool false) rfl hc ?_
    refine h_load 27 (some 113) 48 (.tmp 9) u1.heap.size 0 choZ _ rfl (by kernel_rfl) (by kernel_rfl) (by kernel_rfl) (by kernel_rfl) (by kernel_rfl) (fun _ _ _ h => h) (by kernel_rfl) (by kernel_rfl) (fun w h => row_range (blockN h HB9.out)) Tryz.underlying48 rfl info_cho hc ?_
    try simp only [Act.put, sA, sB, sC]
    refine h_load 29 (some 115) 53 (.tmp 20) v5.heap.size 0 choZ _ rfl (by kernel_rfl) (by kernel_rfl) (by kernel_rfl) (by kernel_rfl) (by kernel_rfl) (fun _ _ _ h => h) (by kernel_rfl) (by kernel_rfl) (fun w h => row_range (blockN h HB20.out)) Tryz.underlying53 rfl info_choR hc ?_
    try simp only [Act.put, sA, sB, sC]
    refine h_one 28 (by kernel_rfl) rfl (by kernel_rfl) ?_
    intro K hK
    go_simp
    refine (asZ _).mono ?_
    rintro e x0a ⟨rfl, hg⟩
    have hx0a : Chg Non U0 x0a := hc.then_non hg
    clear hg
    refine hK.out _ _ hx0a (fun _ => ?_)
    clear hK K
    try simp only [Act.put, sA, sB, sC]
    refine h_one 30 (by kernel_rfl) rfl (by kernel_rfl) ?_
    intro K hK
    go_simp
    refine (same26 _).mono ?_
    rintro e x0b ⟨rfl, hg⟩
    have hx0b : Chg Non U0 x0b := hx0a.then_non hg
    clear hg
    refine hK.out _ _ hx0b (fun _ => ?_)
    clear hK K
    try simp only [Act.put, sA, sB, sC]
    refine hp 31 117 (.bool false) rfl hx0b ?_
    refine hp 32 118 (.bool false) rfl hx0b ?_
    refine hp 33 119 (.bool false) rfl hx0b ?_
    refine h_load 34 (some 120) 48 (.tmp 11) u2.heap.size 0 choZ _ rfl (by kernel_rfl) (by kernel_rfl) (by kernel_rfl) (by kernel_rfl) (by kernel_rfl) (fun _ _ _ h => h) (by kernel_rfl) (by kernel_rfl) (fun w h => row_range (blockN h HB11.out)) Tryz.underlying48 rfl info_cho hx0b ?_
    try simp only [Act.put, sA, sB, sC]
    refine h_load 36 (some 122) 53 (.tmp 20) v5.heap.size 0 choZ _ rfl (by kernel_rfl) (by kernel_rfl) (by kernel_rfl) (by kernel_rfl) (by kernel_rfl) (fun _ _ _ h => h) (by kernel_rfl) (by kernel_rfl) (fun w h => row_range (blockN h HB20.out)) Tryz.underlying53 rfl info_choR hx0b ?_
    try simp only [Act.put, sA, sB, sC]
    refine h_one 35 (by kernel_rfl) rfl (by kernel_rfl) ?_
    intro K hK
    go_simp
    refine (asZ _).mono ?_
    rintro e x1a ⟨rfl, hg⟩
    have hx1a : Chg Non U0 x1a := hx0b.then_non hg
    clear hg
    refine hK.out _ _ hx1a (fun _ => ?_)
    clear hK K
    try simp only [Act.put, sA, sB, sC]
    refine h_one 37 (by kernel_rfl) rfl (by kernel_rfl) ?_
    intro K hK
    go_simp
    refine (same26 _).mono ?_
    rintro e x1b ⟨rfl, hg⟩
    have hx1b : Chg Non U0 x1b := hx1a.then_non hg
    clear hg
    refine hK.out _ _ hx1b (fun _ => ?_)
    clear hK K
    try simp only [Act.put, sA, sB, sC]
    refine hp 38 124 (.bool false) rfl hx1b ?_
    refine hp 39 125 (.bool false) rfl hx1b ?_
    refine hp 40 126 (.bool false) rfl hx1b ?_
    refine h_load 41 (some 127) 48 (.tmp 13) u3.heap.size 0 choZ _ rfl (by kernel_rfl) (by kernel_rfl) (by kernel_rfl) (by kernel_rfl) (by kernel_rfl) (fun _ _ _ h => h) (by kernel_rfl) (by kernel_rfl) (fun w h => row_range (blockN h HB13.out)) Tryz.underlying48 rfl info_cho hx1b ?_
    try simp only [Act.put, sA, sB, sC]
    refine h_load 43 (some 129) 53 (.tmp 20) v5.heap.size 0 choZ _ rfl (by kernel_rfl) (by kernel_rfl) (by kernel_rfl) (by kernel_rfl) (by kernel_rfl) (fun _ _ _ h => h) (by kernel_rfl) (by kernel_rfl) (fun w h => row_range (blockN h HB20.out)) Tryz.underlying53 rfl info_choR hx1b ?_
    try simp only [Act.put, sA, sB, sC]
    refine h_one 42 (by kernel_rfl) rfl (by kernel_rfl) ?_
    intro K hK
    go_simp
    refine (asZ _).mono ?_
    rintro e x2a ⟨rfl, hg⟩
    have hx2a : Chg Non U0 x2a := hx1b.then_non hg
    clear hg
    refine hK.out _ _ hx2a (fun _ => ?_)
    clear hK K
    try simp only [Act.put, sA, sB, sC]
    refine h_one 44 (by kernel_rfl) rfl (by kernel_rfl) ?_
    intro K hK
    go_simp
    refine (same26 _).mono ?_
    rintro e x2b ⟨rfl, hg⟩
    have hx2b : Chg Non U0 x2b := hx2a.then_non hg
    clear hg
    refine hK.out _ _ hx2b (fun _ => ?_)
    clear hK K
    try simp only [Act.put, sA, sB, sC]
    refine hp 45 131 (.bool false) rfl hx2b ?_
    refine hp 46 132 (.bool false) rfl hx2b ?_
    refine hp 47 133 (.bool false) rfl hx2b ?_
    refine h_load 48 (some 134) 48 (.tmp 15) u4.heap.size 0 choZ _ rfl (by kernel_rfl) (by kernel_rfl) (by kernel_rfl) (by kernel_rfl) (by kernel_rfl) (fun _ _ _ h => h) (by kernel_rfl) (by kernel_rfl) (fun w h => row_range (blockN h HB15.out)) Tryz.underlying48 rfl info_cho hx2b ?_
    try simp only [Act.put, sA, sB, sC]
    refine h_load 50 (some 136) 53 (.tmp 20) v5.heap.size 0 choZ _ rfl (by kernel_rfl) (by kernel_rfl) (by kernel_rfl) (by kernel_rfl) (by kernel_rfl) (fun _ _ _ h => h) (by kernel_rfl) (by kernel_rfl) (fun w h => row_range (blockN h HB20.out)) Tryz.underlying53 rfl info_choR hx2b ?_
    try simp only [Act.put, sA, sB, sC]
    refine h_one 49 (by kernel_rfl) rfl (by kernel_rfl) ?_
    intro K hK
    go_simp
    refine (asZ _).mono ?_
    rintro e x3a ⟨rfl, hg⟩
    have hx3a : Chg Non U0 x3a := hx2b.then_non hg
    clear hg
    refine hK.out _ _ hx3a (fun _ => ?_)
    clear hK K
    try simp only [Act.put, sA, sB, sC]
    refine h_one 51 (by kernel_rfl) rfl (by kernel_rfl) ?_
    intro K hK
    go_simp
    refine (same26 _).mono ?_
    rintro e x3b ⟨rfl, hg⟩
    have hx3b : Chg Non U0 x3b := hx3a.then_non hg
    clear hg
    refine hK.out _ _ hx3b (fun _ => ?_)
    clear hK K
    try simp only [Act.put, sA, sB, sC]
    refine hp 52 138 (.bool false) rfl hx3b ?_
    refine hp 53 139 (.bool false) rfl hx3b ?_
    refine hp 54 140 (.bool false) rfl hx3b ?_
    refine h_load 55 (some 141) 48 (.tmp 17) u5.heap.size 0 choZ _ rfl (by kernel_rfl) (by kernel_rfl) (by kernel_rfl) (by kernel_rfl) (by kernel_rfl) (fun _ _ _ h => h) (by kernel_rfl) (by kernel_rfl) (fun w h => row_range (blockN h HB17.out)) Tryz.underlying48 rfl info_cho hx3b ?_
    try simp only [Act.put, sA, sB, sC]
    refine h_load 57 (some 143) 53 (.tmp 20) v5.heap.size 0 choZ _ rfl (by kernel_rfl) (by kernel_rfl) (by kernel_rfl) (by kernel_rfl) (by kernel_rfl) (fun _ _ _ h => h) (by kernel_rfl) (by kernel_rfl) (fun w h => row_range (blockN h HB20.out)) Tryz.underlying53 rfl info_choR hx3b ?_
    try simp only [Act.put, sA, sB, sC]
    refine h_one 56 (by kernel_rfl) rfl (by kernel_rfl) ?_
    intro K hK
    go_simp
    refine (asZ _).mono ?_
    rintro e x4a ⟨rfl, hg⟩
    have hx4a : Chg Non U0 x4a := hx3b.then_non hg
    clear hg
    refine hK.out _ _ hx4a (fun _ => ?_)
    clear hK K
    try simp only [Act.put, sA, sB, sC]
    refine h_one 58 (by kernel_rfl) rfl (by kernel_rfl) ?_
    intro K hK
    go_simp
    refine (same26 _).mono ?_
    rintro e x4b ⟨rfl, hg⟩
    have hx4b : Chg Non U0 x4b := hx4a.then_non hg
    clear hg
    refine hK.out _ _ hx4b (fun _ => ?_)
    clear hK K
    try simp only [Act.put, sA, sB, sC]
    refine hp 59 145 (.bool false) rfl hx4b ?_
    refine hp 60 146 (.bool false) rfl hx4b ?_
    refine wpAnyH_done (by kernel_rfl) ?_ _
    have HR8 := Lib.hid (HR7.out.non hx4b)
    have HV8 := Lib.hid (HV7.out.then_non hx4b)
    have HB := Lib.hid (blockN hx4b HB20.out)
    clear hc hx0a hx0b hx1a hx1b hx2a hx2b hx3a hx3b hx4a hx4b
    clear HB9 HB11 HB13 HB15 HB17 HB20 HR7 HV7
    go_wp2_with fail
    obtain ⟨U2, hU2⟩ : ∃ u, u = x4b.drew := ⟨_, rfl⟩
    have HR9 : Hid (BnR w C b1 bs bd pd ps pm U2) := Lib.hid (by rw [hU2]; exact HR8.out.non (Chg.refl Non x4b).drew)
    have HV9 : Hid (Chg Non wr U2) := Lib.hid (by rw [hU2]; exact HV8.out.drew)
    have HB20 : Hid (U2.heap[v5.heap.size]? = some (.cells choZ 53 (0, 0))) := Lib.hid (by rw [hU2]; exact HB.out)
    refine wp_region_held_drew (S := Chg Non U2) (by kernel_rfl) (by rw [hU2]; exact Chg.refl _ _) (fun _ => ?_)
    rw [← hU2]
    clear hU2 HB HR8 HV8
    have hc : Chg Non U2 U2 := Chg.refl _ _
    refine hp 0 148 (.slice (some ⟨bs, 0, none⟩) 3 3) rfl hc ?_
    refine hp 1 149 (.int .i64 1) rfl hc ?_
    refine hp 2 150 (.pointer (some ⟨bs, 1, none⟩)) rfl hc ?_
    refine hp 3 151 (.pointer (some ⟨bd, 0, none⟩)) rfl hc ?_ (he := (fun W e => by have := blk_cell (HR9.out.non e).l 1 (v := .pointer (some ⟨bd, 0, none⟩)) rfl; go_simp))
    refine h_load 4 (some 152) 30 (.tmp 1) b1 0 C _ rfl (by kernel_rfl) (by kernel_rfl) (by kernel_rfl) (by kernel_rfl) (by kernel_rfl) (fun _ _ _ h => h) (by kernel_rfl) (by kernel_rfl) (fun w h => row_range (HR9.out.non h).c) Tryz.underlying30 rfl (by rw [HSz.out]; kernel_rfl) hc ?_
    try simp only [Act.put, sA, sB, sC]
    refine hTwo 5 9 (by kernel_rfl) rfl rfl (by kernel_rfl) (by kernel_rfl) ?_ ?_
    ·intro K hK
     go_simp
     refine (HF.out _ (HV9.out.then_non hc)).mono ?_
     rintro e y ⟨⟨z, hz, rfl⟩, hg⟩
     have hcy : Chg Non U2 y := hc.then_non hg
     clear hg
     refine hK.out _ _ hcy (fun _ => ?_)
     clear hK K
     try simp only [Act.put, sA, sB, sC]
     refine hp 6 147 (.tuple #[.agg choZ, .int .i64 z]) rfl hcy ?_
     refine hp 7 154 (.agg choZ) rfl hcy ?_
     refine hp 8 155 (.int .i64 z) rfl hcy ?_
     refine h_one 9 (by kernel_rfl) rfl (by kernel_rfl) ?_
     intro K hK
     go_simp
     have hc2 : Chg Non U2 (y.alloc (.cells choZ 48)) := hcy.alloc _
     refine hK.out _ _ hc2 (fun _ => ?_)
     clear hK K
     try simp only [Act.put, sA, sB, sC]
     have HNB := Lib.hid (blk_new y (.cells choZ 48))
     have HSz2 : Hid (U2.heap.size ≤ y.heap.size) := Lib.hid hcy.size
     refine h_store 10 48 (.tmp 21) (.tmp 154) y.heap.size choZ (by kernel_rfl) rfl (by kernel_rfl) (by kernel_rfl) (by kernel_rfl) (by kernel_rfl) (by kernel_rfl) 48 ⟨_, HNB.out, rfl⟩ info_cho choZ_one (fun W h1 h2 => hc2.then_new h1 (fun x e => by have := HSz2.out; omega)) ?_
     intro y3 k1 k2
     have hc3 : Chg Non U2 y3 := hc2.then_new k1 (fun x e => by have := HSz2.out; omega)
     have HB21 := Lib.hid k2
     clear k1 k2
     refine hp 11 22 (.int .i64 z) rfl hc3 ?_
     refine wpAnyH_done (by kernel_rfl) ?_ _
     have HRa := Lib.hid (HR9.out.non hc3)
     have HBa := Lib.hid (blockN hc3 HB20.out)
     clear hc3
     go_wp2_with fail
     obtain ⟨U3, hU3⟩ : ∃ u, u = y3.drew := ⟨_, rfl⟩
     have HRb : Hid (BnR w C b1 bs bd pd ps pm U3) := Lib.hid (by rw [hU3]; exact HRa.out.non (Chg.refl Non y3).drew)
     have HBb : Hid (U3.heap[v5.heap.size]? = some (.cells choZ 53 (0, 0))) := Lib.hid (by rw [hU3]; exact HBa.out)
     have HBc : Hid (U3.heap[y.heap.size]? = some (.cells choZ 48 (0, 0))) := Lib.hid (by rw [hU3]; exact HB21.out)
     refine wp_region_held_drew (S := Chg Non U3) (by kernel_rfl) (by rw [hU3]; exact Chg.refl _ _) (fun _ => ?_)
     rw [← hU3]
     clear hU3
     have hd : Chg Non U3 U3 := Chg.refl _ _
     refine h_load 0 (some 156) 48 (.tmp 21) y.heap.size 0 choZ _ rfl (by kernel_rfl) (by kernel_rfl) (by kernel_rfl) (by kernel_rfl) (by kernel_rfl) (fun _ _ _ h => h) (by kernel_rfl) (by kernel_rfl) (fun w h => row_range (blockN h HBc.out)) Tryz.underlying48 rfl info_cho hd ?_
     try simp only [Act.put, sA, sB, sC]
     refine h_load 2 (some 158) 53 (.tmp 20) v5.heap.size 0 choZ _ rfl (by kernel_rfl) (by kernel_rfl) (by kernel_rfl) (by kernel_rfl) (by kernel_rfl) (fun _ _ _ h => h) (by kernel_rfl) (by kernel_rfl) (fun w h => row_range (blockN h HBb.out)) Tryz.underlying53 rfl info_choR hd ?_
     try simp only [Act.put, sA, sB, sC]
     refine h_one 1 (by kernel_rfl) rfl (by kernel_rfl) ?_
     intro K hK
     go_simp
     refine (asZ _).mono ?_
     rintro e z1 ⟨rfl, hg⟩
     have hz1 : Chg Non U3 z1 := hd.then_non hg
     clear hg
     refine hK.out _ _ hz1 (fun _ => ?_)
     clear hK K
     try simp only [Act.put, sA, sB, sC]
     refine h_one 3 (by kernel_rfl) rfl (by kernel_rfl) ?_
     intro K hK
     go_simp
     refine (same26 _).mono ?_
     rintro e z2 ⟨rfl, hg⟩
     have hz2 : Chg Non U3 z2 := hz1.then_non hg
     clear hg
     refine hK.out _ _ hz2 (fun _ => ?_)
     clear hK K
     try simp only [Act.put, sA, sB, sC]
     refine hp 4 160 (.bool false) rfl hz2 ?_
     refine hp 5 161 (.bool false) rfl hz2 ?_
     rcases hz with rfl | ⟨he, rfl⟩
     ·refine hp 6 162 (.int .i64 1) rfl hz2 ?_
      refine hp 7 163 (.int .i64 1) rfl hz2 ?_
      refine hp 8 164 (.bool false) rfl hz2 ?_
      refine hp 9 165 (.bool false) rfl hz2 ?_
      refine hs 10 166 rfl hz2 ?_
      refine hs 11 167 rfl hz2 ?_
      refine hs 12 168 rfl hz2 ?_
      refine hs 13 169 rfl hz2 ?_
      refine hs 14 170 rfl hz2 ?_
      refine hs 15 171 rfl hz2 ?_
      refine hp 16 172 (.bool false) rfl hz2 ?_
      refine hp 17 173 (.bool false) rfl hz2 ?_
      refine wpAnyH_done (by kernel_rfl) ?_ _
      have HRz := Lib.hid (HRb.out.non hz2)
      clear hz1 hz2 hd
      go_wp2_with fail
      case roundEnd => exact ⟨⟨2, by omega, rfl, HRz.out⟩, by simp [intOf]⟩
     ·omega
    ·intro K hK
     go_simp
     have hc2 : Chg Non U2 (U2.alloc (.cells choZ 48)) := hc.alloc _
     refine hK.out _ _ hc2 (fun _ => ?_)
     clear hK K
     try simp only [Act.put, sA, sB, sC]
     have HNB := Lib.hid (blk_new U2 (.cells choZ 48))
     have HSz2 : Hid (U2.heap.size ≤ U2.heap.size) := Lib.hid (Nat.le_refl _)
     refine h_one 5 (by kernel_rfl) rfl (by kernel_rfl) ?_
     intro K hK
     go_simp
     refine (HF.out _ (HV9.out.then_non hc2)).mono ?_
     rintro e y ⟨⟨z, hz, rfl⟩, hg⟩
     have hcy : Chg Non U2 y := hc2.then_non hg
     have HNB := Lib.hid (blk_keep HNB.out hg (fun e => e))
     clear hg
     refine hK.out _ _ hcy (fun _ => ?_)
     clear hK K
     try simp only [Act.put, sA, sB, sC]
     refine hp 6 147 (.tuple #[.agg choZ, .int .i64 z]) rfl hcy ?_
     refine hp 7 154 (.agg choZ) rfl hcy ?_
     refine hp 8 155 (.int .i64 z) rfl hcy ?_
     refine h_store 10 48 (.tmp 21) (.tmp 154) U2.heap.size choZ (by kernel_rfl) rfl (by kernel_rfl) (by kernel_rfl) (by kernel_rfl) (by kernel_rfl) (by kernel_rfl) 48 ⟨_, HNB.out, rfl⟩ info_cho choZ_one (fun W h1 h2 => hcy.then_new h1 (fun x e => by have := HSz2.out; omega)) ?_
     intro y3 k1 k2
     have hc3 : Chg Non U2 y3 := hcy.then_new k1 (fun x e => by have := HSz2.out; omega)
     have HB21 := Lib.hid k2
     clear k1 k2
     refine hp 11 22 (.int .i64 z) rfl hc3 ?_
     refine wpAnyH_done (by kernel_rfl) ?_ _
     have HRa := Lib.hid (HR9.out.non hc3)
     have HBa := Lib.hid (blockN hc3 HB20.out)
     clear hc3
     go_wp2_with fail
     obtain ⟨U3, hU3⟩ : ∃ u, u = y3.drew := ⟨_, rfl⟩
     have HRb : Hid (BnR w C b1 bs bd pd ps pm U3) := Lib.hid (by rw [hU3]; exact HRa.out.non (Chg.refl Non y3).drew)
     have HBb : Hid (U3.heap[v5.heap.size]? = some (.cells choZ 53 (0, 0))) := Lib.hid (by rw [hU3]; exact HBa.out)
     have HBc : Hid (U3.heap[U2.heap.size]? = some (.cells choZ 48 (0, 0))) := Lib.hid (by rw [hU3]; exact HB21.out)
     refine wp_region_held_drew (S := Chg Non U3) (by kernel_rfl) (by rw [hU3]; exact Chg.refl _ _) (fun _ => ?_)
     rw [← hU3]
     clear hU3
     have hd : Chg Non U3 U3 := Chg.refl _ _
     refine h_load 0 (some 156) 48 (.tmp 21) U2.heap.size 0 choZ _ rfl (by kernel_rfl) (by kernel_rfl) (by kernel_rfl) (by kernel_rfl) (by kernel_rfl) (fun _ _ _ h => h) (by kernel_rfl) (by kernel_rfl) (fun w h => row_range (blockN h HBc.out)) Tryz.underlying48 rfl info_cho hd ?_
     try simp only [Act.put, sA, sB, sC]
     refine h_load 2 (some 158) 53 (.tmp 20) v5.heap.size 0 choZ _ rfl (by kernel_rfl) (by kernel_rfl) (by kernel_rfl) (by kernel_rfl) (by kernel_rfl) (fun _ _ _ h => h) (by kernel_rfl) (by kernel_rfl) (fun w h => row_range (blockN h HBb.out)) Tryz.underlying53 rfl info_choR hd ?_
     try simp only [Act.put, sA, sB, sC]
     refine h_one 1 (by kernel_rfl) rfl (by kernel_rfl) ?_
     intro K hK
     go_simp
     refine (asZ _).mono ?_
     rintro e z1 ⟨rfl, hg⟩
     have hz1 : Chg Non U3 z1 := hd.then_non hg
     clear hg
     refine hK.out _ _ hz1 (fun _ => ?_)
     clear hK K
     try simp only [Act.put, sA, sB, sC]
     refine h_one 3 (by kernel_rfl) rfl (by kernel_rfl) ?_
     intro K hK
     go_simp
     refine (same26 _).mono ?_
     rintro e z2 ⟨rfl, hg⟩
     have hz2 : Chg Non U3 z2 := hz1.then_non hg
     clear hg
     refine hK.out _ _ hz2 (fun _ => ?_)
     clear hK K
     try simp only [Act.put, sA, sB, sC]
     refine hp 4 160 (.bool false) rfl hz2 ?_
     refine hp 5 161 (.bool false) rfl hz2 ?_
     rcases hz with rfl | ⟨he, rfl⟩
     ·refine hp 6 162 (.int .i64 1) rfl hz2 ?_
      refine hp 7 163 (.int .i64 1) rfl hz2 ?_
      refine hp 8 164 (.bool false) rfl hz2 ?_
      refine hp 9 165 (.bool false) rfl hz2 ?_
      refine hs 10 166 rfl hz2 ?_
      refine hs 11 167 rfl hz2 ?_
      refine hs 12 168 rfl hz2 ?_
      refine hs 13 169 rfl hz2 ?_
      refine hs 14 170 rfl hz2 ?_
      refine hs 15 171 rfl hz2 ?_
      refine hp 16 172 (.bool false) rfl hz2 ?_
      refine hp 17 173 (.bool false) rfl hz2 ?_
      refine wpAnyH_done (by kernel_rfl) ?_ _
      have HRz := Lib.hid (HRb.out.non hz2)
      clear hz1 hz2 hd
      go_wp2_with fail
      case roundEnd => exact ⟨⟨2, by omega, rfl, HRz.out⟩, by simp [intOf]⟩
     ·omega
  ·as_aux_lemma =>
    have HG := Lib.hid (badG2 HR0.out)
    have HF := Lib.hid (badF2 HR0.out HFn.out HFs.out)
    have kl := blk_cell HR0.out.l 2 (v := .pointer (some ⟨pd, 0, none⟩)) rfl
    go_wp2_with fail
    refine (bLook (some ⟨pd, 0, none⟩) 61 _ (HG.out.non (Chg.refl Non _)) (by omega)).mono ?_
    rintro e u1 ⟨rfl, hg⟩
    have HX1 := Lib.hid hg
    clear hg kl
    go_wp2_with (first
      | (refine sel none (.store 48 (.tmp 9) (.tmp 50)) ?_
         refine wpList_store_rowA rfl 48 (.tmp 9) (.tmp 50) rfl u1.heap.size choZ rfl rfl 48 _ (heap_alloc_new _ _) info_cho rfl choZ_one ?_
         intro v1 k1 k2
         have hgn : Chg Non wr v1 := (HX1.out.alloc _).then_new k1 (fun x e => by have := HX1.out.size; omega)
         have HV1 := Lib.hid (hgn)
         have HR1 := Lib.hid (HR0.out.non hgn)
         have kl := blk_cell HR1.out.l 2 (v := .pointer (some ⟨pd, 0, none⟩)) rfl
         have HB9_1 := Lib.hid k2
         clear k1 k2 hgn))
    go_wp2_with fail
    refine (bAhead (some ⟨pd, 0, none⟩) 61 _ (HG.out.non HV1.out) (by omega)).mono ?_
    rintro e u2 ⟨rfl, hg⟩
    have HX2 := Lib.hid hg
    clear hg kl
    go_wp2_with (first
      | (refine sel none (.store 48 (.tmp 11) (.tmp 58)) ?_
         refine wpList_store_rowA rfl 48 (.tmp 11) (.tmp 58) rfl u2.heap.size choZ rfl rfl 48 _ (heap_alloc_new _ _) info_cho rfl choZ_one ?_
         intro v2 k1 k2
         have hgn : Chg Non v1 v2 := (HX2.out.alloc _).then_new k1 (fun x e => by have := HX2.out.size; omega)
         have HV2 := Lib.hid ((HV1.out.then_non hgn))
         have HR2 := Lib.hid (HR1.out.non hgn)
         have kl := blk_cell HR2.out.l 2 (v := .pointer (some ⟨pd, 0, none⟩)) rfl
         have HB9_2 := Lib.hid (blockN hgn HB9_1.out)
         have HB11_2 := Lib.hid k2
         clear k1 k2 hgn))
    go_wp2_with fail
    refine (bBack (some ⟨pd, 0, none⟩) 61 _ (HG.out.non HV2.out) (by omega)).mono ?_
    rintro e u3 ⟨rfl, hg⟩
    have HX3 := Lib.hid hg
    clear hg kl
    go_wp2_with (first
      | (refine sel none (.store 48 (.tmp 13) (.tmp 66)) ?_
         refine wpList_store_rowA rfl 48 (.tmp 13) (.tmp 66) rfl u3.heap.size choZ rfl rfl 48 _ (heap_alloc_new _ _) info_cho rfl choZ_one ?_
         intro v3 k1 k2
         have hgn : Chg Non v2 v3 := (HX3.out.alloc _).then_new k1 (fun x e => by have := HX3.out.size; omega)
         have HV3 := Lib.hid ((HV2.out.then_non hgn))
         have HR3 := Lib.hid (HR2.out.non hgn)
         have kl := blk_cell HR3.out.l 2 (v := .pointer (some ⟨pd, 0, none⟩)) rfl
         have HB9_3 := Lib.hid (blockN hgn HB9_2.out)
         have HB11_3 := Lib.hid (blockN hgn HB11_2.out)
         have HB13_3 := Lib.hid k2
         clear k1 k2 hgn))
    go_wp2_with fail
    refine (bConfirm (some ⟨pd, 0, none⟩) 61 _ (HG.out.non HV3.out) (by omega)).mono ?_
    rintro e u4 ⟨rfl, hg⟩
    have HX4 := Lib.hid hg
    clear hg kl
    go_wp2_with (first
      | (refine sel none (.store 48 (.tmp 15) (.tmp 74)) ?_
         refine wpList_store_rowA rfl 48 (.tmp 15) (.tmp 74) rfl u4.heap.size choZ rfl rfl 48 _ (heap_alloc_new _ _) info_cho rfl choZ_one ?_
         intro v4 k1 k2
         have hgn : Chg Non v3 v4 := (HX4.out.alloc _).then_new k1 (fun x e => by have := HX4.out.size; omega)
         have HV4 := Lib.hid ((HV3.out.then_non hgn))
         have HR4 := Lib.hid (HR3.out.non hgn)
         have kl := blk_cell HR4.out.l 2 (v := .pointer (some ⟨pd, 0, none⟩)) rfl
         have HB9_4 := Lib.hid (blockN hgn HB9_3.out)
         have HB11_4 := Lib.hid (blockN hgn HB11_3.out)
         have HB13_4 := Lib.hid (blockN hgn HB13_3.out)
         have HB15_4 := Lib.hid k2
         clear k1 k2 hgn))
    go_wp2_with fail
    refine (bStart (some ⟨pd, 0, none⟩) 61 _ (HG.out.non HV4.out) (by omega)).mono ?_
    rintro e u5 ⟨rfl, hg⟩
    have HX5 := Lib.hid hg
    clear hg kl
    go_wp2_with (first
      | (refine sel none (.store 48 (.tmp 17) (.tmp 82)) ?_
         refine wpList_store_rowA rfl 48 (.tmp 17) (.tmp 82) rfl u5.heap.size choZ rfl rfl 48 _ (heap_alloc_new _ _) info_cho rfl choZ_one ?_
         intro v5 k1 k2
         have hgn : Chg Non v4 v5 := (HX5.out.alloc _).then_new k1 (fun x e => by have := HX5.out.size; omega)
         have HV5 := Lib.hid ((HV4.out.then_non hgn))
         have HR5 := Lib.hid (HR4.out.non hgn)
         have kl := blk_cell HR5.out.l 2 (v := .pointer (some ⟨pd, 0, none⟩)) rfl
         have HB9_5 := Lib.hid (blockN hgn HB9_4.out)
         have HB11_5 := Lib.hid (blockN hgn HB11_4.out)
         have HB13_5 := Lib.hid (blockN hgn HB13_4.out)
         have HB15_5 := Lib.hid (blockN hgn HB15_4.out)
         have HB17_5 := Lib.hid k2
         clear k1 k2 hgn)
      | (refine sel (some 85) (.build 53 #[]) ?_
         refine wpList_pureW (some 85) (.agg choZ) rfl (by kernel_rfl) (by kernel_rfl) ?_)
      | (refine sel none (.store 53 (.tmp 20) (.tmp 85)) ?_
         refine wpList_store_rowA rfl 53 (.tmp 20) (.tmp 85) rfl v5.heap.size choZ rfl rfl 53 _ (heap_alloc_new _ _) info_choR rfl choZ_one ?_
         intro v6 k1 k2
         have hgn : Chg Non v5 v6 := ((Chg.refl Non v5).alloc _).then_new k1 (fun x e => by omega)
         have HV6 := Lib.hid (HV5.out.then_non hgn)
         have HR6 := Lib.hid (HR5.out.non hgn)
         have HB9_6 := Lib.hid (blockN hgn HB9_5.out)
         have HB11_6 := Lib.hid (blockN hgn HB11_5.out)
         have HB13_6 := Lib.hid (blockN hgn HB13_5.out)
         have HB15_6 := Lib.hid (blockN hgn HB15_5.out)
         have HB17_6 := Lib.hid (blockN hgn HB17_5.out)
         have HB20_6 := Lib.hid k2
         clear k1 k2 hgn kl))
    obtain ⟨U0, hU0⟩ : ∃ u, u = v6.drew := ⟨_, rfl⟩
    have HB9 : Hid (U0.heap[u1.heap.size]? = some (.cells choZ 48 (0, 0))) := Lib.hid (by rw [hU0]; exact HB9_6.out)
    have HB11 : Hid (U0.heap[u2.heap.size]? = some (.cells choZ 48 (0, 0))) := Lib.hid (by rw [hU0]; exact HB11_6.out)
    have HB13 : Hid (U0.heap[u3.heap.size]? = some (.cells choZ 48 (0, 0))) := Lib.hid (by rw [hU0]; exact HB13_6.out)
    have HB15 : Hid (U0.heap[u4.heap.size]? = some (.cells choZ 48 (0, 0))) := Lib.hid (by rw [hU0]; exact HB15_6.out)
    have HB17 : Hid (U0.heap[u5.heap.size]? = some (.cells choZ 48 (0, 0))) := Lib.hid (by rw [hU0]; exact HB17_6.out)
    have HB20 : Hid (U0.heap[v5.heap.size]? = some (.cells choZ 53 (0, 0))) := Lib.hid (by rw [hU0]; exact HB20_6.out)
    have HR7 : Hid (BnR w C b1 bs bd pd ps pm U0) := Lib.hid (by rw [hU0]; exact HR6.out.non (Chg.refl Non v6).drew)
    have HV7 : Hid (Chg Non wr U0) := Lib.hid (by rw [hU0]; exact HV6.out.drew)
    refine wp_region_held_drew (S := Chg Non U0) (by kernel_rfl) (by rw [hU0]; exact Chg.refl _ _) (fun _ => ?_)
    rw [← hU0]
    clear hU0
    have hc : Chg Non U0 U0 := Chg.refl _ _
    refine hp 0 86 (.int .i64 61) rfl hc ?_
    refine hp 1 87 (.int .i64 61) rfl hc ?_
    refine hp 2 88 (.bool false) rfl hc ?_
    refine hp 3 89 (.bool false) rfl hc ?_
    refine hp 4 90 (.int .i64 61) rfl hc ?_
    refine hp 5 91 (.int .i64 61) rfl hc ?_
    refine hp 6 92 (.bool false) rfl hc ?_
    refine hp 7 93 (.bool false) rfl hc ?_
    refine hp 8 94 (.bool false) rfl hc ?_
    refine hp 9 95 (.int .i64 61) rfl hc ?_
    refine hp 10 96 (.int .i64 61) rfl hc ?_
    refine hp 11 97 (.bool false) rfl hc ?_
    refine hp 12 98 (.bool false) rfl hc ?_
    refine hp 13 99 (.bool false) rfl hc ?_
    refine hp 14 100 (.int .i64 61) rfl hc ?_
    refine hp 15 101 (.int .i64 61) rfl hc ?_
    refine hp 16 102 (.bool false) rfl hc ?_
    refine hp 17 103 (.bool false) rfl hc ?_
    refine hp 18 104 (.bool false) rfl hc ?_
    refine hp 19 105 (.int .i64 61) rfl hc ?_
    refine hp 20 106 (.int .i64 61) rfl hc ?_
    refine hp 21 107 (.bool false) rfl hc ?_
    refine hp 22 108 (.bool false) rfl hc ?_
    refine hp 23 109 (.bool false) rfl hc ?_
    refine hp 24 110 (.bool false) rfl hc ?_
    refine hp 25 111 (.bool false) rfl hc ?_
    refine hp 26 112 (.bool false) rfl hc ?_
    refine h_load 27 (some 113) 48 (.tmp 9) u1.heap.size 0 choZ _ rfl (by kernel_rfl) (by kernel_rfl) (by kernel_rfl) (by kernel_rfl) (by kernel_rfl) (fun _ _ _ h => h) (by kernel_rfl) (by kernel_rfl) (fun w h => row_range (blockN h HB9.out)) Tryz.underlying48 rfl info_cho hc ?_
    try simp only [Act.put, sA, sB, sC]
    refine h_load 29 (some 115) 53 (.tmp 20) v5.heap.size 0 choZ _ rfl (by kernel_rfl) (by kernel_rfl) (by kernel_rfl) (by kernel_rfl) (by kernel_rfl) (fun _ _ _ h => h) (by kernel_rfl) (by kernel_rfl) (fun w h => row_range (blockN h HB20.out)) Tryz.underlying53 rfl info_choR hc ?_
    try simp only [Act.put, sA, sB, sC]
    refine h_one 28 (by kernel_rfl) rfl (by kernel_rfl) ?_
    intro K hK
    go_simp
    refine (asZ _).mono ?_
    rintro e x0a ⟨rfl, hg⟩
    have hx0a : Chg Non U0 x0a := hc.then_non hg
    clear hg
    refine hK.out _ _ hx0a (fun _ => ?_)
    clear hK K
    try simp only [Act.put, sA, sB, sC]
    refine h_one 30 (by kernel_rfl) rfl (by kernel_rfl) ?_
    intro K hK
    go_simp
    refine (same26 _).mono ?_
    rintro e x0b ⟨rfl, hg⟩
    have hx0b : Chg Non U0 x0b := hx0a.then_non hg
    clear hg
    refine hK.out _ _ hx0b (fun _ => ?_)
    clear hK K
    try simp only [Act.put, sA, sB, sC]
    refine hp 31 117 (.bool false) rfl hx0b ?_
    refine hp 32 118 (.bool false) rfl hx0b ?_
    refine hp 33 119 (.bool false) rfl hx0b ?_
    refine h_load 34 (some 120) 48 (.tmp 11) u2.heap.size 0 choZ _ rfl (by kernel_rfl) (by kernel_rfl) (by kernel_rfl) (by kernel_rfl) (by kernel_rfl) (fun _ _ _ h => h) (by kernel_rfl) (by kernel_rfl) (fun w h => row_range (blockN h HB11.out)) Tryz.underlying48 rfl info_cho hx0b ?_
    try simp only [Act.put, sA, sB, sC]
    refine h_load 36 (some 122) 53 (.tmp 20) v5.heap.size 0 choZ _ rfl (by kernel_rfl) (by kernel_rfl) (by kernel_rfl) (by kernel_rfl) (by kernel_rfl) (fun _ _ _ h => h) (by kernel_rfl) (by kernel_rfl) (fun w h => row_range (blockN h HB20.out)) Tryz.underlying53 rfl info_choR hx0b ?_
    try simp only [Act.put, sA, sB, sC]
    refine h_one 35 (by kernel_rfl) rfl (by kernel_rfl) ?_
    intro K hK
    go_simp
    refine (asZ _).mono ?_
    rintro e x1a ⟨rfl, hg⟩
    have hx1a : Chg Non U0 x1a := hx0b.then_non hg
    clear hg
    refine hK.out _ _ hx1a (fun _ => ?_)
    clear hK K
    try simp only [Act.put, sA, sB, sC]
    refine h_one 37 (by kernel_rfl) rfl (by kernel_rfl) ?_
    intro K hK
    go_simp
    refine (same26 _).mono ?_
    rintro e x1b ⟨rfl, hg⟩
    have hx1b : Chg Non U0 x1b := hx1a.then_non hg
    clear hg
    refine hK.out _ _ hx1b (fun _ => ?_)
    clear hK K
    try simp only [Act.put, sA, sB, sC]
    refine hp 38 124 (.bool false) rfl hx1b ?_
    refine hp 39 125 (.bool false) rfl hx1b ?_
    refine hp 40 126 (.bool false) rfl hx1b ?_
    refine h_load 41 (some 127) 48 (.tmp 13) u3.heap.size 0 choZ _ rfl (by kernel_rfl) (by kernel_rfl) (by kernel_rfl) (by kernel_rfl) (by kernel_rfl) (fun _ _ _ h => h) (by kernel_rfl) (by kernel_rfl) (fun w h => row_range (blockN h HB13.out)) Tryz.underlying48 rfl info_cho hx1b ?_
    try simp only [Act.put, sA, sB, sC]
    refine h_load 43 (some 129) 53 (.tmp 20) v5.heap.size 0 choZ _ rfl (by kernel_rfl) (by kernel_rfl) (by kernel_rfl) (by kernel_rfl) (by kernel_rfl) (fun _ _ _ h => h) (by kernel_rfl) (by kernel_rfl) (fun w h => row_range (blockN h HB20.out)) Tryz.underlying53 rfl info_choR hx1b ?_
    try simp only [Act.put, sA, sB, sC]
    refine h_one 42 (by kernel_rfl) rfl (by kernel_rfl) ?_
    intro K hK
    go_simp
    refine (asZ _).mono ?_
    rintro e x2a ⟨rfl, hg⟩
    have hx2a : Chg Non U0 x2a := hx1b.then_non hg
    clear hg
    refine hK.out _ _ hx2a (fun _ => ?_)
    clear hK K
    try simp only [Act.put, sA, sB, sC]
    refine h_one 44 (by kernel_rfl) rfl (by kernel_rfl) ?_
    intro K hK
    go_simp
    refine (same26 _).mono ?_
    rintro e x2b ⟨rfl, hg⟩
    have hx2b : Chg Non U0 x2b := hx2a.then_non hg
    clear hg
    refine hK.out _ _ hx2b (fun _ => ?_)
    clear hK K
    try simp only [Act.put, sA, sB, sC]
    refine hp 45 131 (.bool false) rfl hx2b ?_
    refine hp 46 132 (.bool false) rfl hx2b ?_
    refine hp 47 133 (.bool false) rfl hx2b ?_
    refine h_load 48 (some 134) 48 (.tmp 15) u4.heap.size 0 choZ _ rfl (by kernel_rfl) (by kernel_rfl) (by kernel_rfl) (by kernel_rfl) (by kernel_rfl) (fun _ _ _ h => h) (by kernel_rfl) (by kernel_rfl) (fun w h => row_range (blockN h HB15.out)) Tryz.underlying48 rfl info_cho hx2b ?_
    try simp only [Act.put, sA, sB, sC]
    refine h_load 50 (some 136) 53 (.tmp 20) v5.heap.size 0 choZ _ rfl (by kernel_rfl) (by kernel_rfl) (by kernel_rfl) (by kernel_rfl) (by kernel_rfl) (fun _ _ _ h => h) (by kernel_rfl) (by kernel_rfl) (fun w h => row_range (blockN h HB20.out)) Tryz.underlying53 rfl info_choR hx2b ?_
    try simp only [Act.put, sA, sB, sC]
    refine h_one 49 (by kernel_rfl) rfl (by kernel_rfl) ?_
    intro K hK
    go_simp
    refine (asZ _).mono ?_
    rintro e x3a ⟨rfl, hg⟩
    have hx3a : Chg Non U0 x3a := hx2b.then_non hg
    clear hg
    refine hK.out _ _ hx3a (fun _ => ?_)
    clear hK K
    try simp only [Act.put, sA, sB, sC]
    refine h_one 51 (by kernel_rfl) rfl (by kernel_rfl) ?_
    intro K hK
    go_simp
    refine (same26 _).mono ?_
    rintro e x3b ⟨rfl, hg⟩
    have hx3b : Chg Non U0 x3b := hx3a.then_non hg
    clear hg
    refine hK.out _ _ hx3b (fun _ => ?_)
    clear hK K
    try simp only [Act.put, sA, sB, sC]
    refine hp 52 138 (.bool false) rfl hx3b ?_
    refine hp 53 139 (.bool false) rfl hx3b ?_
    refine hp 54 140 (.bool false) rfl hx3b ?_
    refine h_load 55 (some 141) 48 (.tmp 17) u5.heap.size 0 choZ _ rfl (by kernel_rfl) (by kernel_rfl) (by kernel_rfl) (by kernel_rfl) (by kernel_rfl) (fun _ _ _ h => h) (by kernel_rfl) (by kernel_rfl) (fun w h => row_range (blockN h HB17.out)) Tryz.underlying48 rfl info_cho hx3b ?_
    try simp only [Act.put, sA, sB, sC]
    refine h_load 57 (some 143) 53 (.tmp 20) v5.heap.size 0 choZ _ rfl (by kernel_rfl) (by kernel_rfl) (by kernel_rfl) (by kernel_rfl) (by kernel_rfl) (fun _ _ _ h => h) (by kernel_rfl) (by kernel_rfl) (fun w h => row_range (blockN h HB20.out)) Tryz.underlying53 rfl info_choR hx3b ?_
    try simp only [Act.put, sA, sB, sC]
    refine h_one 56 (by kernel_rfl) rfl (by kernel_rfl) ?_
    intro K hK
    go_simp
    refine (asZ _).mono ?_
    rintro e x4a ⟨rfl, hg⟩
    have hx4a : Chg Non U0 x4a := hx3b.then_non hg
    clear hg
    refine hK.out _ _ hx4a (fun _ => ?_)
    clear hK K
    try simp only [Act.put, sA, sB, sC]
    refine h_one 58 (by kernel_rfl) rfl (by kernel_rfl) ?_
    intro K hK
    go_simp
    refine (same26 _).mono ?_
    rintro e x4b ⟨rfl, hg⟩
    have hx4b : Chg Non U0 x4b := hx4a.then_non hg
    clear hg
    refine hK.out _ _ hx4b (fun _ => ?_)
    clear hK K
    try simp only [Act.put, sA, sB, sC]
    refine hp 59 145 (.bool false) rfl hx4b ?_
    refine hp 60 146 (.bool false) rfl hx4b ?_
    refine wpAnyH_done (by kernel_rfl) ?_ _
    have HR8 := Lib.hid (HR7.out.non hx4b)
    have HV8 := Lib.hid (HV7.out.then_non hx4b)
    have HB := Lib.hid (blockN hx4b HB20.out)
    clear hc hx0a hx0b hx1a hx1b hx2a hx2b hx3a hx3b hx4a hx4b
    clear HB9 HB11 HB13 HB15 HB17 HB20 HR7 HV7
    go_wp2_with fail
    obtain ⟨U2, hU2⟩ : ∃ u, u = x4b.drew := ⟨_, rfl⟩
    have HR9 : Hid (BnR w C b1 bs bd pd ps pm U2) := Lib.hid (by rw [hU2]; exact HR8.out.non (Chg.refl Non x4b).drew)
    have HV9 : Hid (Chg Non wr U2) := Lib.hid (by rw [hU2]; exact HV8.out.drew)
    have HB20 : Hid (U2.heap[v5.heap.size]? = some (.cells choZ 53 (0, 0))) := Lib.hid (by rw [hU2]; exact HB.out)
    refine wp_region_held_drew (S := Chg Non U2) (by kernel_rfl) (by rw [hU2]; exact Chg.refl _ _) (fun _ => ?_)
    rw [← hU2]
    clear hU2 HB HR8 HV8
    have hc : Chg Non U2 U2 := Chg.refl _ _
    refine hp 0 148 (.slice (some ⟨bs, 0, none⟩) 3 3) rfl hc ?_
    refine hp 1 149 (.int .i64 2) rfl hc ?_
    refine hp 2 150 (.pointer (some ⟨bs, 2, none⟩)) rfl hc ?_
    refine hp 3 151 (.pointer (some ⟨pd, 0, none⟩)) rfl hc ?_ (he := (fun W e => by have := blk_cell (HR9.out.non e).l 2 (v := .pointer (some ⟨pd, 0, none⟩)) rfl; go_simp))
    refine h_load 4 (some 152) 30 (.tmp 1) b1 0 C _ rfl (by kernel_rfl) (by kernel_rfl) (by kernel_rfl) (by kernel_rfl) (by kernel_rfl) (fun _ _ _ h => h) (by kernel_rfl) (by kernel_rfl) (fun w h => row_range (HR9.out.non h).c) Tryz.underlying30 rfl (by rw [HSz.out]; kernel_rfl) hc ?_
    try simp only [Act.put, sA, sB, sC]
    refine hTwo 5 9 (by kernel_rfl) rfl rfl (by kernel_rfl) (by kernel_rfl) ?_ ?_
    ·intro K hK
     go_simp
     refine (HF.out _ (HV9.out.then_non hc)).mono ?_
     rintro e y ⟨⟨z, hz, rfl⟩, hg⟩
     have hcy : Chg Non U2 y := hc.then_non hg
     clear hg
     refine hK.out _ _ hcy (fun _ => ?_)
     clear hK K
     try simp only [Act.put, sA, sB, sC]
     refine hp 6 147 (.tuple #[.agg choZ, .int .i64 z]) rfl hcy ?_
     refine hp 7 154 (.agg choZ) rfl hcy ?_
     refine hp 8 155 (.int .i64 z) rfl hcy ?_
     refine h_one 9 (by kernel_rfl) rfl (by kernel_rfl) ?_
     intro K hK
     go_simp
     have hc2 : Chg Non U2 (y.alloc (.cells choZ 48)) := hcy.alloc _
     refine hK.out _ _ hc2 (fun _ => ?_)
     clear hK K
     try simp only [Act.put, sA, sB, sC]
     have HNB := Lib.hid (blk_new y (.cells choZ 48))
     have HSz2 : Hid (U2.heap.size ≤ y.heap.size) := Lib.hid hcy.size
     refine h_store 10 48 (.tmp 21) (.tmp 154) y.heap.size choZ (by kernel_rfl) rfl (by kernel_rfl) (by kernel_rfl) (by kernel_rfl) (by kernel_rfl) (by kernel_rfl) 48 ⟨_, HNB.out, rfl⟩ info_cho choZ_one (fun W h1 h2 => hc2.then_new h1 (fun x e => by have := HSz2.out; omega)) ?_
     intro y3 k1 k2
     have hc3 : Chg Non U2 y3 := hc2.then_new k1 (fun x e => by have := HSz2.out; omega)
     have HB21 := Lib.hid k2
     clear k1 k2
     refine hp 11 22 (.int .i64 z) rfl hc3 ?_
     refine wpAnyH_done (by kernel_rfl) ?_ _
     have HRa := Lib.hid (HR9.out.non hc3)
     have HBa := Lib.hid (blockN hc3 HB20.out)
     clear hc3
     go_wp2_with fail
     obtain ⟨U3, hU3⟩ : ∃ u, u = y3.drew := ⟨_, rfl⟩
     have HRb : Hid (BnR w C b1 bs bd pd ps pm U3) := Lib.hid (by rw [hU3]; exact HRa.out.non (Chg.refl Non y3).drew)
     have HBb : Hid (U3.heap[v5.heap.size]? = some (.cells choZ 53 (0, 0))) := Lib.hid (by rw [hU3]; exact HBa.out)
     have HBc : Hid (U3.heap[y.heap.size]? = some (.cells choZ 48 (0, 0))) := Lib.hid (by rw [hU3]; exact HB21.out)
     refine wp_region_held_drew (S := Chg Non U3) (by kernel_rfl) (by rw [hU3]; exact Chg.refl _ _) (fun _ => ?_)
     rw [← hU3]
     clear hU3
     have hd : Chg Non U3 U3 := Chg.refl _ _
     refine h_load 0 (some 156) 48 (.tmp 21) y.heap.size 0 choZ _ rfl (by kernel_rfl) (by kernel_rfl) (by kernel_rfl) (by kernel_rfl) (by kernel_rfl) (fun _ _ _ h => h) (by kernel_rfl) (by kernel_rfl) (fun w h => row_range (blockN h HBc.out)) Tryz.underlying48 rfl info_cho hd ?_
     try simp only [Act.put, sA, sB, sC]
     refine h_load 2 (some 158) 53 (.tmp 20) v5.heap.size 0 choZ _ rfl (by kernel_rfl) (by kernel_rfl) (by kernel_rfl) (by kernel_rfl) (by kernel_rfl) (fun _ _ _ h => h) (by kernel_rfl) (by kernel_rfl) (fun w h => row_range (blockN h HBb.out)) Tryz.underlying53 rfl info_choR hd ?_
     try simp only [Act.put, sA, sB, sC]
     refine h_one 1 (by kernel_rfl) rfl (by kernel_rfl) ?_
     intro K hK
     go_simp
     refine (asZ _).mono ?_
     rintro e z1 ⟨rfl, hg⟩
     have hz1 : Chg Non U3 z1 := hd.then_non hg
     clear hg
     refine hK.out _ _ hz1 (fun _ => ?_)
     clear hK K
     try simp only [Act.put, sA, sB, sC]
     refine h_one 3 (by kernel_rfl) rfl (by kernel_rfl) ?_
     intro K hK
     go_simp
     refine (same26 _).mono ?_
     rintro e z2 ⟨rfl, hg⟩
     have hz2 : Chg Non U3 z2 := hz1.then_non hg
     clear hg
     refine hK.out _ _ hz2 (fun _ => ?_)
     clear hK K
     try simp only [Act.put, sA, sB, sC]
     refine hp 4 160 (.bool false) rfl hz2 ?_
     refine hp 5 161 (.bool false) rfl hz2 ?_
     rcases hz with rfl | ⟨he, rfl⟩
     ·refine hp 6 162 (.int .i64 61) rfl hz2 ?_
      refine hp 7 163 (.int .i64 61) rfl hz2 ?_
      refine hp 8 164 (.bool false) rfl hz2 ?_
      refine hp 9 165 (.bool false) rfl hz2 ?_
      refine hs 10 166 rfl hz2 ?_
      refine hs 11 167 rfl hz2 ?_
      refine hs 12 168 rfl hz2 ?_
      refine hs 13 169 rfl hz2 ?_
      refine hs 14 170 rfl hz2 ?_
      refine hs 15 171 rfl hz2 ?_
      refine hp 16 172 (.bool false) rfl hz2 ?_
      refine hp 17 173 (.bool false) rfl hz2 ?_
      refine wpAnyH_done (by kernel_rfl) ?_ _
      have HRz := Lib.hid (HRb.out.non hz2)
      clear hz1 hz2 hd
      go_wp2_with fail
      case roundEnd => exact ⟨⟨3, by omega, rfl, HRz.out⟩, by simp [intOf]⟩
     ·refine hp 6 162 (.int .i64 2) rfl hz2 ?_
      refine hp 7 163 (.int .i64 61) rfl hz2 ?_
      refine hp 8 164 (.bool true) rfl hz2 ?_
      refine hp 9 165 (.bool true) rfl hz2 ?_
      refine hp 10 166 (.int .i64 2) rfl hz2 ?_
      refine hp 11 167 (.bool false) rfl hz2 ?_
      refine hp 12 168 (.bool false) rfl hz2 ?_
      refine hp 13 169 (.int .i64 2) rfl hz2 ?_
      refine hp 14 170 (.bool false) rfl hz2 ?_
      refine hp 15 171 (.bool false) rfl hz2 ?_
      refine hp 16 172 (.bool false) rfl hz2 ?_
      refine hp 17 173 (.bool false) rfl hz2 ?_
      refine wpAnyH_done (by kernel_rfl) ?_ _
      have HRz := Lib.hid (HRb.out.non hz2)
      clear hz1 hz2 hd
      go_wp2_with fail
      case roundEnd => exact ⟨⟨3, by omega, rfl, HRz.out⟩, by simp [intOf]⟩
    ·intro K hK
     go_simp
     have hc2 : Chg Non U2 (U2.alloc (.cells choZ 48)) := hc.alloc _
     refine hK.out _ _ hc2 (fun _ => ?_)
     clear hK K
     try simp only [Act.put, sA, sB, sC]
     have HNB := Lib.hid (blk_new U2 (.cells choZ 48))
     have HSz2 : Hid (U2.heap.size ≤ U2.heap.size) := Lib.hid (Nat.le_refl _)
     refine h_one 5 (by kernel_rfl) rfl (by kernel_rfl) ?_
     intro K hK
     go_simp
     refine (HF.out _ (HV9.out.then_non hc2)).mono ?_
     rintro e y ⟨⟨z, hz, rfl⟩, hg⟩
     have hcy : Chg Non U2 y := hc2.then_non hg
     have HNB := Lib.hid (blk_keep HNB.out hg (fun e => e))
     clear hg
     refine hK.out _ _ hcy (fun _ => ?_)
     clear hK K
     try simp only [Act.put, sA, sB, sC]
     refine hp 6 147 (.tuple #[.agg choZ, .int .i64 z]) rfl hcy ?_
     refine hp 7 154 (.agg choZ) rfl hcy ?_
     refine hp 8 155 (.int .i64 z) rfl hcy ?_
     refine h_store 10 48 (.tmp 21) (.tmp 154) U2.heap.size choZ (by kernel_rfl) rfl (by kernel_rfl) (by kernel_rfl) (by kernel_rfl) (by kernel_rfl) (by kernel_rfl) 48 ⟨_, HNB.out, rfl⟩ info_cho choZ_one (fun W h1 h2 => hcy.then_new h1 (fun x e => by have := HSz2.out; omega)) ?_
     intro y3 k1 k2
     have hc3 : Chg Non U2 y3 := hcy.then_new k1 (fun x e => by have := HSz2.out; omega)
     have HB21 := Lib.hid k2
     clear k1 k2
     refine hp 11 22 (.int .i64 z) rfl hc3 ?_
     refine wpAnyH_done (by kernel_rfl) ?_ _
     have HRa := Lib.hid (HR9.out.non hc3)
     have HBa := Lib.hid (blockN hc3 HB20.out)
     clear hc3
     go_wp2_with fail
     obtain ⟨U3, hU3⟩ : ∃ u, u = y3.drew := ⟨_, rfl⟩
     have HRb : Hid (BnR w C b1 bs bd pd ps pm U3) := Lib.hid (by rw [hU3]; exact HRa.out.non (Chg.refl Non y3).drew)
     have HBb : Hid (U3.heap[v5.heap.size]? = some (.cells choZ 53 (0, 0))) := Lib.hid (by rw [hU3]; exact HBa.out)
     have HBc : Hid (U3.heap[U2.heap.size]? = some (.cells choZ 48 (0, 0))) := Lib.hid (by rw [hU3]; exact HB21.out)
     refine wp_region_held_drew (S := Chg Non U3) (by kernel_rfl) (by rw [hU3]; exact Chg.refl _ _) (fun _ => ?_)
     rw [← hU3]
     clear hU3
     have hd : Chg Non U3 U3 := Chg.refl _ _
     refine h_load 0 (some 156) 48 (.tmp 21) U2.heap.size 0 choZ _ rfl (by kernel_rfl) (by kernel_rfl) (by kernel_rfl) (by kernel_rfl) (by kernel_rfl) (fun _ _ _ h => h) (by kernel_rfl) (by kernel_rfl) (fun w h => row_range (blockN h HBc.out)) Tryz.underlying48 rfl info_cho hd ?_
     try simp only [Act.put, sA, sB, sC]
     refine h_load 2 (some 158) 53 (.tmp 20) v5.heap.size 0 choZ _ rfl (by kernel_rfl) (by kernel_rfl) (by kernel_rfl) (by kernel_rfl) (by kernel_rfl) (fun _ _ _ h => h) (by kernel_rfl) (by kernel_rfl) (fun w h => row_range (blockN h HBb.out)) Tryz.underlying53 rfl info_choR hd ?_
     try simp only [Act.put, sA, sB, sC]
     refine h_one 1 (by kernel_rfl) rfl (by kernel_rfl) ?_
     intro K hK
     go_simp
     refine (asZ _).mono ?_
     rintro e z1 ⟨rfl, hg⟩
     have hz1 : Chg Non U3 z1 := hd.then_non hg
     clear hg
     refine hK.out _ _ hz1 (fun _ => ?_)
     clear hK K
     try simp only [Act.put, sA, sB, sC]
     refine h_one 3 (by kernel_rfl) rfl (by kernel_rfl) ?_
     intro K hK
     go_simp
     refine (same26 _).mono ?_
     rintro e z2 ⟨rfl, hg⟩
     have hz2 : Chg Non U3 z2 := hz1.then_non hg
     clear hg
     refine hK.out _ _ hz2 (fun _ => ?_)
     clear hK K
     try simp only [Act.put, sA, sB, sC]
     refine hp 4 160 (.bool false) rfl hz2 ?_
     refine hp 5 161 (.bool false) rfl hz2 ?_
     rcases hz with rfl | ⟨he, rfl⟩
     ·refine hp 6 162 (.int .i64 61) rfl hz2 ?_
      refine hp 7 163 (.int .i64 61) rfl hz2 ?_
      refine hp 8 164 (.bool false) rfl hz2 ?_
      refine hp 9 165 (.bool false) rfl hz2 ?_
      refine hs 10 166 rfl hz2 ?_
      refine hs 11 167 rfl hz2 ?_
      refine hs 12 168 rfl hz2 ?_
      refine hs 13 169 rfl hz2 ?_
      refine hs 14 170 rfl hz2 ?_
      refine hs 15 171 rfl hz2 ?_
      refine hp 16 172 (.bool false) rfl hz2 ?_
      refine hp 17 173 (.bool false) rfl hz2 ?_
      refine wpAnyH_done (by kernel_rfl) ?_ _
      have HRz := Lib.hid (HRb.out.non hz2)
      clear hz1 hz2 hd
      go_wp2_with fail
      case roundEnd => exact ⟨⟨3, by omega, rfl, HRz.out⟩, by simp [intOf]⟩
     ·refine hp 6 162 (.int .i64 2) rfl hz2 ?_
      refine hp 7 163 (.int .i64 61) rfl hz2 ?_
      refine hp 8 164 (.bool true) rfl hz2 ?_
      refine hp 9 165 (.bool true) rfl hz2 ?_
      refine hp 10 166 (.int .i64 2) rfl hz2 ?_
      refine hp 11 167 (.bool false) rfl hz2 ?_
      refine hp 12 168 (.bool false) rfl hz2 ?_
      refine hp 13 169 (.int .i64 2) rfl hz2 ?_
      refine hp 14 170 (.bool false) rfl hz2 ?_
      refine hp 15 171 (.bool false) rfl hz2 ?_
      refine hp 16 172 (.bool false) rfl hz2 ?_
      refine hp 17 173 (.bool false) rfl hz2 ?_
      refine wpAnyH_done (by kernel_rfl) ?_ _
      have HRz := Lib.hid (HRb.out.non hz2)
      clear hz1 hz2 hd
      go_wp2_with fail
      case roundEnd => exact ⟨⟨3, by omega, rfl, HRz.out⟩, by simp [intOf]⟩
  ·go_wp2_with fail
   go_ret
   exact ⟨rfl, HR0.out.g⟩
end Go.Proofs.YtajkajgifigmbaaGreat
