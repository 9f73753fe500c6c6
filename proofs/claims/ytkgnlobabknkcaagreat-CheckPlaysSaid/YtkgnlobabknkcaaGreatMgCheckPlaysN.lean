/- CheckPlays, part 14 of 27: contracts of the functions that it reaches, and the laws that they need, merged and shortened (from my texts XCkR, XCkT). -/
import Derived.Test.YtkgnlobabknkcaaGreatMgCheckPlaysA
import Derived.Test.YtkgnlobabknkcaaGreatMgCheckPlaysI
import Derived.Test.YtkgnlobabknkcaaGreatMgCheckPlaysL
import Derived.Test.YtkgnlobabknkcaaGreatMgCheckPlaysM
import Derived.StillTailTactics
namespace Go.Proofs.YtkgnlobabknkcaaGreat
set_option linter.unusedVariables false
set_option linter.unusedSimpArgs false
set_option maxHeartbeats 8000000
set_option maxRecDepth 100000
section
open Go.RowKit
def tiL (n size : Int) (hash : List UInt8) (sum : Nat) : List Value := .int .i64 n :: .int .i64 size :: (hash.map bv ++ [.int .u32 (sum : Int)])
def tiA (n size : Int) (hash : List UInt8) (sum : Nat) : Array Value := (tiL n size hash sum).toArray
theorem tiA_size (n size : Int) {hash : List UInt8} (sum : Nat) (h : hash.length = 32) : (tiA n size hash sum).size = 35 := by simp [tiA, tiL, h]
theorem tiA_0 (n size : Int) (hash : List UInt8) (sum : Nat) : (tiA n size hash sum)[0]? = some (.int .i64 n) := rfl
theorem tiA_1 (n size : Int) (hash : List UInt8) (sum : Nat) : (tiA n size hash sum)[1]? = some (.int .i64 size) := rfl
theorem tiA_34 (n size : Int) {hash : List UInt8} (sum : Nat) (h : hash.length = 32) : (tiA n size hash sum)[34]? = some (.int .u32 (sum : Int)) := by
 simp only [tiA, tiL, List.getElem?_toArray, List.getElem?_cons_succ]
 rw [List.getElem?_append_right (by simp [h])]
 simp [h]
theorem tiA_tag (n size : Int) {hash : List UInt8} (sum : Nat) (h : hash.length = 32) (i : Nat) (hi : i < 32) : (tiA n size hash sum)[2 + i]? = (tagA hash)[i]? := by
 rw [Nat.add_comm]
 simp only [tiA, tiL, tagA, List.getElem?_toArray, List.getElem?_cons_succ]
 rw [List.getElem?_append_left (by simp [h, hi])]
theorem tiA_set (n size : Int) {hash : List UInt8} (sum m : Nat) (h : hash.length = 32) : (tiA n size hash sum).setIfInBounds 34 (.int .u32 (m : Int)) = tiA n size hash m := by
 simp only [tiA, tiL, List.setIfInBounds_toArray, List.set_cons_succ]
 rw [List.set_append_right _ _ (by simp [h])]
 simp [h]
theorem tiA_one (n size : Int) (hash : List UInt8) (sum : Nat) : (tiA n size hash sum).all (·.oneCell') = true := by
 simp only [tiA, tiL, List.all_toArray]
 rw [List.all_eq_true]
 intro v hv
 simp only [List.mem_cons, List.mem_append, List.mem_map, List.not_mem_nil, or_false] at hv
 rcases hv with rfl | rfl | ⟨n, _, rfl⟩ | rfl <;> rfl
theorem info_ti : (Tryz.prog.info? 78).map (·.size) = some 35 := by kernel_rfl
theorem fold_setG (k : Nat) (L : List Value) (j : Nat) (C : Array Value) (i : Nat) :
  (List.foldl (fun (cs : Array Value) (x : Value × Nat) => cs.setIfInBounds (k + x.2) x.1) C (L.zipIdx j))[i]? = if k + j ≤ i ∧ i < k + j + L.length ∧ i < C.size then L[i - (k + j)]? else C[i]? := by
 induction L generalizing j C with
 | nil => simp; omega
 | cons v r ih =>
  rw [List.zipIdx_cons, List.foldl_cons, ih]
  simp only [Array.size_setIfInBounds, List.length_cons]
  by_cases h1 : k + (j + 1) ≤ i ∧ i < k + (j + 1) + r.length ∧ i < C.size
  ·rw [if_pos h1, if_pos (by omega), show i - (k + j) = (i - (k + (j + 1))) + 1 by omega, List.getElem?_cons_succ]
  ·rw [if_neg h1, Array.getElem?_setIfInBounds]
   by_cases h2 : k + j = i
   ·subst h2
    by_cases h3 : k + j < C.size
    ·rw [if_pos rfl, if_pos h3, if_pos (by omega), Nat.sub_self]; rfl
    ·rw [if_pos rfl, if_neg h3, if_neg (by omega), Array.getElem?_eq_none (by omega)]
   ·rw [if_neg h2, if_neg (by omega)]
theorem ti_build (C : Array Value) (x1 x2 : Int) (x3 : List UInt8) (x4 : Nat) (h : x3.length = 32) (h0 : C.size = 35) (h1 : C[0]? = some (.int .i64 x1)) (h2 : C[1]? = some (.int .i64 x2)) (h3 : C[34]? = some (.int .u32 (x4 : Int))) :
  Array.foldl (fun (cs : Array Value) (x : Value × Nat) => cs.setIfInBounds (2 + x.2) x.1) C (tagA x3).zipIdx 0 32 = tiA x1 x2 x3 x4 := by
 have e : 32 = (tagA x3).zipIdx.size := by simp [tagA_size x3 h]
 rw [e, ← Array.foldl_toList, Array.toList_zipIdx]
 apply Array.ext_getElem?
 intro i
 rw [fold_setG, h0]
 have hl : (tagA x3).toList.length = 32 := by simp [tagA, h]
 rw [hl]
 by_cases hi : 2 + 0 ≤ i ∧ i < 2 + 0 + 32 ∧ i < 35
 ·rw [if_pos hi, Array.getElem?_toList]
  have := tiA_tag x1 x2 x4 h (i - 2) (by omega)
  rw [show 2 + (i - 2) = i by omega] at this
  exact this.symm
 ·rw [if_neg hi]
  by_cases h35 : i < 35
  ·have : i = 0 ∨ i = 1 ∨ i = 34 := by omega
   rcases this with rfl | rfl | rfl
   ·rw [h1, tiA_0]
   ·rw [h2, tiA_1]
   ·rw [h3, tiA_34 _ _ _ h]
  ·rw [Array.getElem?_eq_none (by omega), Array.getElem?_eq_none (by rw [tiA_size _ _ _ h]; omega)]
theorem of_ok (n : Int) (w : World) : Calls Tryz.prog 30 #[.int .i64 n] w fun e w' => e = .returned (.int .i64 (n.tmod 2)) ∧ w = w' := by
 go_enter Tryz.func30, Tryz.ntmps30
 go_wp2
 go_ret
 exact ⟨rfl, rfl⟩
theorem head_ok (p : Nat) (hp : p < 2) (w : World) : Calls Tryz.prog 39 #[.int .i64 (p : Int)] w fun e w' => e = .returned (.int .i64 ((131 + 96 * p : Nat) : Int)) ∧ w = w' := by
 have hc : p = 0 ∨ p = 1 := by omega
 rcases hc with rfl | rfl
 all_goals
  go_enter Tryz.func39, Tryz.ntmps39
  go_wp2
  go_ret
  exact ⟨rfl, rfl⟩
theorem tiRead_core (m : List UInt8) (hm : m.length ≤ 65536) (er0 : Int) (A : Option Addr) (l : List UInt8) (cap : Nat) (w : World)
  (hO : ∀ W, Chg Non w W → Calls Tryz.prog 140 #[.int .u8 3, .slice A l.length cap] W fun e w' => ∃ A1 c1, e = .returned (.tuple #[.slice A1 m.length c1, .int .i64 er0]) ∧ Rd w' A1 m ∧ Chg Non W w') :
  Calls Tryz.prog 109 #[.slice A l.length cap] w fun e w' => e = .returned (.tuple #[.agg (tiA (tiFields m).1 (tiFields m).2.1 (tiFields m).2.2.1 (sum32 (tiFields m).2.2.2.1)), .bool (decide (er0 = 0) && (decide ((tiFields m).2.2.2.2.2 = 0) && decide ((tiFields m).2.2.2.2.1 = [])) && decide ((sum32 (tiFields m).2.2.2.1 : Int) = (tiFields m).2.2.2.1) && decide (1 ≤ (tiFields m).1) && decide (1 ≤ (tiFields m).2.1) && decide ((tiFields m).2.1 ≤ 6080))]) ∧ Chg Non w w' := by
 have HO := Lh hO
 have HN := Lh (fun A W c h => NewReader_ok A m c W h hm)
 clear hO
 obtain ⟨x1, l1, e1, x2, l2, e2, x3, l3, e3, x4, l4, e4, hq1, hq2, hq3, hq4, hq⟩ := tiFields_split m
 rw [hq]
 simp only
 have hR1 := fun S p W h => RInt_B S p m 0 W h
 have hR2 := fun S p W h => RInt_B S p l1 e1 W h
 have hR3 := fun S p W h hS => RTag_B S p l2 e2 W h hS
 have hR4 := fun S p W h => RInt_B S p l3 e3 W h
 have hx3 := rdTag_len l2 e2
 rw [hq1] at hR1
 rw [hq2] at hR2
 rw [hq3] at hR3 hx3
 rw [hq4] at hR4
 simp only at hR1 hR2 hR3 hR4 hx3
 have H1 := Lh hR1
 have H2 := Lh hR2
 have H3 := Lh hR3
 have H4 := Lh hR4
 have HX3 := Lh hx3
 clear hR1 hR2 hR3 hR4 hq1 hq2 hq3 hq4 hq hx3
 have hE := fun p W h => End_any p l4 e4 W h
 obtain ⟨er, her⟩ : ∃ er, (if e4 = 0 ∧ l4 ≠ [] then (50 : Int) else e4) = er := ⟨_, rfl⟩
 rw [her] at hE
 have hok : (decide (e4 = 0) && decide (l4 = [])) = decide (er = 0) := by
  rw [← her]
  by_cases a : e4 = 0
  ·by_cases b : l4 = []
   ·simp [a, b]
   ·simp [a, b]
  ·simp [a]
 rw [hok]
 have HE := Lh hE
 have hw32 : x4 % 4294967296 = ((sum32 x4 : Nat) : Int) := by unfold sum32; omega
 have HW32 := Lh hw32
 have hsb : ((sum32 x4 : Nat) : Int) < 4294967296 := by unfold sum32; omega
 obtain ⟨sm, hsm⟩ : ∃ sm, sum32 x4 = sm := ⟨_, rfl⟩
 rw [hsm] at HW32 hsb ⊢
 clear hE her hok hw32 hsm
 go_enter Tryz.func109, Tryz.ntmps109
 go_wp2_with fail
 refine (HO.out _ ((Chg.refl _ _).alloc _)).mono ?_
 rintro e w1 ⟨A1, c1, rfl, ho1, hg1⟩
 go_wp2_with fail
 refine (HN.out A1 w1 c1 ho1).mono ?_
 rintro e w2 ⟨rfl, hR2, hg2⟩
 obtain ⟨q, hq⟩ : ∃ q, w1.heap.size = q := ⟨_, rfl⟩
 have hql : w.heap.size < q := by have := hg1.size; simp at this; omega
 rw [hq] at hR2 ⊢
 obtain ⟨S, hS⟩ : ∃ S, w2.heap.size = S := ⟨_, rfl⟩
 have hqS : q < S := by rw [← hS]; exact hR2.lt
 have hR2 := hR2.below
 rw [hS] at hR2
 go_wp2_with fail
 refine (H1.out S _ _ hR2).mono ?_
 rintro e w3 ⟨rfl, hR3, hg3⟩
 go_wp2_with fail
 refine (H2.out S _ _ hR3).mono ?_
 rintro e w4 ⟨rfl, hR4, hg4⟩
 have hS4 : S ≤ w4.heap.size := by have := hg3.size; have := hg4.size; omega
 go_wp2_with fail
 refine (H3.out S _ _ hR4 hS4).mono ?_
 rintro e w5 ⟨rfl, hR5, hg5⟩
 clear hR2 hR3 hR4
 have hts := tagA_size x3 HX3.out
 have hX0s := tiA_size x1 x2 0 HX3.out
 go_wp2_with (first
   | (refine sel (some 22) (.build 78 #[(0, .tmp 17), (1, .tmp 19), (2, .tmp 21)]) ?_
      refine wpList_plain rfl (fun K hK => ?_)
      go_simp
      rw [ti_build _ x1 x2 x3 0 HX3.out rfl rfl rfl rfl]
      refine hK _ _ ?_
      clear hK hts)
   | (refine sel none (.store 78 (.tmp 7) (.tmp 22)) ?_
      refine wpList_store_rowA rfl 78 (.tmp 7) (.tmp 22) rfl w5.heap.size (tiA x1 x2 x3 0) rfl rfl 78 _ (heap_alloc_new _ _) (by rw [hX0s]; exact info_ti) (by rw [hX0s]; rfl) (tiA_one _ _ _ _) ?_
      intro W hgW hbW
      have HB := Lh hbW
      have HGW := Lh hgW
      clear hbW hgW))
 have hch : Chg (At q) w2 w5 := (hg3.trans_same hg4).trans_same hg5
 have hg17 := (hg1.then_non hg2).then_new hch (fun x e => by have e : x = q := e; simp; omega)
 have hz5 := new_block hg17
 have hlt5 : w.heap.size < w5.heap.size := (Array.getElem?_eq_some_iff.1 hz5).1
 have hS5 : S ≤ w5.heap.size := by have := hch.size; omega
 have hg5W : Chg Non w5 W := ((Chg.refl Non w5).alloc _).then_new HGW.out (fun x e => by omega)
 obtain ⟨old, hold, hosz⟩ : ∃ old : Array Value, W.heap[w.heap.size]? = some (.cells old 78 (0, 0)) ∧ old.size = 35 := ⟨_, blk_keep hz5 hg5W (fun e => e), rfl⟩
 have hRW : IsRB S W q l3 e3 := hR5.non hg5W
 have HGo : Hid (Chg Non w W) := Lh ((((Chg.refl Non w).alloc _).then_non hg17).then_non hg5W)
 obtain ⟨b, hb⟩ : ∃ b, w5.heap.size = b := ⟨_, rfl⟩
 rw [hb] at HB hS5 hlt5 ⊢
 have HOld := Lh (And.intro hold hosz)
 clear hch hg17 hz5 hg1 hg2 hg3 hg4 hg5 hR5 HGW hg5W hold hosz hb ho1 hS4 hS hq H1 H2 H3 HO HN
 refine (H4.out S q W hRW).mono ?_
 rintro e w8 ⟨rfl, hR8, hg8⟩
 have HB8 := Lh (blk_keep HB.out hg8 (fun e => by have e : b = q := e; omega))
 have HO8 := Lh (And.intro (blk_keep HOld.out.1 hg8 (fun e => by have e : w.heap.size = q := e; omega)) HOld.out.2)
 have HG8 := Lh (HGo.out.then_new hg8 (fun x e => by have e : x = q := e; omega))
 have hlb := blk_lt HB8.out
 have c34 := blk_cell HB8.out 34 (tiA_34 x1 x2 0 HX3.out)
 have f34 := blk_free HB8.out 34
 have hgs := setAt w8 b 34 (.int .u32 (sm : Nat))
 have HB9 : Hid ((w8.setCell ⟨b, 34, none⟩ (.int .u32 (sm : Nat))).heap[b]? = some (.cells (tiA x1 x2 x3 sm) 78 (0, 0))) := Lh (by
   have h := blk_set 34 (.int .u32 (sm : Nat)) HB8.out
   rwa [tiA_set x1 x2 0 sm HX3.out] at h)
 have HO9 := Lh (And.intro (blk_keep HO8.out.1 hgs (fun e => by have e : w.heap.size = b := e; omega)) HO8.out.2)
 have HG9 := Lh (HG8.out.then_new hgs (fun x e => by have e : x = b := e; omega))
 have HR9 := Lh (hR8.keep hgs (fun e => by have e : q = b := e; omega) (fun y hy e => by have e : y = b := e; omega))
 clear HB HOld HGo hg8 HB8 HO8 HG8 hR8 hgs hRW H4
 have hwsm := Go.IntWalk.i64_in (sm : Int) (by omega)
 go_wp2_with fail
 rw [HW32.out]
 obtain ⟨V, hV⟩ : ∃ V, w8.setCell ⟨b, 34, none⟩ (.int .u32 (sm : Int)) = V := ⟨_, rfl⟩
 rw [hV] at HB9 HO9 HG9 HR9 ⊢
 obtain ⟨V2, hV2⟩ : ∃ V2, V2 = V.drew := ⟨_, rfl⟩
 have HB : Hid (V2.heap[b]? = some (.cells (tiA x1 x2 x3 sm) 78 (0, 0))) := Lh (by rw [hV2]; exact HB9.out)
 have HOl : Hid (V2.heap[w.heap.size]? = some (.cells old 78 (0, 0)) ∧ old.size = 35) := Lh (by rw [hV2]; exact HO9.out)
 have HG : Hid (Chg Non w V2) := Lh (by rw [hV2]; exact HG9.out.drew)
 have HEn : Hid (Calls Tryz.prog 144 #[.pointer (some ⟨q, 0, none⟩)] V2 fun e w' => e = .returned (.int .i64 er) ∧ V2 = w') := Lh (by
   rw [hV2]
   exact HE.out q V.drew (HR9.out.non ((Chg.refl Non V).drew)).isR)
 have c0 := blk_cell HB.out 0 (tiA_0 x1 x2 x3 sm)
 have c1 := blk_cell HB.out 1 (tiA_1 x1 x2 x3 sm)
 have c34' := blk_cell HB.out 34 (tiA_34 x1 x2 sm HX3.out)
 clear HB9 HO9 HG9 HR9 hV HE c34 f34 hlb
 have hlb := blk_lt HB.out
 have hlw := blk_lt HOl.out.1
 have hne : w.heap.size ≠ b := by omega
 have hTs := tiA_size x1 x2 sm HX3.out
 obtain ⟨TA, hTA⟩ : ∃ TA, tiA x1 x2 x3 sm = TA := ⟨_, rfl⟩
 have hT1 := tiA_one x1 x2 x3 sm
 rw [hTA] at HB hTs hT1
 have HTA := Lh hTA
 have HTs := Lh (And.intro hTs hT1)
 clear hTA hTs hT1 HX3 HW32 hsb
 obtain ⟨g, hg⟩ : ∃ g, w.heap.size = g := ⟨_, rfl⟩
 rw [hg] at HOl hlw hne ⊢
 by_cases h0 : er0 = 0
 case neg =>
  have hres : (decide (er0 = 0) && decide (er = 0) && decide ((sm : Int) = x4) && decide (1 ≤ x1) && decide (1 ≤ x2) && decide (x2 ≤ 6080)) = false := by simp only [decide_eq_false h0, Bool.and_true, Bool.true_and, Bool.and_false, Bool.false_and, Bool.and_self]
  have HRes := Lh hres
  have d0 : (er0 == 0) = false := by simpa using h0
  clear h0
  clear hres
  refine wp_region_held_drew (S := Chg (fun k => k = g) V2) (by kernel_rfl) (by rw [hV2]; exact Chg.refl _ _) (fun hHeld => ?_)
  clear hHeld
  rw [← hV2]
  clear hV2
  refine h_load 0 (some 28) 78 (.tmp 7) b 0 TA _ rfl (by kernel_rfl) (by kernel_rfl) (by kernel_rfl) (by kernel_rfl) (by kernel_rfl) (fun _ _ _ h => h) (by kernel_rfl) (by kernel_rfl) (fun W hW => range_keepS (blk_range HB.out) hW (fun e => hne e.symm)) Tryz.underlying78 rfl (by rw [HTs.out.1]; exact info_ti) (Chg.refl _ _) ?_
  simp only [Act.put, sA, sB, sC]
  refine hp 1 29 (.int .i64 er0) rfl (Chg.refl _ _) ?_
  refine hp 2 30 (.bool false) rfl (Chg.refl _ _) ?_
  refine hp 3 31 (.bool false) rfl (Chg.refl _ _) ?_
  refine hs 4 32 rfl (Chg.refl _ _) ?_
  refine hs 5 33 rfl (Chg.refl _ _) ?_
  refine hs 6 34 rfl (Chg.refl _ _) ?_
  refine hp 7 35 (.bool false) rfl (Chg.refl _ _) ?_
  refine hp 8 36 (.bool false) rfl (Chg.refl _ _) ?_
  refine hs 9 37 rfl (Chg.refl _ _) ?_
  refine hs 10 38 rfl (Chg.refl _ _) ?_
  refine hs 11 39 rfl (Chg.refl _ _) ?_
  refine hs 12 40 rfl (Chg.refl _ _) ?_
  refine hs 13 41 rfl (Chg.refl _ _) ?_
  refine hp 14 42 (.bool false) rfl (Chg.refl _ _) ?_
  refine hp 15 43 (.bool false) rfl (Chg.refl _ _) ?_
  refine hs 16 44 rfl (Chg.refl _ _) ?_
  refine hs 17 45 rfl (Chg.refl _ _) ?_
  refine hs 18 46 rfl (Chg.refl _ _) ?_
  refine hp 19 47 (.bool false) rfl (Chg.refl _ _) ?_
  refine hp 20 48 (.bool false) rfl (Chg.refl _ _) ?_
  refine hs 21 49 rfl (Chg.refl _ _) ?_
  refine hs 22 50 rfl (Chg.refl _ _) ?_
  refine hs 23 51 rfl (Chg.refl _ _) ?_
  refine hp 24 52 (.bool false) rfl (Chg.refl _ _) ?_
  refine hp 25 53 (.bool false) rfl (Chg.refl _ _) ?_
  refine hs 26 54 rfl (Chg.refl _ _) ?_
  refine hs 27 55 rfl (Chg.refl _ _) ?_
  refine hs 28 56 rfl (Chg.refl _ _) ?_
  refine hp 29 57 (.bool false) rfl (Chg.refl _ _) ?_
  refine h_store 30 78 (.tmp 2) (.tmp 28) g TA (by kernel_rfl) rfl (by kernel_rfl) rfl rfl rfl rfl 78 ⟨old, HOl.out.1, by rw [HTs.out.1]; exact HOl.out.2⟩ (by rw [HTs.out.1]; exact info_ti) HTs.out.2 (fun W hg hb => hg) ?_
  intro W9 hgW9 hbW9
  refine hp 31 3 (.bool false) rfl hgW9 ?_
  refine hdn ?_ _
  go_wp2_with fail
  exact bodyPost_ret (res_ct Tryz.results109 _ _ g 78 _ (0, 0) _ (.bool false) rfl rfl hbW9 Tryz.underlying78 rfl (by rw [HTs.out.1]; exact info_ti)) rfl ⟨by rw [HTA.out, HRes.out], HG.out.then_new hgW9 (fun x e => by have e : x = g := e; omega)⟩
 by_cases h1 : er = 0
 case neg =>
  have hres : (decide (er0 = 0) && decide (er = 0) && decide ((sm : Int) = x4) && decide (1 ≤ x1) && decide (1 ≤ x2) && decide (x2 ≤ 6080)) = false := by simp only [decide_eq_true h0, decide_eq_false h1, Bool.and_true, Bool.true_and, Bool.and_false, Bool.false_and, Bool.and_self]
  have HRes := Lh hres
  have d0 : (er0 == 0) = true := by simpa using h0
  have d1 : (er == 0) = false := by simpa using h1
  clear h0
  clear h1
  clear hres
  refine wp_region_held_drew (S := Chg (fun k => k = g) V2) (by kernel_rfl) (by rw [hV2]; exact Chg.refl _ _) (fun hHeld => ?_)
  clear hHeld
  rw [← hV2]
  clear hV2
  refine h_load 0 (some 28) 78 (.tmp 7) b 0 TA _ rfl (by kernel_rfl) (by kernel_rfl) (by kernel_rfl) (by kernel_rfl) (by kernel_rfl) (fun _ _ _ h => h) (by kernel_rfl) (by kernel_rfl) (fun W hW => range_keepS (blk_range HB.out) hW (fun e => hne e.symm)) Tryz.underlying78 rfl (by rw [HTs.out.1]; exact info_ti) (Chg.refl _ _) ?_
  simp only [Act.put, sA, sB, sC]
  refine hp 1 29 (.int .i64 er0) rfl (Chg.refl _ _) ?_
  refine hp 2 30 (.bool true) rfl (Chg.refl _ _) ?_
  refine hp 3 31 (.bool true) rfl (Chg.refl _ _) ?_
  refine hp 4 32 (.pointer (some ⟨q, 0, none⟩)) rfl (Chg.refl _ _) ?_
  refine h1o 5 rfl ?_
  intro K hK
  go_simp
  refine HEn.out.mono ?_
  rintro e u1 ⟨rfl, rfl⟩
  refine hK.out _ _ (Chg.refl _ _) (fun _ => ?_)
  clear hK K
  try simp only [Act.put, sA, sB, sC]
  refine hp 6 34 (.bool false) rfl (Chg.refl _ _) ?_
  refine hp 7 35 (.bool false) rfl (Chg.refl _ _) ?_
  refine hp 8 36 (.bool false) rfl (Chg.refl _ _) ?_
  refine hs 9 37 rfl (Chg.refl _ _) ?_
  refine hs 10 38 rfl (Chg.refl _ _) ?_
  refine hs 11 39 rfl (Chg.refl _ _) ?_
  refine hs 12 40 rfl (Chg.refl _ _) ?_
  refine hs 13 41 rfl (Chg.refl _ _) ?_
  refine hp 14 42 (.bool false) rfl (Chg.refl _ _) ?_
  refine hp 15 43 (.bool false) rfl (Chg.refl _ _) ?_
  refine hs 16 44 rfl (Chg.refl _ _) ?_
  refine hs 17 45 rfl (Chg.refl _ _) ?_
  refine hs 18 46 rfl (Chg.refl _ _) ?_
  refine hp 19 47 (.bool false) rfl (Chg.refl _ _) ?_
  refine hp 20 48 (.bool false) rfl (Chg.refl _ _) ?_
  refine hs 21 49 rfl (Chg.refl _ _) ?_
  refine hs 22 50 rfl (Chg.refl _ _) ?_
  refine hs 23 51 rfl (Chg.refl _ _) ?_
  refine hp 24 52 (.bool false) rfl (Chg.refl _ _) ?_
  refine hp 25 53 (.bool false) rfl (Chg.refl _ _) ?_
  refine hs 26 54 rfl (Chg.refl _ _) ?_
  refine hs 27 55 rfl (Chg.refl _ _) ?_
  refine hs 28 56 rfl (Chg.refl _ _) ?_
  refine hp 29 57 (.bool false) rfl (Chg.refl _ _) ?_
  refine h_store 30 78 (.tmp 2) (.tmp 28) g TA (by kernel_rfl) rfl (by kernel_rfl) rfl rfl rfl rfl 78 ⟨old, HOl.out.1, by rw [HTs.out.1]; exact HOl.out.2⟩ (by rw [HTs.out.1]; exact info_ti) HTs.out.2 (fun W hg hb => hg) ?_
  intro W9 hgW9 hbW9
  refine hp 31 3 (.bool false) rfl hgW9 ?_
  refine hdn ?_ _
  go_wp2_with fail
  exact bodyPost_ret (res_ct Tryz.results109 _ _ g 78 _ (0, 0) _ (.bool false) rfl rfl hbW9 Tryz.underlying78 rfl (by rw [HTs.out.1]; exact info_ti)) rfl ⟨by rw [HTA.out, HRes.out], HG.out.then_new hgW9 (fun x e => by have e : x = g := e; omega)⟩
 by_cases h2 : (sm : Int) = x4
 case neg =>
  have hres : (decide (er0 = 0) && decide (er = 0) && decide ((sm : Int) = x4) && decide (1 ≤ x1) && decide (1 ≤ x2) && decide (x2 ≤ 6080)) = false := by simp only [decide_eq_true h0, decide_eq_true h1, decide_eq_false h2, Bool.and_true, Bool.true_and, Bool.and_false, Bool.false_and, Bool.and_self]
  have HRes := Lh hres
  have d0 : (er0 == 0) = true := by simpa using h0
  have d1 : (er == 0) = true := by simpa using h1
  have d2 : ((sm : Int) == x4) = false := by simpa using h2
  clear h0
  clear h1
  clear h2
  clear hres
  refine wp_region_held_drew (S := Chg (fun k => k = g) V2) (by kernel_rfl) (by rw [hV2]; exact Chg.refl _ _) (fun hHeld => ?_)
  clear hHeld
  rw [← hV2]
  clear hV2
  refine h_load 0 (some 28) 78 (.tmp 7) b 0 TA _ rfl (by kernel_rfl) (by kernel_rfl) (by kernel_rfl) (by kernel_rfl) (by kernel_rfl) (fun _ _ _ h => h) (by kernel_rfl) (by kernel_rfl) (fun W hW => range_keepS (blk_range HB.out) hW (fun e => hne e.symm)) Tryz.underlying78 rfl (by rw [HTs.out.1]; exact info_ti) (Chg.refl _ _) ?_
  simp only [Act.put, sA, sB, sC]
  refine hp 1 29 (.int .i64 er0) rfl (Chg.refl _ _) ?_
  refine hp 2 30 (.bool true) rfl (Chg.refl _ _) ?_
  refine hp 3 31 (.bool true) rfl (Chg.refl _ _) ?_
  refine hp 4 32 (.pointer (some ⟨q, 0, none⟩)) rfl (Chg.refl _ _) ?_
  refine h1o 5 rfl ?_
  intro K hK
  go_simp
  refine HEn.out.mono ?_
  rintro e u1 ⟨rfl, rfl⟩
  refine hK.out _ _ (Chg.refl _ _) (fun _ => ?_)
  clear hK K
  try simp only [Act.put, sA, sB, sC]
  refine hp 6 34 (.bool true) rfl (Chg.refl _ _) ?_
  refine hp 7 35 (.bool true) rfl (Chg.refl _ _) ?_
  refine hp 8 36 (.bool true) rfl (Chg.refl _ _) ?_
  refine hp 9 37 (.pointer (some ⟨b, 34, none⟩)) rfl (Chg.refl _ _) ?_
  refine hp 10 38 (.int .u32 (sm : Int)) rfl (Chg.refl _ _) ?_ (he := (fun W hW => by have hc := hW.cell_some c34' (fun e => hne e.symm); go_simp))
  refine hp 11 39 (.int .i64 (sm : Int)) rfl (Chg.refl _ _) ?_
  refine hp 12 40 (.int .i64 x4) rfl (Chg.refl _ _) ?_
  refine hp 13 41 (.bool false) rfl (Chg.refl _ _) ?_
  refine hp 14 42 (.bool false) rfl (Chg.refl _ _) ?_
  refine hp 15 43 (.bool false) rfl (Chg.refl _ _) ?_
  refine hs 16 44 rfl (Chg.refl _ _) ?_
  refine hs 17 45 rfl (Chg.refl _ _) ?_
  refine hs 18 46 rfl (Chg.refl _ _) ?_
  refine hp 19 47 (.bool false) rfl (Chg.refl _ _) ?_
  refine hp 20 48 (.bool false) rfl (Chg.refl _ _) ?_
  refine hs 21 49 rfl (Chg.refl _ _) ?_
  refine hs 22 50 rfl (Chg.refl _ _) ?_
  refine hs 23 51 rfl (Chg.refl _ _) ?_
  refine hp 24 52 (.bool false) rfl (Chg.refl _ _) ?_
  refine hp 25 53 (.bool false) rfl (Chg.refl _ _) ?_
  refine hs 26 54 rfl (Chg.refl _ _) ?_
  refine hs 27 55 rfl (Chg.refl _ _) ?_
  refine hs 28 56 rfl (Chg.refl _ _) ?_
  refine hp 29 57 (.bool false) rfl (Chg.refl _ _) ?_
  refine h_store 30 78 (.tmp 2) (.tmp 28) g TA (by kernel_rfl) rfl (by kernel_rfl) rfl rfl rfl rfl 78 ⟨old, HOl.out.1, by rw [HTs.out.1]; exact HOl.out.2⟩ (by rw [HTs.out.1]; exact info_ti) HTs.out.2 (fun W hg hb => hg) ?_
  intro W9 hgW9 hbW9
  refine hp 31 3 (.bool false) rfl hgW9 ?_
  refine hdn ?_ _
  go_wp2_with fail
  exact bodyPost_ret (res_ct Tryz.results109 _ _ g 78 _ (0, 0) _ (.bool false) rfl rfl hbW9 Tryz.underlying78 rfl (by rw [HTs.out.1]; exact info_ti)) rfl ⟨by rw [HTA.out, HRes.out], HG.out.then_new hgW9 (fun x e => by have e : x = g := e; omega)⟩
 by_cases h3 : 1 ≤ x1
 case neg =>
  have hres : (decide (er0 = 0) && decide (er = 0) && decide ((sm : Int) = x4) && decide (1 ≤ x1) && decide (1 ≤ x2) && decide (x2 ≤ 6080)) = false := by simp only [decide_eq_true h0, decide_eq_true h1, decide_eq_true h2, decide_eq_false h3, Bool.and_true, Bool.true_and, Bool.and_false, Bool.false_and, Bool.and_self]
  have HRes := Lh hres
  have d0 : (er0 == 0) = true := by simpa using h0
  have d1 : (er == 0) = true := by simpa using h1
  have d2 : ((sm : Int) == x4) = true := by simpa using h2
  have d3 : decide (x1 ≥ 1) = false := by simpa using h3
  clear h0
  clear h1
  clear h2
  clear h3
  clear hres
  refine wp_region_held_drew (S := Chg (fun k => k = g) V2) (by kernel_rfl) (by rw [hV2]; exact Chg.refl _ _) (fun hHeld => ?_)
  clear hHeld
  rw [← hV2]
  clear hV2
  refine h_load 0 (some 28) 78 (.tmp 7) b 0 TA _ rfl (by kernel_rfl) (by kernel_rfl) (by kernel_rfl) (by kernel_rfl) (by kernel_rfl) (fun _ _ _ h => h) (by kernel_rfl) (by kernel_rfl) (fun W hW => range_keepS (blk_range HB.out) hW (fun e => hne e.symm)) Tryz.underlying78 rfl (by rw [HTs.out.1]; exact info_ti) (Chg.refl _ _) ?_
  simp only [Act.put, sA, sB, sC]
  refine hp 1 29 (.int .i64 er0) rfl (Chg.refl _ _) ?_
  refine hp 2 30 (.bool true) rfl (Chg.refl _ _) ?_
  refine hp 3 31 (.bool true) rfl (Chg.refl _ _) ?_
  refine hp 4 32 (.pointer (some ⟨q, 0, none⟩)) rfl (Chg.refl _ _) ?_
  refine h1o 5 rfl ?_
  intro K hK
  go_simp
  refine HEn.out.mono ?_
  rintro e u1 ⟨rfl, rfl⟩
  refine hK.out _ _ (Chg.refl _ _) (fun _ => ?_)
  clear hK K
  try simp only [Act.put, sA, sB, sC]
  refine hp 6 34 (.bool true) rfl (Chg.refl _ _) ?_
  refine hp 7 35 (.bool true) rfl (Chg.refl _ _) ?_
  refine hp 8 36 (.bool true) rfl (Chg.refl _ _) ?_
  refine hp 9 37 (.pointer (some ⟨b, 34, none⟩)) rfl (Chg.refl _ _) ?_
  refine hp 10 38 (.int .u32 (sm : Int)) rfl (Chg.refl _ _) ?_ (he := (fun W hW => by have hc := hW.cell_some c34' (fun e => hne e.symm); go_simp))
  refine hp 11 39 (.int .i64 (sm : Int)) rfl (Chg.refl _ _) ?_
  refine hp 12 40 (.int .i64 x4) rfl (Chg.refl _ _) ?_
  refine hp 13 41 (.bool true) rfl (Chg.refl _ _) ?_
  refine hp 14 42 (.bool true) rfl (Chg.refl _ _) ?_
  refine hp 15 43 (.bool true) rfl (Chg.refl _ _) ?_
  refine hp 16 44 (.pointer (some ⟨b, 0, none⟩)) rfl (Chg.refl _ _) ?_
  refine hp 17 45 (.int .i64 x1) rfl (Chg.refl _ _) ?_ (he := (fun W hW => by have hc := hW.cell_some c0 (fun e => hne e.symm); go_simp))
  refine hp 18 46 (.bool false) rfl (Chg.refl _ _) ?_
  refine hp 19 47 (.bool false) rfl (Chg.refl _ _) ?_
  refine hp 20 48 (.bool false) rfl (Chg.refl _ _) ?_
  refine hs 21 49 rfl (Chg.refl _ _) ?_
  refine hs 22 50 rfl (Chg.refl _ _) ?_
  refine hs 23 51 rfl (Chg.refl _ _) ?_
  refine hp 24 52 (.bool false) rfl (Chg.refl _ _) ?_
  refine hp 25 53 (.bool false) rfl (Chg.refl _ _) ?_
  refine hs 26 54 rfl (Chg.refl _ _) ?_
  refine hs 27 55 rfl (Chg.refl _ _) ?_
  refine hs 28 56 rfl (Chg.refl _ _) ?_
  refine hp 29 57 (.bool false) rfl (Chg.refl _ _) ?_
  refine h_store 30 78 (.tmp 2) (.tmp 28) g TA (by kernel_rfl) rfl (by kernel_rfl) rfl rfl rfl rfl 78 ⟨old, HOl.out.1, by rw [HTs.out.1]; exact HOl.out.2⟩ (by rw [HTs.out.1]; exact info_ti) HTs.out.2 (fun W hg hb => hg) ?_
  intro W9 hgW9 hbW9
  refine hp 31 3 (.bool false) rfl hgW9 ?_
  refine hdn ?_ _
  go_wp2_with fail
  exact bodyPost_ret (res_ct Tryz.results109 _ _ g 78 _ (0, 0) _ (.bool false) rfl rfl hbW9 Tryz.underlying78 rfl (by rw [HTs.out.1]; exact info_ti)) rfl ⟨by rw [HTA.out, HRes.out], HG.out.then_new hgW9 (fun x e => by have e : x = g := e; omega)⟩
 by_cases h4 : 1 ≤ x2
 case neg =>
  have hres : (decide (er0 = 0) && decide (er = 0) && decide ((sm : Int) = x4) && decide (1 ≤ x1) && decide (1 ≤ x2) && decide (x2 ≤ 6080)) = false := by simp only [decide_eq_true h0, decide_eq_true h1, decide_eq_true h2, decide_eq_true h3, decide_eq_false h4, Bool.and_true, Bool.true_and, Bool.and_false, Bool.false_and, Bool.and_self]
  have HRes := Lh hres
  have d0 : (er0 == 0) = true := by simpa using h0
  have d1 : (er == 0) = true := by simpa using h1
  have d2 : ((sm : Int) == x4) = true := by simpa using h2
  have d3 : decide (x1 ≥ 1) = true := by simpa using h3
  have d4 : decide (x2 ≥ 1) = false := by simpa using h4
  clear h0
  clear h1
  clear h2
  clear h3
  clear h4
  clear hres
  refine wp_region_held_drew (S := Chg (fun k => k = g) V2) (by kernel_rfl) (by rw [hV2]; exact Chg.refl _ _) (fun hHeld => ?_)
  clear hHeld
  rw [← hV2]
  clear hV2
  refine h_load 0 (some 28) 78 (.tmp 7) b 0 TA _ rfl (by kernel_rfl) (by kernel_rfl) (by kernel_rfl) (by kernel_rfl) (by kernel_rfl) (fun _ _ _ h => h) (by kernel_rfl) (by kernel_rfl) (fun W hW => range_keepS (blk_range HB.out) hW (fun e => hne e.symm)) Tryz.underlying78 rfl (by rw [HTs.out.1]; exact info_ti) (Chg.refl _ _) ?_
  simp only [Act.put, sA, sB, sC]
  refine hp 1 29 (.int .i64 er0) rfl (Chg.refl _ _) ?_
  refine hp 2 30 (.bool true) rfl (Chg.refl _ _) ?_
  refine hp 3 31 (.bool true) rfl (Chg.refl _ _) ?_
  refine hp 4 32 (.pointer (some ⟨q, 0, none⟩)) rfl (Chg.refl _ _) ?_
  refine h1o 5 rfl ?_
  intro K hK
  go_simp
  refine HEn.out.mono ?_
  rintro e u1 ⟨rfl, rfl⟩
  refine hK.out _ _ (Chg.refl _ _) (fun _ => ?_)
  clear hK K
  try simp only [Act.put, sA, sB, sC]
  refine hp 6 34 (.bool true) rfl (Chg.refl _ _) ?_
  refine hp 7 35 (.bool true) rfl (Chg.refl _ _) ?_
  refine hp 8 36 (.bool true) rfl (Chg.refl _ _) ?_
  refine hp 9 37 (.pointer (some ⟨b, 34, none⟩)) rfl (Chg.refl _ _) ?_
  refine hp 10 38 (.int .u32 (sm : Int)) rfl (Chg.refl _ _) ?_ (he := (fun W hW => by have hc := hW.cell_some c34' (fun e => hne e.symm); go_simp))
  refine hp 11 39 (.int .i64 (sm : Int)) rfl (Chg.refl _ _) ?_
  refine hp 12 40 (.int .i64 x4) rfl (Chg.refl _ _) ?_
  refine hp 13 41 (.bool true) rfl (Chg.refl _ _) ?_
  refine hp 14 42 (.bool true) rfl (Chg.refl _ _) ?_
  refine hp 15 43 (.bool true) rfl (Chg.refl _ _) ?_
  refine hp 16 44 (.pointer (some ⟨b, 0, none⟩)) rfl (Chg.refl _ _) ?_
  refine hp 17 45 (.int .i64 x1) rfl (Chg.refl _ _) ?_ (he := (fun W hW => by have hc := hW.cell_some c0 (fun e => hne e.symm); go_simp))
  refine hp 18 46 (.bool true) rfl (Chg.refl _ _) ?_
  refine hp 19 47 (.bool true) rfl (Chg.refl _ _) ?_
  refine hp 20 48 (.bool true) rfl (Chg.refl _ _) ?_
  refine hp 21 49 (.pointer (some ⟨b, 1, none⟩)) rfl (Chg.refl _ _) ?_
  refine hp 22 50 (.int .i64 x2) rfl (Chg.refl _ _) ?_ (he := (fun W hW => by have hc := hW.cell_some c1 (fun e => hne e.symm); go_simp))
  refine hp 23 51 (.bool false) rfl (Chg.refl _ _) ?_
  refine hp 24 52 (.bool false) rfl (Chg.refl _ _) ?_
  refine hp 25 53 (.bool false) rfl (Chg.refl _ _) ?_
  refine hs 26 54 rfl (Chg.refl _ _) ?_
  refine hs 27 55 rfl (Chg.refl _ _) ?_
  refine hs 28 56 rfl (Chg.refl _ _) ?_
  refine hp 29 57 (.bool false) rfl (Chg.refl _ _) ?_
  refine h_store 30 78 (.tmp 2) (.tmp 28) g TA (by kernel_rfl) rfl (by kernel_rfl) rfl rfl rfl rfl 78 ⟨old, HOl.out.1, by rw [HTs.out.1]; exact HOl.out.2⟩ (by rw [HTs.out.1]; exact info_ti) HTs.out.2 (fun W hg hb => hg) ?_
  intro W9 hgW9 hbW9
  refine hp 31 3 (.bool false) rfl hgW9 ?_
  refine hdn ?_ _
  go_wp2_with fail
  exact bodyPost_ret (res_ct Tryz.results109 _ _ g 78 _ (0, 0) _ (.bool false) rfl rfl hbW9 Tryz.underlying78 rfl (by rw [HTs.out.1]; exact info_ti)) rfl ⟨by rw [HTA.out, HRes.out], HG.out.then_new hgW9 (fun x e => by have e : x = g := e; omega)⟩
 by_cases h5 : x2 ≤ 6080
 case neg =>
  have hres : (decide (er0 = 0) && decide (er = 0) && decide ((sm : Int) = x4) && decide (1 ≤ x1) && decide (1 ≤ x2) && decide (x2 ≤ 6080)) = false := by simp only [decide_eq_true h0, decide_eq_true h1, decide_eq_true h2, decide_eq_true h3, decide_eq_true h4, decide_eq_false h5, Bool.and_true, Bool.true_and, Bool.and_false, Bool.false_and, Bool.and_self]
  have HRes := Lh hres
  have d0 : (er0 == 0) = true := by simpa using h0
  have d1 : (er == 0) = true := by simpa using h1
  have d2 : ((sm : Int) == x4) = true := by simpa using h2
  have d3 : decide (x1 ≥ 1) = true := by simpa using h3
  have d4 : decide (x2 ≥ 1) = true := by simpa using h4
  have d5 : decide (x2 ≤ 6080) = false := by simpa using h5
  clear h0
  clear h1
  clear h2
  clear h3
  clear h4
  clear h5
  clear hres
  refine wp_region_held_drew (S := Chg (fun k => k = g) V2) (by kernel_rfl) (by rw [hV2]; exact Chg.refl _ _) (fun hHeld => ?_)
  clear hHeld
  rw [← hV2]
  clear hV2
  refine h_load 0 (some 28) 78 (.tmp 7) b 0 TA _ rfl (by kernel_rfl) (by kernel_rfl) (by kernel_rfl) (by kernel_rfl) (by kernel_rfl) (fun _ _ _ h => h) (by kernel_rfl) (by kernel_rfl) (fun W hW => range_keepS (blk_range HB.out) hW (fun e => hne e.symm)) Tryz.underlying78 rfl (by rw [HTs.out.1]; exact info_ti) (Chg.refl _ _) ?_
  simp only [Act.put, sA, sB, sC]
  refine hp 1 29 (.int .i64 er0) rfl (Chg.refl _ _) ?_
  refine hp 2 30 (.bool true) rfl (Chg.refl _ _) ?_
  refine hp 3 31 (.bool true) rfl (Chg.refl _ _) ?_
  refine hp 4 32 (.pointer (some ⟨q, 0, none⟩)) rfl (Chg.refl _ _) ?_
  refine h1o 5 rfl ?_
  intro K hK
  go_simp
  refine HEn.out.mono ?_
  rintro e u1 ⟨rfl, rfl⟩
  refine hK.out _ _ (Chg.refl _ _) (fun _ => ?_)
  clear hK K
  try simp only [Act.put, sA, sB, sC]
  refine hp 6 34 (.bool true) rfl (Chg.refl _ _) ?_
  refine hp 7 35 (.bool true) rfl (Chg.refl _ _) ?_
  refine hp 8 36 (.bool true) rfl (Chg.refl _ _) ?_
  refine hp 9 37 (.pointer (some ⟨b, 34, none⟩)) rfl (Chg.refl _ _) ?_
  refine hp 10 38 (.int .u32 (sm : Int)) rfl (Chg.refl _ _) ?_ (he := (fun W hW => by have hc := hW.cell_some c34' (fun e => hne e.symm); go_simp))
  refine hp 11 39 (.int .i64 (sm : Int)) rfl (Chg.refl _ _) ?_
  refine hp 12 40 (.int .i64 x4) rfl (Chg.refl _ _) ?_
  refine hp 13 41 (.bool true) rfl (Chg.refl _ _) ?_
  refine hp 14 42 (.bool true) rfl (Chg.refl _ _) ?_
  refine hp 15 43 (.bool true) rfl (Chg.refl _ _) ?_
  refine hp 16 44 (.pointer (some ⟨b, 0, none⟩)) rfl (Chg.refl _ _) ?_
  refine hp 17 45 (.int .i64 x1) rfl (Chg.refl _ _) ?_ (he := (fun W hW => by have hc := hW.cell_some c0 (fun e => hne e.symm); go_simp))
  refine hp 18 46 (.bool true) rfl (Chg.refl _ _) ?_
  refine hp 19 47 (.bool true) rfl (Chg.refl _ _) ?_
  refine hp 20 48 (.bool true) rfl (Chg.refl _ _) ?_
  refine hp 21 49 (.pointer (some ⟨b, 1, none⟩)) rfl (Chg.refl _ _) ?_
  refine hp 22 50 (.int .i64 x2) rfl (Chg.refl _ _) ?_ (he := (fun W hW => by have hc := hW.cell_some c1 (fun e => hne e.symm); go_simp))
  refine hp 23 51 (.bool true) rfl (Chg.refl _ _) ?_
  refine hp 24 52 (.bool true) rfl (Chg.refl _ _) ?_
  refine hp 25 53 (.bool true) rfl (Chg.refl _ _) ?_
  refine hp 26 54 (.pointer (some ⟨b, 1, none⟩)) rfl (Chg.refl _ _) ?_
  refine hp 27 55 (.int .i64 x2) rfl (Chg.refl _ _) ?_ (he := (fun W hW => by have hc := hW.cell_some c1 (fun e => hne e.symm); go_simp))
  refine hp 28 56 (.bool false) rfl (Chg.refl _ _) ?_
  refine hp 29 57 (.bool false) rfl (Chg.refl _ _) ?_
  refine h_store 30 78 (.tmp 2) (.tmp 28) g TA (by kernel_rfl) rfl (by kernel_rfl) rfl rfl rfl rfl 78 ⟨old, HOl.out.1, by rw [HTs.out.1]; exact HOl.out.2⟩ (by rw [HTs.out.1]; exact info_ti) HTs.out.2 (fun W hg hb => hg) ?_
  intro W9 hgW9 hbW9
  refine hp 31 3 (.bool false) rfl hgW9 ?_
  refine hdn ?_ _
  go_wp2_with fail
  exact bodyPost_ret (res_ct Tryz.results109 _ _ g 78 _ (0, 0) _ (.bool false) rfl rfl hbW9 Tryz.underlying78 rfl (by rw [HTs.out.1]; exact info_ti)) rfl ⟨by rw [HTA.out, HRes.out], HG.out.then_new hgW9 (fun x e => by have e : x = g := e; omega)⟩
 have hres : (decide (er0 = 0) && decide (er = 0) && decide ((sm : Int) = x4) && decide (1 ≤ x1) && decide (1 ≤ x2) && decide (x2 ≤ 6080)) = true := by simp only [decide_eq_true h0, decide_eq_true h1, decide_eq_true h2, decide_eq_true h3, decide_eq_true h4, decide_eq_true h5, Bool.and_true, Bool.true_and, Bool.and_false, Bool.false_and, Bool.and_self]
 have HRes := Lh hres
 have d0 : (er0 == 0) = true := by simpa using h0
 have d1 : (er == 0) = true := by simpa using h1
 have d2 : ((sm : Int) == x4) = true := by simpa using h2
 have d3 : decide (x1 ≥ 1) = true := by simpa using h3
 have d4 : decide (x2 ≥ 1) = true := by simpa using h4
 have d5 : decide (x2 ≤ 6080) = true := by simpa using h5
 clear h0
 clear h1
 clear h2
 clear h3
 clear h4
 clear h5
 clear hres
 refine wp_region_held_drew (S := Chg (fun k => k = g) V2) (by kernel_rfl) (by rw [hV2]; exact Chg.refl _ _) (fun hHeld => ?_)
 clear hHeld
 rw [← hV2]
 clear hV2
 refine h_load 0 (some 28) 78 (.tmp 7) b 0 TA _ rfl (by kernel_rfl) (by kernel_rfl) (by kernel_rfl) (by kernel_rfl) (by kernel_rfl) (fun _ _ _ h => h) (by kernel_rfl) (by kernel_rfl) (fun W hW => range_keepS (blk_range HB.out) hW (fun e => hne e.symm)) Tryz.underlying78 rfl (by rw [HTs.out.1]; exact info_ti) (Chg.refl _ _) ?_
 simp only [Act.put, sA, sB, sC]
 refine hp 1 29 (.int .i64 er0) rfl (Chg.refl _ _) ?_
 refine hp 2 30 (.bool true) rfl (Chg.refl _ _) ?_
 refine hp 3 31 (.bool true) rfl (Chg.refl _ _) ?_
 refine hp 4 32 (.pointer (some ⟨q, 0, none⟩)) rfl (Chg.refl _ _) ?_
 refine h1o 5 rfl ?_
 intro K hK
 go_simp
 refine HEn.out.mono ?_
 rintro e u1 ⟨rfl, rfl⟩
 refine hK.out _ _ (Chg.refl _ _) (fun _ => ?_)
 clear hK K
 try simp only [Act.put, sA, sB, sC]
 refine hp 6 34 (.bool true) rfl (Chg.refl _ _) ?_
 refine hp 7 35 (.bool true) rfl (Chg.refl _ _) ?_
 refine hp 8 36 (.bool true) rfl (Chg.refl _ _) ?_
 refine hp 9 37 (.pointer (some ⟨b, 34, none⟩)) rfl (Chg.refl _ _) ?_
 refine hp 10 38 (.int .u32 (sm : Int)) rfl (Chg.refl _ _) ?_ (he := (fun W hW => by have hc := hW.cell_some c34' (fun e => hne e.symm); go_simp))
 refine hp 11 39 (.int .i64 (sm : Int)) rfl (Chg.refl _ _) ?_
 refine hp 12 40 (.int .i64 x4) rfl (Chg.refl _ _) ?_
 refine hp 13 41 (.bool true) rfl (Chg.refl _ _) ?_
 refine hp 14 42 (.bool true) rfl (Chg.refl _ _) ?_
 refine hp 15 43 (.bool true) rfl (Chg.refl _ _) ?_
 refine hp 16 44 (.pointer (some ⟨b, 0, none⟩)) rfl (Chg.refl _ _) ?_
 refine hp 17 45 (.int .i64 x1) rfl (Chg.refl _ _) ?_ (he := (fun W hW => by have hc := hW.cell_some c0 (fun e => hne e.symm); go_simp))
 refine hp 18 46 (.bool true) rfl (Chg.refl _ _) ?_
 refine hp 19 47 (.bool true) rfl (Chg.refl _ _) ?_
 refine hp 20 48 (.bool true) rfl (Chg.refl _ _) ?_
 refine hp 21 49 (.pointer (some ⟨b, 1, none⟩)) rfl (Chg.refl _ _) ?_
 refine hp 22 50 (.int .i64 x2) rfl (Chg.refl _ _) ?_ (he := (fun W hW => by have hc := hW.cell_some c1 (fun e => hne e.symm); go_simp))
 refine hp 23 51 (.bool true) rfl (Chg.refl _ _) ?_
 refine hp 24 52 (.bool true) rfl (Chg.refl _ _) ?_
 refine hp 25 53 (.bool true) rfl (Chg.refl _ _) ?_
 refine hp 26 54 (.pointer (some ⟨b, 1, none⟩)) rfl (Chg.refl _ _) ?_
 refine hp 27 55 (.int .i64 x2) rfl (Chg.refl _ _) ?_ (he := (fun W hW => by have hc := hW.cell_some c1 (fun e => hne e.symm); go_simp))
 refine hp 28 56 (.bool true) rfl (Chg.refl _ _) ?_
 refine hp 29 57 (.bool true) rfl (Chg.refl _ _) ?_
 refine h_store 30 78 (.tmp 2) (.tmp 28) g TA (by kernel_rfl) rfl (by kernel_rfl) rfl rfl rfl rfl 78 ⟨old, HOl.out.1, by rw [HTs.out.1]; exact HOl.out.2⟩ (by rw [HTs.out.1]; exact info_ti) HTs.out.2 (fun W hg hb => hg) ?_
 intro W9 hgW9 hbW9
 refine hp 31 3 (.bool true) rfl hgW9 ?_
 refine hdn ?_ _
 go_wp2_with fail
 exact bodyPost_ret (res_ct Tryz.results109 _ _ g 78 _ (0, 0) _ (.bool true) rfl rfl hbW9 Tryz.underlying78 rfl (by rw [HTs.out.1]; exact info_ti)) rfl ⟨by rw [HTA.out, HRes.out], HG.out.then_new hgW9 (fun x e => by have e : x = g := e; omega)⟩
end
section
open Go.RowKit
theorem chg_nt {V u u2 : World} (h : Chg Non V u) (k : Chg (Nt (fun k => k < V.heap.size)) u u2) : Chg Non V u2 :=
 h.trans k (fun _ e => e) (fun x hx e => e hx)
theorem tform_ok (n size : Int) (hash : List UInt8) (sum : Nat) (w : World) (hh : hash.length = 32) (hs : sum < 4294967296) :
  Calls Tryz.prog 38 #[.agg (tiA n size hash sum)] w (RetB w (Ti.form ⟨n, size, hash, sum⟩)) := by
 have HH := Lh hh
 have hwr : IntKind.i64.wrap (sum : Int) = (sum : Int) := IntWalk.i64_in _ ⟨by omega, by omega⟩
 have HW := Lh hwr
 clear hwr hs
 go_enter Tryz.func38, Tryz.ntmps38
 go_wp2_with fail
 obtain ⟨V, hV⟩ : ∃ V, V = (w.alloc (.cells (tiA n size hash sum) 78)).drew := ⟨_, rfl⟩
 have hg0 : Chg Non w V := by rw [hV]; exact ((Chg.refl Non w).alloc _).drew
 have kb : V.heap[w.heap.size]? = some (.cells (tiA n size hash sum) 78 (0, 0)) := by rw [hV]; exact blk_new w _
 obtain ⟨b, hb⟩ : ∃ b, w.heap.size = b := ⟨_, rfl⟩
 rw [hb] at kb ⊢
 have HG0 := Lh hg0
 have c0 := blk_cell kb 0 (tiA_0 n size hash sum)
 have c1 := blk_cell kb 1 (tiA_1 n size hash sum)
 have c34 := blk_cell kb 34 (tiA_34 n size sum hh)
 have ct : V.rangeAt b 2 (tagA hash).toList := fun j v hv => by
  rw [Array.getElem?_toList] at hv
  have hj : j < 32 := by have := (Array.getElem?_eq_some_iff.1 hv).1; rwa [tagA_size _ hh] at this
  exact blk_cell kb (2 + j) (by rw [tiA_tag n size sum hh j hj]; exact hv)
 have HB := Lh hb
 clear hg0 kb hb
 have HS : Hid (Chg Non V V) := Lh (Chg.refl _ _)
 refine wp_region_held_drew (S := Chg Non V) (by kernel_rfl) (by rw [hV]; exact Chg.refl _ _) (fun hHeld => ?_)
 clear hHeld
 rw [← hV]
 clear hV
 refine hp 1 7 (.pointer (some ⟨b, 0, none⟩)) rfl HS.out ?_
 refine hp 2 8 (.int .i64 n) rfl HS.out ?_ (he := fun W hW => by have hc := hW.cell_some c0 (fun e => e); go_simp)
 refine hp 4 10 (.pointer (some ⟨b, 1, none⟩)) rfl HS.out ?_
 refine hp 5 11 (.int .i64 size) rfl HS.out ?_ (he := fun W hW => by have hc := hW.cell_some c1 (fun e => e); go_simp)
 refine hp 7 13 (.pointer (some ⟨b, 2, none⟩)) rfl HS.out ?_
 refine h_load 8 (some 14) 28 (.tmp 13) b 2 (tagA hash) _ rfl (by kernel_rfl) (by kernel_rfl) (by kernel_rfl) (by kernel_rfl) (by kernel_rfl) (fun _ _ _ h => h) (by kernel_rfl) (by kernel_rfl) (fun W hW => range_keepS ct hW (fun e => e)) Tryz.underlying28 rfl (by rw [tagA_size _ HH.out]; exact info_tag) HS.out ?_
 try simp only [Act.put, sA, sB, sC]
 refine hp 10 16 (.pointer (some ⟨b, 34, none⟩)) rfl HS.out ?_
 refine hp 11 17 (.int .u32 (sum : Int)) rfl HS.out ?_ (he := fun W hW => by have hc := hW.cell_some c34 (fun e => e); go_simp)
 refine hp 12 18 (.int .i64 (sum : Int)) rfl HS.out ?_ (he := fun W hW => by have := HW.out; go_simp)
 clear c0 c1 c34 ct
 refine h1o 0 rfl ?_
 intro K hK
 go_simp
 refine (NewWriter_N (fun k => k < V.heap.size) V (fun k h => h)).mono ?_
 rintro e u1 ⟨rfl, hW1, hg1⟩
 have HS1 := Lh hg1
 have HW1 := Lh hW1
 refine hK.out _ _ HS1.out (fun _ => ?_)
 clear hK K hg1 hW1
 try simp only [Act.put, sA, sB, sC]
 refine h1o 3 rfl ?_
 intro K hK
 go_simp
 refine (WInt_N _ V.heap.size [] n u1 HW1.out (by simp)).mono ?_
 rintro e u2 ⟨rfl, hW2, hg2⟩
 have HS2 := Lh (chg_nt HS1.out hg2)
 have HW2 := Lh hW2
 refine hK.out _ _ HS2.out (fun _ => ?_)
 clear hK K hg2 hW2
 try simp only [Act.put, sA, sB, sC]
 refine h1o 6 rfl ?_
 intro K hK
 go_simp
 refine (WInt_N _ V.heap.size _ size u2 HW2.out (by simp [be_length])).mono ?_
 rintro e u3 ⟨rfl, hW3, hg3⟩
 have HS3 := Lh (chg_nt HS2.out hg3)
 have HW3 := Lh hW3
 refine hK.out _ _ HS3.out (fun _ => ?_)
 clear hK K hg3 hW3
 try simp only [Act.put, sA, sB, sC]
 refine h1o 9 rfl ?_
 intro K hK
 go_simp
 refine (WTag_N _ V.heap.size _ hash u3 HH.out HW3.out (by simp [be_length])).mono ?_
 rintro e u4 ⟨rfl, hW4, hg4⟩
 have HS4 := Lh (chg_nt HS3.out hg4)
 have HW4 := Lh hW4
 refine hK.out _ _ HS4.out (fun _ => ?_)
 clear hK K hg4 hW4
 try simp only [Act.put, sA, sB, sC]
 refine h1o 13 rfl ?_
 intro K hK
 go_simp
 refine (WInt_N _ V.heap.size _ (sum : Int) u4 HW4.out (by simp [be_length, HH.out])).mono ?_
 rintro e u5 ⟨rfl, hW5, hg5⟩
 have HS5 := Lh (chg_nt HS4.out hg5)
 have HW5 := Lh hW5
 refine hK.out _ _ HS5.out (fun _ => ?_)
 clear hK K hg5 hW5
 try simp only [Act.put, sA, sB, sC]
 have hfe : [] ++ be (u64 n) 8 ++ be (u64 size) 8 ++ hash ++ be (u64 (sum : Int)) 8 = Ti.form ⟨n, size, hash, sum⟩ := by
  simp only [Ti.form, wInt, List.nil_append, List.append_assoc]
 rw [hfe] at HW5
 have HL := Lh (Ti.form_len ⟨n, size, hash, sum⟩ HH.out)
 obtain ⟨F, hF⟩ : ∃ F, Ti.form ⟨n, size, hash, sum⟩ = F := ⟨_, rfl⟩
 rw [hF] at HW5 HL
 have HFe := Lh hF
 clear hfe hF HW1 HW2 HW3 HW4
 refine h1o 14 rfl ?_
 intro K hK
 go_simp
 refine (WDone_N _ V.heap.size _ u5 HW5.out (by rw [HL.out]; omega)).mono ?_
 rintro e u6 ⟨A, c, rfl, h1, h2, ho, hg6⟩
 have HS6 := Lh (HS5.out.then_non hg6)
 have HO := Lh (And.intro h1 (And.intro h2 (ho.mono (B' := w.heap.size) (Nat.le_trans HG0.out.size HS5.out.size))))
 refine hK.out _ _ HS6.out (fun _ => ?_)
 clear hK K h1 h2 ho hg6
 try simp only [Act.put, sA, sB, sC]
 refine hp 15 5 (.tuple #[.slice A F.length c, .int .i64 0]) rfl HS6.out ?_
 refine hp 16 21 (.slice A F.length c) rfl HS6.out ?_
 refine hp 17 22 (.int .i64 0) rfl HS6.out ?_
 refine hp 18 3 (.slice A F.length c) rfl HS6.out ?_
 refine hp 19 4 (.int .i64 0) rfl HS6.out ?_
 refine hdn ?_ _
 have HF := Lh (HG0.out.then_non HS6.out)
 clear HS HS1 HS2 HS3 HS4 HS5 HS6 HW5
 go_wp2_with fail
 go_ret
 have hF := HFe.out
 subst hF
 exact ⟨A, c, rfl, HO.out.1, HO.out.2.1, HO.out.2.2, HF.out⟩
end
end Go.Proofs.YtkgnlobabknkcaaGreat
