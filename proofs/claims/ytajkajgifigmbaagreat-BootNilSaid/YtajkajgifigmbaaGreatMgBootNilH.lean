/- BootNil, part 8 of 14: contracts of the functions that it reaches, and the laws that they need, merged and shortened (from my texts XRec3, XRecP, XWnil, XRecG, XRecEq, XRecGet, XBnG, XUpNil, XBnB, XBnS). -/
import Derived.Test.YtajkajgifigmbaaGreatMgBootNilA
import Derived.Test.YtajkajgifigmbaaGreatMgBootNilB
import Derived.Test.YtajkajgifigmbaaGreatMgBootNilG
import Derived.Test.YtajkajgifigmbaaGreatRows
import Derived.WalkKit
import Derived.WalkSpells
import Derived.WalkLawsBesides
import Derived.DeepKeys
import Derived.ChangeSlices
import Derived.Laws.StructEq
import Derived.OpenShut
namespace Go.Proofs.YtajkajgifigmbaaGreat
set_option linter.unusedVariables false
set_option linter.unusedSimpArgs false
set_option maxHeartbeats 8000000
set_option maxRecDepth 100000
section
open Go.RowKit
def recFields (m : List UInt8) : Rec × List UInt8 × Int :=
 let a := rdInt m 0
 let b := rdByte a.2.1 a.2.2
 let c := rdInt b.2.1 b.2.2
 let d := rdFlag c.2.1 c.2.2
 let e := rdTag d.2.1 d.2.2
 (⟨a.1, (b.1.toNat : Int), c.1, d.1, e.1⟩, e.2.1, e.2.2)
def recRd (s : List UInt8) : Rec × Bool :=
 let f := recFields ((openL 1 s).getD [])
 (f.1, (openL 1 s).isSome && (decide (f.2.2 = 0) && decide (f.2.1 = [])) && f.1.may)
theorem recFields_hash (m : List UInt8) : (recFields m).1.hash.length = 32 := rdTag_len _ _
theorem recFields_split (m : List UInt8) : ∃ x1 l1 e1 x2 l2 e2 x3 l3 e3 x4 l4 e4 x5 l5 e5, rdInt m 0 = (x1, l1, e1) ∧ rdByte l1 e1 = (x2, l2, e2) ∧ rdInt l2 e2 = (x3, l3, e3) ∧ rdFlag l3 e3 = (x4, l4, e4) ∧ rdTag l4 e4 = (x5, l5, e5) ∧
  recFields m = (⟨x1, (x2.toNat : Int), x3, x4, x5⟩, l5, e5) :=
 ⟨_, _, _, _, _, _, _, _, _, _, _, _, _, _, _, rfl, rfl, rfl, rfl, rfl, rfl⟩
theorem fold_set_get (k : Nat) (L : List Value) (j : Nat) (C : Array Value) (i : Nat) :
  (List.foldl (fun (cs : Array Value) (x : Value × Nat) => cs.setIfInBounds (k + x.2) x.1) C (L.zipIdx j))[i]? = if k + j ≤ i ∧ i < k + j + L.length ∧ i < C.size then L[i - (k + j)]? else C[i]? := by
 induction L generalizing j C with
 | nil => simp; omega
 | cons v r ih =>
  rw [List.zipIdx_cons, List.foldl_cons, ih]
  simp only [Array.size_setIfInBounds, List.length_cons]
  by_cases h1 : k + (j + 1) ≤ i ∧ i < k + (j + 1) + r.length ∧ i < C.size
  ·rw [if_pos h1, if_pos (by omega), show i - (k + j) = (i - (k + (j + 1))) + 1 by omega, List.getElem?_cons_succ]
  ·rw [if_neg h1, Array.getElem?_setIfInBounds]
   by_cases h2 : k + j = i
   ·subst h2
    by_cases h3 : k + j < C.size
    ·rw [if_pos rfl, if_pos h3, if_pos (by omega), Nat.sub_self]; rfl
    ·rw [if_pos rfl, if_neg h3, if_neg (by omega), Array.getElem?_eq_none (by omega)]
   ·rw [if_neg h2, if_neg (by omega)]
theorem rec_build (C : Array Value) (x1 x2 x3 : Int) (x4 : Bool) (x5 : List UInt8) (h : x5.length = 32) (h0 : C.size = 36) (h1 : C[0]? = some (.int .i64 x1)) (h2 : C[1]? = some (.int .i64 x2)) (h3 : C[2]? = some (.int .i64 x3)) (h4 : C[3]? = some (.bool x4)) :
  Array.foldl (fun (cs : Array Value) (x : Value × Nat) => cs.setIfInBounds (4 + x.2) x.1) C (tagA x5).zipIdx 0 32 = recA ⟨x1, x2, x3, x4, x5⟩ := by
 have e : 32 = (tagA x5).zipIdx.size := by simp [tagA_size x5 h]
 rw [e, ← Array.foldl_toList, Array.toList_zipIdx]
 apply Array.ext_getElem?
 intro i
 rw [fold_set_get, h0]
 have hl : (tagA x5).toList.length = 32 := by simp [tagA, h]
 rw [hl]
 unfold recA
 by_cases hi : 4 + 0 ≤ i ∧ i < 4 + 0 + 32 ∧ i < 36
 ·rw [if_pos hi, Array.getElem?_append_right (by simp; omega), Array.getElem?_toList]
  rfl
 ·rw [if_neg hi]
  by_cases h36 : i < 36
  ·have : i = 0 ∨ i = 1 ∨ i = 2 ∨ i = 3 := by omega
   rw [Array.getElem?_append_left (by simp; omega)]
   rcases this with rfl | rfl | rfl | rfl
   ·exact h1
   ·exact h2
   ·exact h3
   ·exact h4
  ·rw [Array.getElem?_eq_none (by omega), Array.getElem?_eq_none (by rw [Array.size_append, tagA_size _ h]; simp; omega)]
def Both (b g : Nat) (X : Array Value) (w' : World) : Prop :=
 w'.heap[b]? = some (.cells X 46 (0, 0)) ∧ ∃ old, w'.heap[g]? = some (.cells old 46 (0, 0)) ∧ old.size = 36
theorem Both.non {b g : Nat} {X : Array Value} {w w' : World} (h : Both b g X w) (hg : Chg Non w w') : Both b g X w' := by
 obtain ⟨h1, old, h2, h3⟩ := h
 exact ⟨(hg.block b (Array.getElem?_eq_some_iff.1 h1).1 (fun e => e)).trans h1, old, (hg.block g (Array.getElem?_eq_some_iff.1 h2).1 (fun e => e)).trans h2, h3⟩
theorem Both.old {b g : Nat} {X : Array Value} {w : World} (h : Both b g X w) (hx : X.size = 36) : ∃ old : Array Value, w.heap[g]? = some (.cells old 46 (0, 0)) ∧ old.size = X.size := by
 obtain ⟨_, old, h1, h2⟩ := h
 exact ⟨old, h1, by rw [h2, hx]⟩
theorem Both.range {b g : Nat} {X : Array Value} {w : World} (h : Both b g X w) : w.rangeAt b 0 X.toList := fun j v hv => by
 rw [cell_of_row _ _ _ _ _ _ h.1, Nat.zero_add]
 simpa using hv
theorem Both.put {b g : Nat} {X : Array Value} {w W : World} (h : Both b g X w) (hx : X.size = 36) (hne : b ≠ g) (hg : Chg (fun k => k = g) w W) (hb : W.heap[g]? = some (.cells X 46 (0, 0))) : Both b g X W :=
 ⟨(hg.block b (Array.getElem?_eq_some_iff.1 h.1).1 hne).trans h.1, X, hb, hx⟩
theorem recRead_core (A1 : Option Addr) (m : List UInt8) (c1 : Nat) (hm : m.length ≤ 65536) (er0 : Int) (A : Option Addr) (l : List UInt8) (cap : Nat) (w : World)
  (hO : ∀ W, Chg Non w W → Calls Tryz.prog 189 #[.int .u8 1, .slice A l.length cap] W fun e w' => ∃ A1 c1, e = .returned (.tuple #[.slice A1 m.length c1, .int .i64 er0]) ∧ Rd w' A1 m ∧ Chg Non W w') :
  Calls Tryz.prog 122 #[.slice A l.length cap] w fun e w' => e = .returned (.tuple #[.agg (recA (recFields m).1), .bool (decide (er0 = 0) && (decide ((recFields m).2.2 = 0) && decide ((recFields m).2.1 = [])) && (recFields m).1.may)]) ∧ Chg Non w w' := by
 have HO := Lh hO
 have HN := Lh (fun A W c h => NewReader_ok A m c W h hm)
 clear hO
 obtain ⟨x1, l1, e1, x2, l2, e2, x3, l3, e3, x4, l4, e4, x5, l5, e5, hq1, hq2, hq3, hq4, hq5, hq⟩ := recFields_split m
 rw [hq]
 simp only
 have hR1 := fun p W h => RInt_any p m 0 W h
 have hR2 := fun p W h => RByte_any p l1 e1 W h
 have hR3 := fun p W h => RInt_any p l2 e2 W h
 have hR4 := fun p W h => RFlag_any p l3 e3 W h
 have hR5 := fun p W h => RTag_any p l4 e4 W h
 have hx5 := rdTag_len l4 e4
 rw [hq1] at hR1
 rw [hq2] at hR2
 rw [hq3] at hR3
 rw [hq4] at hR4
 rw [hq5] at hR5 hx5
 simp only at hR1 hR2 hR3 hR4 hR5 hx5
 have H1 := Lh hR1
 have H2 := Lh hR2
 have H3 := Lh hR3
 have H4 := Lh hR4
 have H5 := Lh hR5
 have HX5 := Lh hx5
 clear hR1 hR2 hR3 hR4 hR5 hq1 hq2 hq3 hq4 hq5 hq hx5
 have hb2 : (0 : Int) ≤ (x2.toNat : Int) ∧ (x2.toNat : Int) < 256 := by have := x2.toNat_lt; omega
 have hxs := recA_size ⟨x1, (x2.toNat : Int), x3, x4, x5⟩ HX5.out
 have hx1 := recA_one ⟨x1, (x2.toNat : Int), x3, x4, x5⟩
 have hm := May_any ⟨x1, (x2.toNat : Int), x3, x4, x5⟩
 obtain ⟨X, hX⟩ : ∃ X, recA ⟨x1, (x2.toNat : Int), x3, x4, x5⟩ = X := ⟨_, rfl⟩
 rw [hX] at hm hxs hx1 ⊢
 obtain ⟨y, hy⟩ : ∃ y, (⟨x1, (x2.toNat : Int), x3, x4, x5⟩ : Rec).may = y := ⟨_, rfl⟩
 rw [hy] at hm ⊢
 have hE := fun W h => End_any w.heap.size l5 e5 W h
 have hE := fun p W h => End_any p l5 e5 W h
 obtain ⟨er, her⟩ : ∃ er, (if e5 = 0 ∧ l5 ≠ [] then (50 : Int) else e5) = er := ⟨_, rfl⟩
 rw [her] at hE
 have hok : (decide (e5 = 0) && decide (l5 = [])) = decide (er = 0) := by
  rw [← her]
  by_cases a : e5 = 0
  ·by_cases b : l5 = []
   ·simp [a, b]
   ·simp [a, b]
  ·simp [a]
 rw [hok]
 have HM := Lh hm
 have HE := Lh hE
 have HXS := Lh hxs
 have HX1 := Lh hx1
 have HX := Lh hX
 clear hm hE hxs hx1 hX hy her hok
 go_enter Tryz.func122, Tryz.ntmps122
 go_wp2_with fail
 refine (HO.out _ ((Chg.refl _ _).alloc _)).mono ?_
 rintro e w1 ⟨A1, c1, rfl, ho1, hg1⟩
 go_wp2_with fail
 refine (HN.out A1 w1 c1 ho1).mono ?_
 rintro e w2 ⟨rfl, hR2, hg2⟩
 go_wp2_with fail
 refine (H1.out _ _ hR2).mono ?_
 rintro e w3 ⟨rfl, hR3, hg3⟩
 go_wp2_with fail
 refine (H2.out _ _ hR3).mono ?_
 rintro e w4 ⟨rfl, hR4, hg4⟩
 go_wp2_with fail
 refine (H3.out _ _ hR4).mono ?_
 rintro e w5 ⟨rfl, hR5, hg5⟩
 go_wp2_with fail
 refine (H4.out _ _ hR5).mono ?_
 rintro e w6 ⟨rfl, hR6, hg6⟩
 go_wp2_with fail
 refine (H5.out _ _ hR6).mono ?_
 rintro e w7 ⟨rfl, hR7, hg7⟩
 clear hR2 hR3 hR4 hR5 hR6
 have hts := tagA_size x5 HX5.out
 go_wp2_with (first
   | (refine sel (some 26) (.build 46 #[(0, .tmp 16), (1, .tmp 19), (2, .tmp 21), (3, .tmp 23), (4, .tmp 25)]) ?_
      refine wpList_plain rfl (fun K hK => ?_)
      go_simp
      rw [rec_build _ x1 x2.toNat x3 x4 x5 HX5.out rfl rfl rfl rfl rfl, HX.out]
      refine hK _ _ ?_
      clear hK hts)
   | (refine sel none (.store 46 (.tmp 7) (.tmp 26)) ?_
      refine wpList_store_rowA rfl 46 (.tmp 7) (.tmp 26) rfl w7.heap.size X rfl rfl 46 _ (heap_alloc_new _ _) (by rw [HXS.out]; exact info_rec) (by rw [HXS.out]; rfl) HX1.out ?_
      intro W hgW hbW
      have HB := Lh hbW
      have HGW := Lh hgW
      clear hbW hgW))
 have hch : Chg (At w1.heap.size) w2 w7 := (((hg3.trans_same hg4).trans_same hg5).trans_same hg6).trans_same hg7
 have hg17 : Chg Non (w.alloc (.cells recZ 46)) w7 := ((hg1.then_non hg2)).then_new hch (fun x e => by unfold At at e; have := hg1.size; omega)
 have hz7 : w7.heap[w.heap.size]? = some (.cells recZ 46 (0, 0)) := new_block hg17
 have hlt7 : w.heap.size < w7.heap.size := (Array.getElem?_eq_some_iff.1 hz7).1
 have hbth : Both w7.heap.size w.heap.size X W := by
  refine ⟨HB.out, recZ, ?_, recA_size _ zTag_len⟩
  rw [HGW.out.block _ (by simp; omega) (by omega), Below.heap_alloc _ _ _ hlt7]
  exact hz7
 have hRW : IsR W w1.heap.size l5 e5 := by
  have h1 := fun o => hR7.below.keep ((Chg.refl Non w7).alloc o) (fun e => e) (fun _ _ e => e)
  exact ((h1 _).keep HGW.out (by have := hR7.below.lt; omega) (fun b hb e => by omega)).isR
 have hgW : Chg Non w W := (((Chg.refl Non w).alloc _).then_non hg17).trans (((Chg.refl Non w7).alloc _).then_new HGW.out (fun x e => by omega)) (fun _ e => e) (fun _ _ e => e)
 have HGo := Lh hgW
 have HSz := Lh hlt7
 clear hch hg17 hz7 hg1 hg2 hg3 hg4 hg5 hg6 hg7 hR7 hgW HB HGW ho1
 have hE := HE.out w1.heap.size W.drew (by obtain ⟨A', c', a1, a2, a3⟩ := hRW; exact ⟨A', c', a1, a2, a3⟩)
 have hne : w7.heap.size ≠ w.heap.size := by omega
 have HE := Lh hE
 have HBd := Lh (show Both w7.heap.size w.heap.size X W.drew from hbth)
 clear hE hbth hRW H1 H2 H3 H4 H5 HX5 HO HN hb2
 obtain ⟨b, hb⟩ : ∃ b, w7.heap.size = b := ⟨_, rfl⟩
 rw [hb] at HBd hne ⊢
 clear hb
 by_cases he0 : er0 = 0
 case neg =>
  have hd : (er0 == 0) = false := by simpa using he0
  have HZ := Lh he0
  clear he0
  go_wp2_with fail
  refine wp_region_held_drew (S := Both b w.heap.size X) (by kernel_rfl) HBd.out (fun hHeld => ?_)
  refine h_load 0 (some 27) 46 (.tmp 7) b 0 X _ rfl (by kernel_rfl) (by kernel_rfl) (by kernel_rfl) (by kernel_rfl) (by kernel_rfl) (fun _ _ _ h => h) (by kernel_rfl) (by kernel_rfl) (fun w h => h.range) Tryz.underlying46 rfl (by rw [HXS.out]; exact info_rec) HBd.out ?_
  simp only [Act.put, sA, sB, sC]
  refine hp 1 28 (.int .i64 er0) rfl HBd.out ?_ (he := (fun w _ => by go_simp))
  refine hp 2 29 (.bool false) rfl HBd.out ?_ (he := (fun w _ => by go_simp))
  refine hp 3 30 (.bool false) rfl HBd.out ?_ (he := (fun w _ => by go_simp))
  refine hs 4 31 rfl HBd.out ?_
  refine hs 5 32 rfl HBd.out ?_
  refine hs 6 33 rfl HBd.out ?_
  refine hp 7 34 (.bool false) rfl HBd.out ?_ (he := (fun w _ => by go_simp))
  refine hp 8 35 (.bool false) rfl HBd.out ?_ (he := (fun w _ => by go_simp))
  refine hs 9 36 rfl HBd.out ?_
  refine hs 10 37 rfl HBd.out ?_
  refine hp 11 38 (.bool false) rfl HBd.out ?_ (he := (fun w _ => by go_simp))
  refine h_store 12 46 (.tmp 2) (.tmp 27) w.heap.size X (by kernel_rfl) rfl (by kernel_rfl) (by kernel_rfl) (by kernel_rfl) (by kernel_rfl) (by kernel_rfl) 46 (HBd.out.old HXS.out) (by rw [HXS.out]; exact info_rec) HX1.out ?_ ?_
  ·intro W3 h1 h2
   exact HBd.out.put HXS.out hne h1 h2
  intro W3 hg3 hb3
  have HB3 := Lh (HBd.out.put HXS.out hne hg3 hb3)
  refine hp 13 3 (.bool false) rfl HB3.out ?_ (he := (fun w _ => by go_simp))
  refine hdn ?_ _
  go_wp2
  exact bodyPost_ret (run_results_cell_tmp Tryz.results122 _ _ w.heap.size 46 X (0, 0) _ (.bool false) (by kernel_rfl) (by kernel_rfl) hb3 Tryz.underlying46 rfl (by rw [HXS.out]; exact info_rec)) (by kernel_rfl) ⟨by simp [HZ.out], (HGo.out.drew).then_new hg3 (fun x e => by omega)⟩
 case pos =>
  subst he0
  by_cases her : er = 0
  case' neg =>
   have hd : (er == 0) = false := by simpa using her
   have HZ := Lh her
   clear her
  case' pos =>
   subst her
  rotate_left 1
  go_wp2_with fail
  refine wp_region_held_drew (S := Both b w.heap.size X) (by kernel_rfl) HBd.out (fun hHeld => ?_)
  refine h_load 0 (some 27) 46 (.tmp 7) b 0 X _ rfl (by kernel_rfl) (by kernel_rfl) (by kernel_rfl) (by kernel_rfl) (by kernel_rfl) (fun _ _ _ h => h) (by kernel_rfl) (by kernel_rfl) (fun w h => h.range) Tryz.underlying46 rfl (by rw [HXS.out]; exact info_rec) HBd.out ?_
  simp only [Act.put, sA, sB, sC]
  refine hp 1 28 (.int .i64 0) rfl HBd.out ?_ (he := (fun w _ => by go_simp))
  refine hp 2 29 (.bool true) rfl HBd.out ?_ (he := (fun w _ => by go_simp))
  refine hp 3 30 (.bool true) rfl HBd.out ?_ (he := (fun w _ => by go_simp))
  refine hp 4 31 (.pointer (some ⟨w1.heap.size, 0, none⟩)) rfl HBd.out ?_ (he := (fun w _ => by go_simp))
  refine h1o 5 rfl ?_
  intro K hK
  go_simp
  go_at_call 195
  refine HE.out.mono ?_
  rintro e w8 ⟨rfl, rfl⟩
  refine hK.out _ _ HBd.out (fun _ => ?_)
  clear hK K
  refine hp 6 33 (.bool false) rfl HBd.out ?_ (he := (fun w _ => by go_simp))
  refine hp 7 34 (.bool false) rfl HBd.out ?_ (he := (fun w _ => by go_simp))
  refine hp 8 35 (.bool false) rfl HBd.out ?_ (he := (fun w _ => by go_simp))
  refine hs 9 36 rfl HBd.out ?_
  refine hs 10 37 rfl HBd.out ?_
  refine hp 11 38 (.bool false) rfl HBd.out ?_ (he := (fun w _ => by go_simp))
  refine h_store 12 46 (.tmp 2) (.tmp 27) w.heap.size X (by kernel_rfl) rfl (by kernel_rfl) (by kernel_rfl) (by kernel_rfl) (by kernel_rfl) (by kernel_rfl) 46 (HBd.out.old HXS.out) (by rw [HXS.out]; exact info_rec) HX1.out ?_ ?_
  ·intro W3 h1 h2
   exact HBd.out.put HXS.out hne h1 h2
  intro W3 hg3 hb3
  have HB3 := Lh (HBd.out.put HXS.out hne hg3 hb3)
  refine hp 13 3 (.bool false) rfl HB3.out ?_ (he := (fun w _ => by go_simp))
  refine hdn ?_ _
  go_wp2
  exact bodyPost_ret (run_results_cell_tmp Tryz.results122 _ _ w.heap.size 46 X (0, 0) _ (.bool false) (by kernel_rfl) (by kernel_rfl) hb3 Tryz.underlying46 rfl (by rw [HXS.out]; exact info_rec)) (by kernel_rfl) ⟨by simp [HZ.out], (HGo.out.drew).then_new hg3 (fun x e => by omega)⟩
  go_wp2_with fail
  refine wp_region_held_drew (S := Both b w.heap.size X) (by kernel_rfl) HBd.out (fun hHeld => ?_)
  refine h_load 0 (some 27) 46 (.tmp 7) b 0 X _ rfl (by kernel_rfl) (by kernel_rfl) (by kernel_rfl) (by kernel_rfl) (by kernel_rfl) (fun _ _ _ h => h) (by kernel_rfl) (by kernel_rfl) (fun w h => h.range) Tryz.underlying46 rfl (by rw [HXS.out]; exact info_rec) HBd.out ?_
  simp only [Act.put, sA, sB, sC]
  refine hp 1 28 (.int .i64 0) rfl HBd.out ?_ (he := (fun w _ => by go_simp))
  refine hp 2 29 (.bool true) rfl HBd.out ?_ (he := (fun w _ => by go_simp))
  refine hp 3 30 (.bool true) rfl HBd.out ?_ (he := (fun w _ => by go_simp))
  refine hp 4 31 (.pointer (some ⟨w1.heap.size, 0, none⟩)) rfl HBd.out ?_ (he := (fun w _ => by go_simp))
  refine h1o 5 rfl ?_
  intro K hK
  go_simp
  go_at_call 195
  refine HE.out.mono ?_
  rintro e w8 ⟨rfl, rfl⟩
  refine hK.out _ _ HBd.out (fun _ => ?_)
  clear hK K
  refine hp 6 33 (.bool true) rfl HBd.out ?_ (he := (fun w _ => by go_simp))
  refine hp 7 34 (.bool true) rfl HBd.out ?_ (he := (fun w _ => by go_simp))
  refine hp 8 35 (.bool true) rfl HBd.out ?_ (he := (fun w _ => by go_simp))
  refine h_load 9 (some 36) 46 (.tmp 7) b 0 X _ rfl (by kernel_rfl) (by kernel_rfl) (by kernel_rfl) (by kernel_rfl) (by kernel_rfl) (fun _ _ _ h => h) (by kernel_rfl) (by kernel_rfl) (fun w h => h.range) Tryz.underlying46 rfl (by rw [HXS.out]; exact info_rec) HBd.out ?_
  simp only [Act.put, sA, sB, sC]
  refine h1o 10 rfl ?_
  intro K hK
  go_simp
  go_at_call 55
  refine (HM.out _).mono ?_
  rintro e w9 ⟨rfl, hg9⟩
  have HBm := Lh (HBd.out.non hg9)
  have HG9 := Lh hg9
  refine hK.out _ _ HBm.out (fun _ => ?_)
  clear hK K hg9
  refine hp 11 38 (.bool y) rfl HBm.out ?_ (he := (fun w _ => by go_simp))
  refine h_store 12 46 (.tmp 2) (.tmp 27) w.heap.size X (by kernel_rfl) rfl (by kernel_rfl) (by kernel_rfl) (by kernel_rfl) (by kernel_rfl) (by kernel_rfl) 46 (HBm.out.old HXS.out) (by rw [HXS.out]; exact info_rec) HX1.out ?_ ?_
  ·intro W3 h1 h2
   exact HBm.out.put HXS.out hne h1 h2
  intro W3 hg3 hb3
  have HB3 := Lh (HBm.out.put HXS.out hne hg3 hb3)
  refine hp 13 3 (.bool y) rfl HB3.out ?_ (he := (fun w _ => by go_simp))
  refine hdn ?_ _
  go_wp2
  exact bodyPost_ret (run_results_cell_tmp Tryz.results122 _ _ w.heap.size 46 X (0, 0) _ (.bool y) (by kernel_rfl) (by kernel_rfl) hb3 Tryz.underlying46 rfl (by rw [HXS.out]; exact info_rec)) (by kernel_rfl) ⟨by simp, ((HGo.out.drew).then_non HG9.out).then_new hg3 (fun x e => by omega)⟩
end
section
open Go.RowKit
theorem recRead_any (A : Option Addr) (l : List UInt8) (cap : Nat) (w : World) (hr : Rd w A l) (h64 : 64 ≤ l.length) (hl : l.length ≤ 64) (hcap : l.length ≤ cap) (hm : cap ≤ maxLen) :
  Calls Tryz.prog 122 #[.slice A l.length cap] w fun e w' => e = .returned (.tuple #[.agg (recA (recRd l).1), .bool (recRd l).2]) ∧ Chg Non w w' := by
 cases ho : openL 1 l with
 | none =>
  have := recRead_core A [] 0 (by simp) 70 A l cap w (fun W hg => (Open_none 1 A l cap W (hr.non hg) h64 hl hcap hm ho).mono (by
    rintro e w' ⟨rfl, hg'⟩
    exact ⟨none, 0, rfl, Rd.nil _ _, hg'⟩))
  unfold recRd
  rw [ho]
  exact this
 | some m =>
  have hml : m.length ≤ 65536 := by
   unfold openL at ho
   split at ho
   ·injection ho with ho
    rw [← ho, List.length_take, List.length_drop]; omega
   ·cases ho
  have := recRead_core A m 0 hml 0 A l cap w (fun W hg => (Open_some 1 A l m cap W (hr.non hg) h64 hl hcap hm ho).mono (by
    rintro e w' ⟨A1, c1, rfl, _, _, ho1, hg'⟩
    exact ⟨A1, c1, rfl, ho1.rd, hg'⟩))
  unfold recRd
  rw [ho]
  exact this
end
section
open Go.RowKit
theorem eq_cache (w : World) (r : Option Nat) : (binOp .eql 41 (.map r) (.map none)).run Tryz.prog w = .ok (.bool r.isNone) w :=
 run_eql_map_nil w _ _ _ r Tryz.underlying41
def NoDisk (w : World) (p : Option Addr) : Prop := match p with
 | none => True
 | some a => a.spot = none ∧ w.cell? ⟨a.block, a.off + 2, none⟩ = some (.map none)
theorem none_no (p : Option Addr) (w : World) (hp : NoDisk w p) :
  Calls Tryz.prog 76 #[.pointer p] w fun e w' => e = .returned (.bool true) ∧ w = w' := by
 rcases p with _ | ⟨b, o, s⟩
 ·go_enter Tryz.func76, Tryz.ntmps76
  go_wp2
  go_ret
  exact ⟨rfl, rfl⟩
 ·obtain ⟨rfl, hc⟩ := hp
  have he := eq_cache
  go_enter Tryz.func76, Tryz.ntmps76
  go_wp2
  go_ret
  exact ⟨rfl, rfl⟩
theorem Len_no (p : Option Addr) (w : World) (hp : NoDisk w p) :
  Calls Tryz.prog 60 #[.pointer p] w fun e w' => e = .returned (.int .i64 0) ∧ w = w' := by
 go_enter Tryz.func60, Tryz.ntmps60
 go_wp2_with (go_at_call 76; refine (none_no _ _ hp).mono ?_; rintro e w' ⟨rfl, rfl⟩)
 go_ret
 exact ⟨rfl, rfl⟩
end
section
open Go.RowKit
theorem run_results_cell2_tmp {P : Program} {fn : Func} {p p2 q : Tmp} {ty : TypeId} (h : fn.results = #[.cell p ty, .cell p2 ty, .tmp q]) (tmps : Array Value) (w : World) (g g2 : Nat) (t : TypeId) (cs cs2 : Array Value) (fr fr2 : Nat × Nat) (d : TypeDesc) (v : Value)
  (hp : tmps.getD p undef = .pointer (some ⟨g, 0, none⟩)) (hp2 : tmps.getD p2 undef = .pointer (some ⟨g2, 0, none⟩)) (hv : tmps.getD q undef = v) (hg : w.heap[g]? = some (.cells cs t fr)) (hg2 : w.heap[g2]? = some (.cells cs2 t fr2))
  (hu : P.underlying ty = some d) (hd : (match d with | .struct _ | .array _ _ => true | _ => false) = true) (hi : (P.info? ty).map (·.size) = some cs.size) (hi2 : (P.info? ty).map (·.size) = some cs2.size) :
  (results fn tmps).run P w = .ok (.tuple #[.agg cs, .agg cs2, v]) w := by
 have hp' : tmps[p]?.getD undef = .pointer (some ⟨g, 0, none⟩) := by simpa using hp
 have hp2' : tmps[p2]?.getD undef = .pointer (some ⟨g2, 0, none⟩) := by simpa using hp2
 have hv' : tmps[q]?.getD undef = v := by simpa using hv
 simp [results, h, hp', hp2', hv', asAddr, run_loadVar_row w g t ty cs fr d hg hu hd hi, run_loadVar_row w g2 t ty cs2 fr2 d hg2 hu hd hi2]
def Two (b g : Nat) (X Y : Array Value) (w : World) : Prop :=
 w.heap[b]? = some (.cells X 46 (0, 0)) ∧ w.heap[g]? = some (.cells Y 46 (0, 0))
theorem Two.left {b g : Nat} {X Y : Array Value} {w : World} (h : Two b g X Y w) : w.rangeAt b 0 X.toList := fun j v hv => by
 rw [cell_of_row _ _ _ _ _ _ h.1, Nat.zero_add]
 simpa using hv
theorem Two.right {b g : Nat} {X Y : Array Value} {w : World} (h : Two b g X Y w) : w.rangeAt g 0 Y.toList := fun j v hv => by
 rw [cell_of_row _ _ _ _ _ _ h.2, Nat.zero_add]
 simpa using hv
theorem Two.put1 {b g : Nat} {X Y Z : Array Value} {w W : World} (h : Two b g X Y w) (hne : b ≠ g) (hg : Chg (fun k => k = b) w W) (hb : W.heap[b]? = some (.cells Z 46 (0, 0))) : Two b g Z Y W :=
 ⟨hb, (hg.block g (Array.getElem?_eq_some_iff.1 h.2).1 (Ne.symm hne)).trans h.2⟩
theorem Two.put2 {b g : Nat} {X Y Z : Array Value} {w W : World} (h : Two b g X Y w) (hne : b ≠ g) (hg : Chg (fun k => k = g) w W) (hb : W.heap[g]? = some (.cells Z 46 (0, 0))) : Two b g X Z W :=
 ⟨(hg.block b (Array.getElem?_eq_some_iff.1 h.1).1 hne).trans h.1, hb⟩
theorem Two.non {b g : Nat} {X Y : Array Value} {w W : World} (h : Two b g X Y w) (hg : Chg Non w W) : Two b g X Y W :=
 ⟨(hg.block b (Array.getElem?_eq_some_iff.1 h.1).1 (fun e => e)).trans h.1, (hg.block g (Array.getElem?_eq_some_iff.1 h.2).1 (fun e => e)).trans h.2⟩
theorem Two.keep {T : Nat → Prop} {b g : Nat} {X Y : Array Value} {w W : World} (h : Two b g X Y w) (hg : Chg T w W) (h1 : ¬ T b) (h2 : ¬ T g) : Two b g X Y W :=
 ⟨(hg.block b (Array.getElem?_eq_some_iff.1 h.1).1 h1).trans h.1, (hg.block g (Array.getElem?_eq_some_iff.1 h.2).1 h2).trans h.2⟩
theorem cGet_no (p : Option Addr) (w : World) (hp : ∀ W, Chg Non w W → NoDisk W p) :
  Calls Tryz.prog 51 #[.pointer p] w fun e w' => e = .returned (.tuple #[.agg recZ, .agg recZ, .int .i64 1]) ∧ Chg Non w w' := by
 have HL := Lh (fun W h => Len_no p W (hp W h))
 clear hp
 go_enter Tryz.func51, Tryz.ntmps51
 go_wp2_with fail
 refine (HL.out _ (((Chg.refl Non w).alloc _).alloc _)).mono ?_
 rintro e w' ⟨rfl, rfl⟩
 go_wp2_with fail
 have hT : Two w.heap.size (w.heap.size + 1) recZ recZ ((w.alloc (.cells recZ 46)).alloc (.cells recZ 46)) := ⟨heap_alloc2_old _ _ _, heap_alloc2_new _ _ _⟩
 have hg : Chg Non w ((w.alloc (.cells recZ 46)).alloc (.cells recZ 46)) := ((Chg.refl Non w).alloc _).alloc _
 have HT := Lh hT
 have HG := Lh hg
 clear hT hg
 refine wp_region_any (by kernel_rfl) ?_
 change wpAny _ _ _ _ _ _ _ (World.drew _)
 have hTd : Two w.heap.size (w.heap.size + 1) recZ recZ ((w.alloc (.cells recZ 46)).alloc (.cells recZ 46)).drew := HT.out
 have hne : w.heap.size ≠ w.heap.size + 1 := by omega
 refine g_two 0 1 (by kernel_rfl) ?_ ?_
 ·refine g_load (some 14) 46 (.tmp 2) w.heap.size 0 recZ _ rfl (by kernel_rfl) (by kernel_rfl) (by kernel_rfl) (by kernel_rfl) hTd.left Tryz.underlying46 rfl (by rw [recZ_size]; exact info_rec) ?_
  simp only [Act.put, sA, sB, sC]
  refine g_two 1 2 (by kernel_rfl) ?_ ?_
  ·refine g_load (some 15) 46 (.tmp 3) (w.heap.size + 1) 0 recZ _ rfl (by kernel_rfl) (by kernel_rfl) (by kernel_rfl) (by kernel_rfl) hTd.right Tryz.underlying46 rfl (by rw [recZ_size]; exact info_rec) ?_
   simp only [Act.put, sA, sB, sC]
   refine g_one 2 (by kernel_rfl) ?_
   refine g_store 46 (.tmp 2) (.tmp 14) w.heap.size recZ rfl (by kernel_rfl) (by kernel_rfl) (by kernel_rfl) (by kernel_rfl) (by kernel_rfl) 46 ⟨_, hTd.1, rfl⟩ (by rw [recZ_size]; exact info_rec) recZ_one ?_
   intro W1 hg1 hb1
   have hT1 := hTd.put1 hne hg1 hb1
   refine g_one 3 (by kernel_rfl) ?_
   refine g_store 46 (.tmp 3) (.tmp 15) (w.heap.size + 1) recZ rfl (by kernel_rfl) (by kernel_rfl) (by kernel_rfl) (by kernel_rfl) (by kernel_rfl) 46 ⟨_, hT1.2, rfl⟩ (by rw [recZ_size]; exact info_rec) recZ_one ?_
   intro W2 hg2 hb2
   have hT2 := hT1.put2 hne hg2 hb2
   refine g_one 4 (by kernel_rfl) ?_
   refine g_pure (some 4) (.int .i64 1) rfl (by kernel_rfl) (by kernel_rfl) (by go_simp) ?_
   simp only [Act.put, sA, sB, sC]
   refine wpAny_done (by kernel_rfl) ?_ _
   go_wp2
   exact bodyPost_ret (run_results_cell2_tmp Tryz.results51 _ _ w.heap.size (w.heap.size + 1) 46 recZ recZ (0, 0) (0, 0) _ (.int .i64 1) (by kernel_rfl) (by kernel_rfl) (by kernel_rfl) hT2.1 hT2.2 Tryz.underlying46 rfl (by rw [recZ_size]; exact info_rec) (by rw [recZ_size]; exact info_rec)) (by kernel_rfl) ⟨rfl, ((HG.out.drew).then_new hg1 (fun x e => by omega)).then_new hg2 (fun x e => by omega)⟩
  ·refine g_store 46 (.tmp 2) (.tmp 14) w.heap.size recZ rfl (by kernel_rfl) (by kernel_rfl) (by kernel_rfl) (by kernel_rfl) (by kernel_rfl) 46 ⟨_, hTd.1, rfl⟩ (by rw [recZ_size]; exact info_rec) recZ_one ?_
   intro W1 hg1 hb1
   have hT1 := hTd.put1 hne hg1 hb1
   refine g_one 1 (by kernel_rfl) ?_
   refine g_load (some 15) 46 (.tmp 3) (w.heap.size + 1) 0 recZ _ rfl (by kernel_rfl) (by kernel_rfl) (by kernel_rfl) (by kernel_rfl) hT1.right Tryz.underlying46 rfl (by rw [recZ_size]; exact info_rec) ?_
   simp only [Act.put, sA, sB, sC]
   refine g_one 3 (by kernel_rfl) ?_
   refine g_store 46 (.tmp 3) (.tmp 15) (w.heap.size + 1) recZ rfl (by kernel_rfl) (by kernel_rfl) (by kernel_rfl) (by kernel_rfl) (by kernel_rfl) 46 ⟨_, hT1.2, rfl⟩ (by rw [recZ_size]; exact info_rec) recZ_one ?_
   intro W2 hg2 hb2
   have hT2 := hT1.put2 hne hg2 hb2
   refine g_one 4 (by kernel_rfl) ?_
   refine g_pure (some 4) (.int .i64 1) rfl (by kernel_rfl) (by kernel_rfl) (by go_simp) ?_
   simp only [Act.put, sA, sB, sC]
   refine wpAny_done (by kernel_rfl) ?_ _
   go_wp2
   exact bodyPost_ret (run_results_cell2_tmp Tryz.results51 _ _ w.heap.size (w.heap.size + 1) 46 recZ recZ (0, 0) (0, 0) _ (.int .i64 1) (by kernel_rfl) (by kernel_rfl) (by kernel_rfl) hT2.1 hT2.2 Tryz.underlying46 rfl (by rw [recZ_size]; exact info_rec) (by rw [recZ_size]; exact info_rec)) (by kernel_rfl) ⟨rfl, ((HG.out.drew).then_new hg1 (fun x e => by omega)).then_new hg2 (fun x e => by omega)⟩
 ·refine g_load (some 15) 46 (.tmp 3) (w.heap.size + 1) 0 recZ _ rfl (by kernel_rfl) (by kernel_rfl) (by kernel_rfl) (by kernel_rfl) hTd.right Tryz.underlying46 rfl (by rw [recZ_size]; exact info_rec) ?_
  simp only [Act.put, sA, sB, sC]
  refine g_one 0 (by kernel_rfl) ?_
  refine g_load (some 14) 46 (.tmp 2) w.heap.size 0 recZ _ rfl (by kernel_rfl) (by kernel_rfl) (by kernel_rfl) (by kernel_rfl) hTd.left Tryz.underlying46 rfl (by rw [recZ_size]; exact info_rec) ?_
  simp only [Act.put, sA, sB, sC]
  refine g_one 2 (by kernel_rfl) ?_
  refine g_store 46 (.tmp 2) (.tmp 14) w.heap.size recZ rfl (by kernel_rfl) (by kernel_rfl) (by kernel_rfl) (by kernel_rfl) (by kernel_rfl) 46 ⟨_, hTd.1, rfl⟩ (by rw [recZ_size]; exact info_rec) recZ_one ?_
  intro W1 hg1 hb1
  have hT1 := hTd.put1 hne hg1 hb1
  refine g_one 3 (by kernel_rfl) ?_
  refine g_store 46 (.tmp 3) (.tmp 15) (w.heap.size + 1) recZ rfl (by kernel_rfl) (by kernel_rfl) (by kernel_rfl) (by kernel_rfl) (by kernel_rfl) 46 ⟨_, hT1.2, rfl⟩ (by rw [recZ_size]; exact info_rec) recZ_one ?_
  intro W2 hg2 hb2
  have hT2 := hT1.put2 hne hg2 hb2
  refine g_one 4 (by kernel_rfl) ?_
  refine g_pure (some 4) (.int .i64 1) rfl (by kernel_rfl) (by kernel_rfl) (by go_simp) ?_
  simp only [Act.put, sA, sB, sC]
  refine wpAny_done (by kernel_rfl) ?_ _
  go_wp2
  exact bodyPost_ret (run_results_cell2_tmp Tryz.results51 _ _ w.heap.size (w.heap.size + 1) 46 recZ recZ (0, 0) (0, 0) _ (.int .i64 1) (by kernel_rfl) (by kernel_rfl) (by kernel_rfl) hT2.1 hT2.2 Tryz.underlying46 rfl (by rw [recZ_size]; exact info_rec) (by rw [recZ_size]; exact info_rec)) (by kernel_rfl) ⟨rfl, ((HG.out.drew).then_new hg1 (fun x e => by omega)).then_new hg2 (fun x e => by omega)⟩
end
section
open Go.RowKit
end
section
open Go.RowKit
theorem recRd_hash (s : List UInt8) : (recRd s).1.hash.length = 32 := recFields_hash _
section
variable {R0 R1 : Rec} {X0 X1 : Array Value} {l m : Int}
end
end
section
open Go.RowKit
theorem recRd_zeroB : (recRd (List.replicate 64 0)).2 = false := by
 have : openL 1 (List.replicate 64 0) = none := by decide +kernel
 unfold recRd
 rw [this]
 rfl
theorem cGet_small (pd ps pm : Nat) (D : Dk) (w : World) (h : IsD w pd ps pm D) (hup : D.up = true) (hlen : D.sec.length = 1) (hz : D.at_ 0 = List.replicate 64 0) :
  Calls Tryz.prog 51 #[.pointer (some ⟨pd, 0, none⟩)] w fun e w' => e = .returned (.tuple #[.agg recZ, .agg recZ, .int .i64 61]) ∧ Chg Non w w' := by
 have HL := Lh (fun W hg => Len_ok pd ps pm D W (h.non hg))
 rw [hlen] at HL
 have HRd0 := Lh (fun W hg => Read_any pd ps pm D 0 W (h.non hg) hup (by omega))
 have HRd1 := Lh (fun W hg => Read_no_sector pd ps pm D 1 W (h.non hg) hup (by omega))
 rw [hz] at HRd0
 have HR0 := Lh (fun A c W (h1 : Rd W A (List.replicate 64 (0 : UInt8))) (h2 : (List.replicate 64 (0 : UInt8)).length ≤ c) (h3 : c ≤ maxLen) => recRead_any A (List.replicate 64 0) c W h1 (by simp) (by simp) h2 h3)
 rw [recRd_zeroB] at HR0
 have HXS := Lh (recA_size _ (recRd_hash (List.replicate 64 0)))
 have HX1 := Lh (recA_one (recRd (List.replicate 64 0)).1)
 have HX0 := Lh (recA_0 (recRd (List.replicate 64 0)).1)
 obtain ⟨X, hX⟩ : ∃ X, recA (recRd (List.replicate 64 0)).1 = X := ⟨_, rfl⟩
 rw [hX] at HR0 HXS HX1 HX0
 clear hX h hup hlen hz
 have hT : Two w.heap.size (w.heap.size + 1) recZ recZ ((w.alloc (.cells recZ 46)).alloc (.cells recZ 46)) := ⟨heap_alloc2_old _ _ _, heap_alloc2_new _ _ _⟩
 have hg : Chg Non w ((w.alloc (.cells recZ 46)).alloc (.cells recZ 46)) := ((Chg.refl Non w).alloc _).alloc _
 have hne : w.heap.size ≠ w.heap.size + 1 := by omega
 go_enter Tryz.func51, Tryz.ntmps51
 go_wp2_with fail
 refine (HL.out _ (((Chg.refl Non w).alloc _).alloc _)).mono ?_
 rintro e w' ⟨rfl, rfl⟩
 have HT := Lh hT
 have HG := Lh hg
 clear hT hg
 go_wp2_with fail
 refine wp_loop_rounds 2 ?_
 rw [rounds_succ]
 go_wp2_with fail
 refine (HRd0.out _ (((((Chg.refl Non w).alloc _).alloc _).alloc _))).mono ?_
 rintro e w1 ⟨A1, c1, rfl, hc1, hm1, ho1, hg1⟩
 have HT1 := Lh (HT.out.non (((Chg.refl Non _).alloc _).then_non hg1))
 have HG1 := Lh (((((Chg.refl Non w).alloc _).alloc _).alloc _).then_non hg1)
 go_wp2_with fail
 refine (HR0.out A1 c1 w1 ho1.rd hc1 hm1).mono ?_
 rintro e w2 ⟨rfl, hg2⟩
 have HT2 := Lh (HT1.out.non hg2)
 have HG2 := Lh (HG1.out.then_non hg2)
 clear hg1 hg2 ho1 hc1 hm1
 go_wp2_with (first
   | (refine sel none (.store 46 (.tmp 9) (.tmp 34)) ?_
      refine wpList_store_rowA rfl 46 (.tmp 9) (.tmp 34) rfl w2.heap.size X rfl rfl 46 _ (heap_alloc_new _ _) (by rw [HXS.out]; exact info_rec) (by rw [HXS.out]; rfl) HX1.out ?_
      intro W hgW hbW
      have HT3 := Lh ((HT2.out.non ((Chg.refl Non _).alloc _)).keep hgW (by have := (Array.getElem?_eq_some_iff.1 HT2.out.1).1; omega) (by have := (Array.getElem?_eq_some_iff.1 HT2.out.2).1; omega))
      have HG3 := Lh ((HG2.out.alloc _).then_new hgW (fun x e => by have := HG2.out.size; omega))
      clear hgW hbW))
 rw [rounds_succ]
 go_wp2_with fail
 refine (HRd1.out _ HG3.out).mono ?_
 rintro e wx ⟨rfl, rfl⟩
 go_wp2_with fail
 have hTd : Two w.heap.size (w.heap.size + 1) recZ recZ W.drew := HT3.out
 have hGd : Chg Non w W.drew := HG3.out.drew
 refine wp_region_held_drew (S := fun V => Two w.heap.size (w.heap.size + 1) recZ recZ V ∧ Chg Non w V) (by kernel_rfl) ⟨hTd, hGd⟩ (fun hS => ?_)
 refine h_load 0 (some 28) 46 (.tmp 2) w.heap.size 0 recZ _ rfl (by kernel_rfl) (by kernel_rfl) (by kernel_rfl) (by kernel_rfl) (by kernel_rfl) (fun _ _ _ h => h) (by kernel_rfl) (by kernel_rfl) (fun w h => h.1.left) Tryz.underlying46 rfl (by rw [recZ_size]; exact info_rec) hS ?_
 simp only [Act.put, sA, sB, sC]
 refine h_load 1 (some 29) 46 (.tmp 3) (w.heap.size + 1) 0 recZ _ rfl (by kernel_rfl) (by kernel_rfl) (by kernel_rfl) (by kernel_rfl) (by kernel_rfl) (fun _ _ _ h => h) (by kernel_rfl) (by kernel_rfl) (fun w h => h.1.right) Tryz.underlying46 rfl (by rw [recZ_size]; exact info_rec) hS ?_
 simp only [Act.put, sA, sB, sC]
 refine hp 2 30 (.int .i64 61) rfl hS ?_
 refine h_store 3 46 (.tmp 2) (.tmp 28) w.heap.size recZ (by kernel_rfl) rfl (by kernel_rfl) (by kernel_rfl) (by kernel_rfl) (by kernel_rfl) (by kernel_rfl) 46 ⟨_, hS.1.1, rfl⟩ (by rw [recZ_size]; exact info_rec) recZ_one (fun W h1 h2 => ⟨hS.1.put1 hne h1 h2, hS.2.then_new h1 (fun x e => by omega)⟩) ?_
 intro W1 k1 k2
 have hS1 : Two w.heap.size (w.heap.size + 1) recZ recZ W1 ∧ Chg Non w W1 := ⟨hS.1.put1 hne k1 k2, hS.2.then_new k1 (fun x e => by omega)⟩
 refine h_store 4 46 (.tmp 3) (.tmp 29) (w.heap.size + 1) recZ (by kernel_rfl) rfl (by kernel_rfl) (by kernel_rfl) (by kernel_rfl) (by kernel_rfl) (by kernel_rfl) 46 ⟨_, hS1.1.2, rfl⟩ (by rw [recZ_size]; exact info_rec) recZ_one (fun W h1 h2 => ⟨hS1.1.put2 hne h1 h2, hS1.2.then_new h1 (fun x e => by omega)⟩) ?_
 intro W2 k3 k4
 have hS2 : Two w.heap.size (w.heap.size + 1) recZ recZ W2 ∧ Chg Non w W2 := ⟨hS1.1.put2 hne k3 k4, hS1.2.then_new k3 (fun x e => by omega)⟩
 refine hp 5 4 (.int .i64 61) rfl hS2 ?_
 refine hdn ?_ _
 have HF := Lh hS2
 clear hS hS1 hS2 k1 k2 k3 k4 hTd hGd
 go_wp2
 exact bodyPost_ret (run_results_cell2_tmp Tryz.results51 _ _ w.heap.size (w.heap.size + 1) 46 recZ recZ (0, 0) (0, 0) _ (.int .i64 61) (by kernel_rfl) (by kernel_rfl) (by kernel_rfl) HF.out.1.1 HF.out.1.2 Tryz.underlying46 rfl (by rw [recZ_size]; exact info_rec) (by rw [recZ_size]; exact info_rec)) (by kernel_rfl) ⟨rfl, HF.out.2⟩
end
section
open Go.RowKit
def NoSt (w : World) (p : Option Addr) : Prop := match p with
 | none => True
 | some a => a.spot = none ∧ w.cell? ⟨a.block, a.off, none⟩ = some (.pointer none)
def manZ : Array Value := #[.int .i64 0] ++ Array.replicate 32 (.int .u8 0) ++ #[.int .i64 0, .slice none 0 0, .slice none 0 0, .slice none 0 0] ++ Array.replicate 32 (.int .u8 0)
def urecZ : Array Value := #[.int .i64 0, .int .i64 0, .int .i64 0, .bool false] ++ Array.replicate 32 (.int .u8 0)
theorem sNone (p : Option Addr) (w : World) (hp : NoSt w p) :
  Calls Tryz.prog 89 #[.pointer p] w fun e w' => e = .returned (.bool true) ∧ w = w' := by
 rcases p with _ | ⟨b, o, s⟩
 ·go_enter Tryz.func89, Tryz.ntmps89
  go_wp2
  go_ret
  exact ⟨rfl, rfl⟩
 ·obtain ⟨rfl, hc⟩ := hp
  go_enter Tryz.func89, Tryz.ntmps89
  go_wp2
  go_ret
  exact ⟨rfl, rfl⟩
theorem sLen (p : Option Addr) (w : World) (hp : NoSt w p) :
  Calls Tryz.prog 30 #[.pointer p] w fun e w' => e = .returned (.int .i64 0) ∧ w = w' := by
 have HN := Lh (sNone p w hp)
 clear hp
 go_enter Tryz.func30, Tryz.ntmps30
 go_wp2_with fail
 refine HN.out.mono ?_
 rintro e w' ⟨rfl, rfl⟩
 go_wp2_with fail
 go_ret
 exact ⟨rfl, rfl⟩
theorem eq_tagZ (w : World) : (binOp .eql 23 (.agg (Array.replicate 32 (.int .u8 0))) (.agg (Array.replicate 32 (.int .u8 0)))).run Tryz.prog w = .ok (.bool true) w := by kernel_rfl
def cfgZ : Array Value := #[.slice none 0 0, .slice none 0 0, .slice none 0 0]
theorem same11 (w : World) :
  Calls Tryz.prog 128 #[.agg cfgZ, .agg cfgZ] w fun e w' => e = .returned (.bool true) ∧ Chg Non w w' := by
 unfold cfgZ
 go_enter Tryz.func128, Tryz.ntmps128
 go_wp2_with fail
 refine wp_loop_rounds 1 ?_
 rw [rounds_succ]
 go_wp2_with fail
 refine wp_loop_rounds 1 ?_
 rw [rounds_succ]
 go_wp2_with fail
 refine wp_loop_rounds 1 ?_
 rw [rounds_succ]
 go_wp2_with fail
 go_ret
 exact ⟨rfl, ((Chg.refl Non w).alloc _).alloc _⟩
theorem row_mid {w : World} {b : Nat} {C : Array Value} {t : TypeId} {fr : Nat × Nat} (h : w.heap[b]? = some (.cells C t fr)) (o n : Nat) (L : List Value) (hL : (C.toList.drop o).take n = L) : w.rangeAt b o L := fun j v hv => by
 rw [cell_of_row _ _ _ _ _ _ h]
 subst hL
 have hj : j < n := by
  have := (List.getElem?_eq_some_iff.1 hv).1
  simp only [List.length_take] at this
  omega
 rw [List.getElem?_take_of_lt hj, List.getElem?_drop] at hv
 simpa using hv
def tagZ : Array Value := Array.replicate 32 (.int .u8 0)
theorem manZ_t1 : (manZ.toList.drop 1).take 32 = tagZ.toList := by kernel_rfl
theorem manZ_t2 : (manZ.toList.drop 37).take 32 = tagZ.toList := by kernel_rfl
theorem manZ_c : (manZ.toList.drop 34).take 3 = cfgZ.toList := by kernel_rfl
theorem manZ_0 : manZ[0]? = some (.int .i64 0) := by kernel_rfl
theorem manZ_33 : manZ[33]? = some (.int .i64 0) := by kernel_rfl
theorem info_tagU : (Tryz.prog.info? 23).map (·.size) = some tagZ.size := by kernel_rfl
theorem info_cfg : (Tryz.prog.info? 28).map (·.size) = some cfgZ.size := by kernel_rfl
theorem same14 (w : World) :
  Calls Tryz.prog 59 #[.agg manZ, .agg manZ] w fun e w' => e = .returned (.bool true) ∧ Chg Non w w' := by
 have HS := Lh same11
 have eT : ∀ W : World, (binOp .eql 23 (.agg tagZ) (.agg tagZ)).run Tryz.prog W = .ok (.bool true) W := eq_tagZ
 have m0 := manZ_0
 have m33 := manZ_33
 go_enter Tryz.func59, Tryz.ntmps59
 go_wp2_with (first
   | (refine sel (some 12) (.load 23 (.tmp 11)) ?_
      refine wpList_loadW (some 12) 23 (.tmp 11) w.heap.size 1 tagZ _ rfl rfl (by kernel_rfl) (by kernel_rfl) (row_mid (heap_alloc2_old _ _ _) 1 32 _ manZ_t1) Tryz.underlying23 rfl info_tagU ?_)
   | (refine sel (some 14) (.load 23 (.tmp 13)) ?_
      refine wpList_loadW (some 14) 23 (.tmp 13) (w.heap.size + 1) 1 tagZ _ rfl rfl (by kernel_rfl) (by kernel_rfl) (row_mid (heap_alloc2_new _ _ _) 1 32 _ manZ_t1) Tryz.underlying23 rfl info_tagU ?_)
   | (refine sel (some 26) (.load 23 (.tmp 25)) ?_
      refine wpList_loadW (some 26) 23 (.tmp 25) w.heap.size 37 tagZ _ rfl rfl (by kernel_rfl) (by kernel_rfl) (row_mid (heap_alloc2_old _ _ _) 37 32 _ manZ_t2) Tryz.underlying23 rfl info_tagU ?_)
   | (refine sel (some 28) (.load 23 (.tmp 27)) ?_
      refine wpList_loadW (some 28) 23 (.tmp 27) (w.heap.size + 1) 37 tagZ _ rfl rfl (by kernel_rfl) (by kernel_rfl) (row_mid (heap_alloc2_new _ _ _) 37 32 _ manZ_t2) Tryz.underlying23 rfl info_tagU ?_)
   | (refine sel (some 33) (.load 28 (.tmp 32)) ?_
      refine wpList_loadW (some 33) 28 (.tmp 32) w.heap.size 34 cfgZ _ rfl rfl (by kernel_rfl) (by kernel_rfl) (row_mid (heap_alloc2_old _ _ _) 34 3 _ manZ_c) Tryz.underlying28 rfl info_cfg ?_)
   | (refine sel (some 35) (.load 28 (.tmp 34)) ?_
      refine wpList_loadW (some 35) 28 (.tmp 34) (w.heap.size + 1) 34 cfgZ _ rfl rfl (by kernel_rfl) (by kernel_rfl) (row_mid (heap_alloc2_new _ _ _) 34 3 _ manZ_c) Tryz.underlying28 rfl info_cfg ?_)
   | (go_at_call 128
      refine (HS.out _).mono ?_
      rintro e u ⟨rfl, hg⟩
      have HG := Lh ((((Chg.refl Non w).alloc _).alloc _).then_non hg)
      clear hg))
 go_ret
 exact ⟨rfl, HG.out⟩
end
section
open Go.RowKit
def choZ : Array Value := urecZ ++ manZ
theorem choZ_size : choZ.size = 105 := by kernel_rfl
theorem choZ_one : choZ.all (·.oneCell') = true := by kernel_rfl
theorem info_cho : (Tryz.prog.info? 48).map (·.size) = some choZ.size := by kernel_rfl
theorem info_recB : (Tryz.prog.info? 46).map (·.size) = some recZ.size := by kernel_rfl
def BadG (w : World) (p : Option Addr) (e : Int) : Prop := ∀ W, Chg Non w W → Calls Tryz.prog 51 #[.pointer p] W fun x w' => x = .returned (.tuple #[.agg recZ, .agg recZ, .int .i64 e]) ∧ Chg Non W w'
theorem BadG.non {w W : World} {p : Option Addr} {e : Int} (h : BadG w p e) (hg : Chg Non w W) : BadG W p e := fun V hV => h V (hg.then_non hV)
theorem bLook (p : Option Addr) (e : Int) (w : World) (h : BadG w p e) (he : e ≠ 0) :
  Calls Tryz.prog 12 #[.pointer p] w fun x w' => x = .returned (.tuple #[.agg choZ, .int .i64 e]) ∧ Chg Non w w' := by
 have H := Lh h
 have hb : (e != 0) = true := by simpa using he
 clear h he
 go_enter Tryz.func12, Tryz.ntmps12
 go_wp2_with fail
 refine (H.out _ ((Chg.refl Non w).alloc _)).mono ?_
 rintro x w1 ⟨rfl, hg1⟩
 have HG1 := Lh (((Chg.refl Non w).alloc _).then_non hg1)
 have HA := Lh (blockN hg1 (heap_alloc_new _ _))
 clear hg1
 go_wp2_with (first
   | (refine sel none (.store 46 (.tmp 4) (.tmp 10)) ?_
      refine wpList_store_rowA rfl 46 (.tmp 4) (.tmp 10) rfl w1.heap.size recZ rfl rfl 46 _ (heap_alloc2_old _ _ _) info_recB rfl recZ_one ?_
      intro v1 k1 k2
      have HZ := Lh ((k1.block (w1.heap.size + 1) (by simp) (by omega)).trans (heap_alloc2_new _ _ _))
      have HA1 := Lh ((k1.block w.heap.size (by have := (Array.getElem?_eq_some_iff.1 HA.out).1; simp; omega) (by have := (Array.getElem?_eq_some_iff.1 HA.out).1; omega)).trans ((blockN (((Chg.refl Non w1).alloc _).alloc _) HA.out)))
      have HG2 := Lh (((HG1.out.alloc _).alloc _).then_new k1 (fun x e => by have := HG1.out.size; omega))
      clear k1 k2)
   | (refine sel none (.store 46 (.tmp 5) (.tmp 11)) ?_
      refine wpList_store_rowA rfl 46 (.tmp 5) (.tmp 11) rfl (w1.heap.size + 1) recZ rfl rfl 46 _ HZ.out info_recB rfl recZ_one ?_
      intro v2 k1 k2
      have HA2 := Lh ((k1.block w.heap.size (Array.getElem?_eq_some_iff.1 HA1.out).1 (by have := (Array.getElem?_eq_some_iff.1 HA.out).1; omega)).trans HA1.out)
      have HG3 := Lh (HG2.out.then_new k1 (fun x e => by have := HG1.out.size; omega))
      clear k1 k2)
   | (refine sel (some 15) (.build 48 #[]) ?_
      refine wpList_pureW (some 15) (.agg choZ) rfl (by kernel_rfl) (by kernel_rfl) ?_)
   | (refine sel none (.store 48 (.tmp 2) (.tmp 15)) ?_
      refine wpList_store_rowA rfl 48 (.tmp 2) (.tmp 15) rfl w.heap.size choZ rfl rfl 48 _ HA2.out info_cho rfl choZ_one ?_
      intro v3 k1 k2
      have HA3 := Lh k2
      have HG4 := Lh (HG3.out.then_new k1 (fun x e => by omega))
      clear k1 k2))
 refine bodyPost_ret (results_ct Tryz.results12 _ _ w.heap.size 48 choZ (0, 0) _ (.int .i64 e) (by kernel_rfl) (by kernel_rfl) HA3.out Tryz.underlying48 rfl info_cho) (by kernel_rfl) ⟨rfl, HG4.out⟩
theorem bAhead (p : Option Addr) (e : Int) (w : World) (h : BadG w p e) (he : e ≠ 0) :
  Calls Tryz.prog 13 #[.pointer p] w fun x w' => x = .returned (.tuple #[.agg choZ, .int .i64 e]) ∧ Chg Non w w' := by
 have H := Lh h
 have hb : (e != 0) = true := by simpa using he
 clear h he
 go_enter Tryz.func13, Tryz.ntmps13
 go_wp2_with fail
 refine (H.out _ ((Chg.refl Non w).alloc _)).mono ?_
 rintro x w1 ⟨rfl, hg1⟩
 have HG1 := Lh (((Chg.refl Non w).alloc _).then_non hg1)
 have HA := Lh (blockN hg1 (heap_alloc_new _ _))
 clear hg1
 go_wp2_with (first
   | (refine sel none (.store 46 (.tmp 4) (.tmp 10)) ?_
      refine wpList_store_rowA rfl 46 (.tmp 4) (.tmp 10) rfl w1.heap.size recZ rfl rfl 46 _ (heap_alloc2_old _ _ _) info_recB rfl recZ_one ?_
      intro v1 k1 k2
      have HZ := Lh ((k1.block (w1.heap.size + 1) (by simp) (by omega)).trans (heap_alloc2_new _ _ _))
      have HA1 := Lh ((k1.block w.heap.size (by have := (Array.getElem?_eq_some_iff.1 HA.out).1; simp; omega) (by have := (Array.getElem?_eq_some_iff.1 HA.out).1; omega)).trans ((blockN (((Chg.refl Non w1).alloc _).alloc _) HA.out)))
      have HG2 := Lh (((HG1.out.alloc _).alloc _).then_new k1 (fun x e => by have := HG1.out.size; omega))
      clear k1 k2)
   | (refine sel none (.store 46 (.tmp 5) (.tmp 11)) ?_
      refine wpList_store_rowA rfl 46 (.tmp 5) (.tmp 11) rfl (w1.heap.size + 1) recZ rfl rfl 46 _ HZ.out info_recB rfl recZ_one ?_
      intro v2 k1 k2
      have HA2 := Lh ((k1.block w.heap.size (Array.getElem?_eq_some_iff.1 HA1.out).1 (by have := (Array.getElem?_eq_some_iff.1 HA.out).1; omega)).trans HA1.out)
      have HG3 := Lh (HG2.out.then_new k1 (fun x e => by have := HG1.out.size; omega))
      clear k1 k2)
   | (refine sel (some 16) (.build 48 #[]) ?_
      refine wpList_pureW (some 16) (.agg choZ) rfl (by kernel_rfl) (by kernel_rfl) ?_)
   | (refine sel none (.store 48 (.tmp 2) (.tmp 16)) ?_
      refine wpList_store_rowA rfl 48 (.tmp 2) (.tmp 16) rfl w.heap.size choZ rfl rfl 48 _ HA2.out info_cho rfl choZ_one ?_
      intro v3 k1 k2
      have HA3 := Lh k2
      have HG4 := Lh (HG3.out.then_new k1 (fun x e => by omega))
      clear k1 k2))
 refine bodyPost_ret (results_ct Tryz.results13 _ _ w.heap.size 48 choZ (0, 0) _ (.int .i64 e) (by kernel_rfl) (by kernel_rfl) HA3.out Tryz.underlying48 rfl info_cho) (by kernel_rfl) ⟨rfl, HG4.out⟩
theorem bEnds (p : Option Addr) (f : Value) (e : Int) (w : World) (h : BadG w p e) (he : e ≠ 0) :
  Calls Tryz.prog 56 #[.pointer p, f] w fun x w' => x = .returned (.tuple #[.agg choZ, .int .i64 e]) ∧ Chg Non w w' := by
 have H := Lh (fun W (hg : Chg Non w W) => bLook p e W (h.non hg) he)
 have hb : (e != 0) = true := by simpa using he
 clear h he
 go_enter Tryz.func56, Tryz.ntmps56
 go_wp2_with fail
 refine (H.out _ ((Chg.refl Non w).alloc _)).mono ?_
 rintro x w1 ⟨rfl, hg1⟩
 have HG1 := Lh (((Chg.refl Non w).alloc _).then_non hg1)
 have HA := Lh (blockN hg1 (heap_alloc_new _ _))
 clear hg1
 go_wp2_with (first
   | (refine sel none (.store 48 (.tmp 6) (.tmp 13)) ?_
      refine wpList_store_rowA rfl 48 (.tmp 6) (.tmp 13) rfl w1.heap.size choZ rfl rfl 48 _ (heap_alloc_new _ _) info_cho rfl choZ_one ?_
      intro v1 k1 k2
      have HA1 := Lh ((k1.block w.heap.size (by have := (Array.getElem?_eq_some_iff.1 HA.out).1; simp; omega) (by have := (Array.getElem?_eq_some_iff.1 HA.out).1; omega)).trans ((blockN ((Chg.refl Non w1).alloc _) HA.out)))
      have HG2 := Lh ((HG1.out.alloc _).then_new k1 (fun x e => by have := HG1.out.size; omega))
      clear k1 k2)
   | (refine sel (some 17) (.build 48 #[]) ?_
      refine wpList_pureW (some 17) (.agg choZ) rfl (by kernel_rfl) (by kernel_rfl) ?_)
   | (refine sel none (.store 48 (.tmp 4) (.tmp 17)) ?_
      refine wpList_store_rowA rfl 48 (.tmp 4) (.tmp 17) rfl w.heap.size choZ rfl rfl 48 _ HA1.out info_cho rfl choZ_one ?_
      intro v3 k1 k2
      have HA3 := Lh k2
      have HG4 := Lh (HG2.out.then_new k1 (fun x e => by omega))
      clear k1 k2))
 refine bodyPost_ret (results_ct Tryz.results56 _ _ w.heap.size 48 choZ (0, 0) _ (.int .i64 e) (by kernel_rfl) (by kernel_rfl) HA3.out Tryz.underlying48 rfl info_cho) (by kernel_rfl) ⟨rfl, HG4.out⟩
theorem bBack (p : Option Addr) (e : Int) (w : World) (h : BadG w p e) (he : e ≠ 0) :
  Calls Tryz.prog 14 #[.pointer p] w fun x w' => x = .returned (.tuple #[.agg choZ, .int .i64 e]) ∧ Chg Non w w' := by
 have H := Lh (fun f W (hg : Chg Non w W) => bEnds p f e W (h.non hg) he)
 clear h he
 go_enter Tryz.func14, Tryz.ntmps14
 go_wp2_with fail
 refine (H.out _ _ ((Chg.refl Non w).alloc _)).mono ?_
 rintro x w1 ⟨rfl, hg1⟩
 have HG1 := Lh (((Chg.refl Non w).alloc _).then_non hg1)
 have HA := Lh (blockN hg1 (heap_alloc_new _ _))
 clear hg1
 go_wp2_with (first
   | (refine sel none (.store 48 (.tmp 2) (.tmp 6)) ?_
      refine wpList_store_rowA rfl 48 (.tmp 2) (.tmp 6) rfl w.heap.size choZ rfl rfl 48 _ HA.out info_cho rfl choZ_one ?_
      intro v3 k1 k2
      have HA3 := Lh k2
      have HG4 := Lh (HG1.out.then_new k1 (fun x e => by omega))
      clear k1 k2))
 refine bodyPost_ret (results_ct Tryz.results14 _ _ w.heap.size 48 choZ (0, 0) _ (.int .i64 e) (by kernel_rfl) (by kernel_rfl) HA3.out Tryz.underlying48 rfl info_cho) (by kernel_rfl) ⟨rfl, HG4.out⟩
theorem bConfirm (p : Option Addr) (e : Int) (w : World) (h : BadG w p e) (he : e ≠ 0) :
  Calls Tryz.prog 15 #[.pointer p] w fun x w' => x = .returned (.tuple #[.agg choZ, .int .i64 e]) ∧ Chg Non w w' := by
 have H := Lh (fun f W (hg : Chg Non w W) => bEnds p f e W (h.non hg) he)
 clear h he
 go_enter Tryz.func15, Tryz.ntmps15
 go_wp2_with fail
 refine (H.out _ _ ((Chg.refl Non w).alloc _)).mono ?_
 rintro x w1 ⟨rfl, hg1⟩
 have HG1 := Lh (((Chg.refl Non w).alloc _).then_non hg1)
 have HA := Lh (blockN hg1 (heap_alloc_new _ _))
 clear hg1
 go_wp2_with (first
   | (refine sel none (.store 48 (.tmp 2) (.tmp 6)) ?_
      refine wpList_store_rowA rfl 48 (.tmp 2) (.tmp 6) rfl w.heap.size choZ rfl rfl 48 _ HA.out info_cho rfl choZ_one ?_
      intro v3 k1 k2
      have HA3 := Lh k2
      have HG4 := Lh (HG1.out.then_new k1 (fun x e => by omega))
      clear k1 k2))
 refine bodyPost_ret (results_ct Tryz.results15 _ _ w.heap.size 48 choZ (0, 0) _ (.int .i64 e) (by kernel_rfl) (by kernel_rfl) HA3.out Tryz.underlying48 rfl info_cho) (by kernel_rfl) ⟨rfl, HG4.out⟩
theorem results_cttB {P : Program} {fn : Func} {p q q2 : Tmp} {ty : TypeId} (h : fn.results = #[.cell p ty, .tmp q, .tmp q2]) (tmps : Array Value) (w : World) (g : Nat) (t : TypeId) (cs : Array Value) (fr : Nat × Nat) (d : TypeDesc) (v v2 : Value)
  (hp : tmps.getD p undef = .pointer (some ⟨g, 0, none⟩)) (hv : tmps.getD q undef = v) (hv2 : tmps.getD q2 undef = v2) (hg : w.heap[g]? = some (.cells cs t fr))
  (hu : P.underlying ty = some d) (hd : (match d with | .struct _ | .array _ _ => true | _ => false) = true) (hi : (P.info? ty).map (·.size) = some cs.size) :
  (results fn tmps).run P w = .ok (.tuple #[.agg cs, v, v2]) w := by
 have hp' : tmps[p]?.getD undef = .pointer (some ⟨g, 0, none⟩) := by simpa using hp
 have hv' : tmps[q]?.getD undef = v := by simpa using hv
 have hv2' : tmps[q2]?.getD undef = v2 := by simpa using hv2
 simp [results, h, hp', hv', hv2', asAddr, run_loadVar_row w g t ty cs fr d hg hu hd hi]
theorem bStart (p : Option Addr) (e : Int) (w : World) (h : BadG w p e) (he : e ≠ 0) :
  Calls Tryz.prog 16 #[.pointer p] w fun x w' => x = .returned (.tuple #[.agg choZ, .bool false, .int .i64 e]) ∧ Chg Non w w' := by
 have H := Lh (fun W (hg : Chg Non w W) => bLook p e W (h.non hg) he)
 have hb : (e != 0) = true := by simpa using he
 clear h he
 go_enter Tryz.func16, Tryz.ntmps16
 go_wp2_with fail
 refine (H.out _ ((Chg.refl Non w).alloc _)).mono ?_
 rintro x w1 ⟨rfl, hg1⟩
 have HG1 := Lh (((Chg.refl Non w).alloc _).then_non hg1)
 have HA := Lh (blockN hg1 (heap_alloc_new _ _))
 clear hg1
 go_wp2_with (first
   | (refine sel none (.store 48 (.tmp 2) (.tmp 11)) ?_
      refine wpList_store_rowA rfl 48 (.tmp 2) (.tmp 11) rfl w.heap.size choZ rfl rfl 48 _ HA.out info_cho rfl choZ_one ?_
      intro v1 k1 k2
      have HA1 := Lh k2
      have HG2 := Lh (HG1.out.then_new k1 (fun x e => by omega))
      clear k1 k2)
   | (refine sel (some 21) (.load 48 (.tmp 2)) ?_
      refine wpList_loadW (some 21) 48 (.tmp 2) w.heap.size 0 choZ _ rfl rfl (by kernel_rfl) (by kernel_rfl) (row_range HA1.out) Tryz.underlying48 rfl info_cho ?_)
   | (refine sel none (.store 48 (.tmp 2) (.tmp 21)) ?_
      refine wpList_store_rowA rfl 48 (.tmp 2) (.tmp 21) rfl w.heap.size choZ rfl rfl 48 _ HA1.out info_cho rfl choZ_one ?_
      intro v3 k1 k2
      have HA3 := Lh k2
      have HG4 := Lh (HG2.out.then_new k1 (fun x e => by omega))
      clear k1 k2))
 refine bodyPost_ret (results_cttB Tryz.results16 _ _ w.heap.size 48 choZ (0, 0) _ (.bool false) (.int .i64 e) (by kernel_rfl) (by kernel_rfl) (by kernel_rfl) HA3.out Tryz.underlying48 rfl info_cho) (by kernel_rfl) ⟨rfl, HG4.out⟩
end
section
open Go.RowKit
theorem choZ_r : (choZ.toList.drop 0).take 36 = urecZ.toList := by kernel_rfl
theorem choZ_m : (choZ.toList.drop 36).take 69 = manZ.toList := by kernel_rfl
theorem info_urecB : (Tryz.prog.info? 46).map (·.size) = some urecZ.size := by kernel_rfl
theorem info_manB : (Tryz.prog.info? 30).map (·.size) = some manZ.size := by kernel_rfl
theorem info_choR : (Tryz.prog.info? 53).map (·.size) = some choZ.size := by kernel_rfl
theorem eq_urecZ (w : World) : (binOp .eql 46 (.agg urecZ) (.agg urecZ)).run Tryz.prog w = .ok (.bool true) w := by kernel_rfl
theorem res_as {tmps : Array Value} {W : World} {g : Nat} {v : Array Value} {fr : Nat × Nat} {t : TypeId} (hp : tmps.getD 2 undef = .pointer (some ⟨g, 0, none⟩)) (hg : W.heap[g]? = some (.cells v t fr)) (hv : v.size = 105) : (results Tryz.f18 tmps).run Tryz.prog W = .ok (.agg v) W := by
 have hp' : tmps[2]?.getD undef = .pointer (some ⟨g, 0, none⟩) := by simpa using hp
 simp [results, Tryz.results18, hp', asAddr, run_loadVar_row W g t 53 v fr _ hg Tryz.underlying53 rfl (by rw [hv]; kernel_rfl)]
theorem asZ (w : World) : Calls Tryz.prog 18 #[.agg choZ] w fun e w' => e = .returned (.agg choZ) ∧ Chg Non w w' := by
 go_enter Tryz.func18, Tryz.ntmps18
 go_wp2_with (first
   | (refine sel (some 4) (.load 46 (.tmp 3)) ?_
      refine wpList_loadW (some 4) 46 (.tmp 3) w.heap.size 0 urecZ _ rfl rfl (by kernel_rfl) (by kernel_rfl) (row_mid (heap_alloc2_old _ _ _) 0 36 _ choZ_r) Tryz.underlying46 rfl info_urecB ?_)
   | (refine sel (some 6) (.load 30 (.tmp 5)) ?_
      refine wpList_loadW (some 6) 30 (.tmp 5) w.heap.size 36 manZ _ rfl rfl (by kernel_rfl) (by kernel_rfl) (row_mid (heap_alloc2_old _ _ _) 36 69 _ choZ_m) Tryz.underlying30 rfl info_manB ?_)
   | (refine sel (some 7) (.build 53 #[(0, .tmp 4), (1, .tmp 6)]) ?_
      refine wpList_pureW (some 7) (.agg choZ) rfl (by kernel_rfl) (by kernel_rfl) ?_)
   | (refine sel none (.store 53 (.tmp 2) (.tmp 7)) ?_
      refine wpList_store_rowA rfl 53 (.tmp 2) (.tmp 7) rfl (w.heap.size + 1) choZ rfl rfl 53 _ (heap_alloc2_new _ _ _) info_choR rfl choZ_one ?_
      intro v1 k1 k2
      have HB := Lh k2
      have HG := Lh ((((Chg.refl Non w).alloc _).alloc _).then_new k1 (fun x e => by omega))
      clear k1 k2))
 exact bodyPost_ret (res_as (by kernel_rfl) HB.out choZ_size) (by kernel_rfl) ⟨rfl, HG.out⟩
theorem same26 (w : World) : Calls Tryz.prog 17 #[.agg choZ, .agg choZ] w fun e w' => e = .returned (.bool true) ∧ Chg Non w w' := by
 have HS := Lh same14
 have heq := eq_urecZ
 go_enter Tryz.func17, Tryz.ntmps17
 go_wp2_with (first
   | (refine sel (some 6) (.load 46 (.tmp 5)) ?_
      refine wpList_loadW (some 6) 46 (.tmp 5) w.heap.size 0 urecZ _ rfl rfl (by kernel_rfl) (by kernel_rfl) (row_mid (heap_alloc2_old _ _ _) 0 36 _ choZ_r) Tryz.underlying46 rfl info_urecB ?_)
   | (refine sel (some 8) (.load 46 (.tmp 7)) ?_
      refine wpList_loadW (some 8) 46 (.tmp 7) (w.heap.size + 1) 0 urecZ _ rfl rfl (by kernel_rfl) (by kernel_rfl) (row_mid (heap_alloc2_new _ _ _) 0 36 _ choZ_r) Tryz.underlying46 rfl info_urecB ?_)
   | (refine sel (some 12) (.load 30 (.tmp 11)) ?_
      refine wpList_loadW (some 12) 30 (.tmp 11) w.heap.size 36 manZ _ rfl rfl (by kernel_rfl) (by kernel_rfl) (row_mid (heap_alloc2_old _ _ _) 36 69 _ choZ_m) Tryz.underlying30 rfl info_manB ?_)
   | (refine sel (some 14) (.load 30 (.tmp 13)) ?_
      refine wpList_loadW (some 14) 30 (.tmp 13) (w.heap.size + 1) 36 manZ _ rfl rfl (by kernel_rfl) (by kernel_rfl) (row_mid (heap_alloc2_new _ _ _) 36 69 _ choZ_m) Tryz.underlying30 rfl info_manB ?_))
 refine (HS.out _).mono ?_
 rintro e w1 ⟨rfl, hg⟩
 have HG := Lh ((((Chg.refl Non w).alloc _).alloc _).then_non hg)
 clear hg
 go_wp2_with fail
 go_ret
 exact ⟨rfl, HG.out⟩
end
end Go.Proofs.YtajkajgifigmbaaGreat
