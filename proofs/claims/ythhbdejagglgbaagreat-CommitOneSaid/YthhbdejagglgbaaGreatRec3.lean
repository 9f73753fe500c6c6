/- Commit records: walk of commit.read. -/
import Derived.Test.YthhbdejagglgbaaGreatRec2
import Derived.Test.YthhbdejagglgbaaGreatHeld
namespace Go.Proofs.YthhbdejagglgbaaGreat
open Go.RowKit
set_option linter.unusedVariables false

/-- what the readings of a form come to: the record, what is left, the error -/
def recFields (m : List UInt8) : Rec × List UInt8 × Int :=
  let a := rdInt m 0
  let b := rdByte a.2.1 a.2.2
  let c := rdInt b.2.1 b.2.2
  let d := rdFlag c.2.1 c.2.2
  let e := rdTag d.2.1 d.2.2
  (⟨a.1, (b.1.toNat : Int), c.1, d.1, e.1⟩, e.2.1, e.2.2)

/-- the record of a sector, and whether it is one's -/
def recRd (s : List UInt8) : Rec × Bool :=
  let f := recFields ((openL 1 s).getD [])
  (f.1, (openL 1 s).isSome && (decide (f.2.2 = 0) && decide (f.2.1 = [])) && f.1.may)

theorem recFields_hash (m : List UInt8) : (recFields m).1.hash.length = 32 := rdTag_len _ _

theorem recFields_split (m : List UInt8) : ∃ x1 l1 e1 x2 l2 e2 x3 l3 e3 x4 l4 e4 x5 l5 e5, rdInt m 0 = (x1, l1, e1) ∧ rdByte l1 e1 = (x2, l2, e2) ∧ rdInt l2 e2 = (x3, l3, e3) ∧ rdFlag l3 e3 = (x4, l4, e4) ∧ rdTag l4 e4 = (x5, l5, e5) ∧
    recFields m = (⟨x1, (x2.toNat : Int), x3, x4, x5⟩, l5, e5) :=
  ⟨_, _, _, _, _, _, _, _, _, _, _, _, _, _, _, rfl, rfl, rfl, rfl, rfl, rfl⟩

theorem fold_set_get (k : Nat) (L : List Value) (j : Nat) (C : Array Value) (i : Nat) :
    (List.foldl (fun (cs : Array Value) (x : Value × Nat) => cs.setIfInBounds (k + x.2) x.1) C (L.zipIdx j))[i]? = if k + j ≤ i ∧ i < k + j + L.length ∧ i < C.size then L[i - (k + j)]? else C[i]? := by
  induction L generalizing j C with
  | nil => simp; omega
  | cons v r ih =>
    rw [List.zipIdx_cons, List.foldl_cons, ih]
    simp only [Array.size_setIfInBounds, List.length_cons]
    by_cases h1 : k + (j + 1) ≤ i ∧ i < k + (j + 1) + r.length ∧ i < C.size
    · rw [if_pos h1, if_pos (by omega), show i - (k + j) = (i - (k + (j + 1))) + 1 by omega, List.getElem?_cons_succ]
    · rw [if_neg h1, Array.getElem?_setIfInBounds]
      by_cases h2 : k + j = i
      · subst h2
        by_cases h3 : k + j < C.size
        · rw [if_pos rfl, if_pos h3, if_pos (by omega), Nat.sub_self]; rfl
        · rw [if_pos rfl, if_neg h3, if_neg (by omega), Array.getElem?_eq_none (by omega)]
      · rw [if_neg h2, if_neg (by omega)]

theorem rec_build (C : Array Value) (x1 x2 x3 : Int) (x4 : Bool) (x5 : List UInt8) (h : x5.length = 32) (h0 : C.size = 36) (h1 : C[0]? = some (.int .i64 x1)) (h2 : C[1]? = some (.int .i64 x2)) (h3 : C[2]? = some (.int .i64 x3)) (h4 : C[3]? = some (.bool x4)) :
    Array.foldl (fun (cs : Array Value) (x : Value × Nat) => cs.setIfInBounds (4 + x.2) x.1) C (tagA x5).zipIdx 0 32 = recA ⟨x1, x2, x3, x4, x5⟩ := by
  have e : 32 = (tagA x5).zipIdx.size := by simp [tagA_size x5 h]
  rw [e, ← Array.foldl_toList, Array.toList_zipIdx]
  apply Array.ext_getElem?
  intro i
  rw [fold_set_get, h0]
  have hl : (tagA x5).toList.length = 32 := by simp [tagA, h]
  rw [hl]
  unfold recA
  by_cases hi : 4 + 0 ≤ i ∧ i < 4 + 0 + 32 ∧ i < 36
  · rw [if_pos hi, Array.getElem?_append_right (by simp; omega), Array.getElem?_toList]
    rfl
  · rw [if_neg hi]
    by_cases h36 : i < 36
    · have : i = 0 ∨ i = 1 ∨ i = 2 ∨ i = 3 := by omega
      rw [Array.getElem?_append_left (by simp; omega)]
      rcases this with rfl | rfl | rfl | rfl
      · exact h1
      · exact h2
      · exact h3
      · exact h4
    · rw [Array.getElem?_eq_none (by omega), Array.getElem?_eq_none (by rw [Array.size_append, tagA_size _ h]; simp; omega)]

/-- the record read lies in block b, the result's place is block g -/
def Both (b g : Nat) (X : Array Value) (w' : World) : Prop :=
  w'.heap[b]? = some (.cells X 25 (0, 0)) ∧ ∃ old, w'.heap[g]? = some (.cells old 25 (0, 0)) ∧ old.size = 36
theorem Both.non {b g : Nat} {X : Array Value} {w w' : World} (h : Both b g X w) (hg : Chg Non w w') : Both b g X w' := by
  obtain ⟨h1, old, h2, h3⟩ := h
  exact ⟨(hg.block b (Array.getElem?_eq_some_iff.1 h1).1 (fun e => e)).trans h1, old, (hg.block g (Array.getElem?_eq_some_iff.1 h2).1 (fun e => e)).trans h2, h3⟩
theorem Both.row {b g : Nat} {X : Array Value} {w : World} (h : Both b g X w) (hx : X.size = 36) (hne : b ≠ g) : Both b g X (w.setRow g X) := by
  obtain ⟨h1, old, h2, h3⟩ := h
  exact ⟨(setRow_other w g b X hne).trans h1, X, setRow_heap _ _ _ _ _ _ h2, hx⟩
theorem Both.old {b g : Nat} {X : Array Value} {w : World} (h : Both b g X w) (hx : X.size = 36) : ∃ old : Array Value, w.heap[g]? = some (.cells old 25 (0, 0)) ∧ old.size = X.size := by
  obtain ⟨_, old, h1, h2⟩ := h
  exact ⟨old, h1, by rw [h2, hx]⟩
theorem Both.range {b g : Nat} {X : Array Value} {w : World} (h : Both b g X w) : w.rangeAt b 0 X.toList := fun j v hv => by
  rw [cell_of_row _ _ _ _ _ _ h.1, Nat.zero_add]
  simpa using hv
theorem Both.put {b g : Nat} {X : Array Value} {w W : World} (h : Both b g X w) (hx : X.size = 36) (hne : b ≠ g) (hg : Chg (fun k => k = g) w W) (hb : W.heap[g]? = some (.cells X 25 (0, 0))) : Both b g X W :=
  ⟨(hg.block b (Array.getElem?_eq_some_iff.1 h.1).1 hne).trans h.1, X, hb, hx⟩

set_option maxRecDepth 100000 in

set_option maxHeartbeats 4000000 in
theorem recRead_core (A1 : Option Addr) (m : List UInt8) (c1 : Nat) (hm : m.length ≤ 65536) (er0 : Int) (A : Option Addr) (l : List UInt8) (cap : Nat) (w : World)
    (hO : ∀ W, Chg Non w W → Calls Tryz.prog 49 #[.int .u8 1, .slice A l.length cap] W fun e w' => ∃ A1 c1, e = .returned (.tuple #[.slice A1 m.length c1, .int .i64 er0]) ∧ Rd w' A1 m ∧ Chg Non W w') :
    Calls Tryz.prog 29 #[.slice A l.length cap] w fun e w' => e = .returned (.tuple #[.agg (recA (recFields m).1), .bool (decide (er0 = 0) && (decide ((recFields m).2.2 = 0) && decide ((recFields m).2.1 = [])) && (recFields m).1.may)]) ∧ Chg Non w w' := by
  have HO := Lib.hid hO
  have HN := Lib.hid (fun A W c h => NewReader_ok A m c W h hm)
  clear hO
  obtain ⟨x1, l1, e1, x2, l2, e2, x3, l3, e3, x4, l4, e4, x5, l5, e5, hq1, hq2, hq3, hq4, hq5, hq⟩ := recFields_split m
  rw [hq]
  simp only
  have hR1 := fun p W h => RInt_any p m 0 W h
  have hR2 := fun p W h => RByte_any p l1 e1 W h
  have hR3 := fun p W h => RInt_any p l2 e2 W h
  have hR4 := fun p W h => RFlag_any p l3 e3 W h
  have hR5 := fun p W h => RTag_any p l4 e4 W h
  have hx5 := rdTag_len l4 e4
  rw [hq1] at hR1
  rw [hq2] at hR2
  rw [hq3] at hR3
  rw [hq4] at hR4
  rw [hq5] at hR5 hx5
  simp only at hR1 hR2 hR3 hR4 hR5 hx5
  have H1 := Lib.hid hR1
  have H2 := Lib.hid hR2
  have H3 := Lib.hid hR3
  have H4 := Lib.hid hR4
  have H5 := Lib.hid hR5
  have HX5 := Lib.hid hx5
  clear hR1 hR2 hR3 hR4 hR5 hq1 hq2 hq3 hq4 hq5 hq hx5
  have hb2 : (0 : Int) ≤ (x2.toNat : Int) ∧ (x2.toNat : Int) < 256 := by have := x2.toNat_lt; omega
  have hxs := recA_size ⟨x1, (x2.toNat : Int), x3, x4, x5⟩ HX5.out
  have hx1 := recA_one ⟨x1, (x2.toNat : Int), x3, x4, x5⟩
  have hm := May_any ⟨x1, (x2.toNat : Int), x3, x4, x5⟩
  obtain ⟨X, hX⟩ : ∃ X, recA ⟨x1, (x2.toNat : Int), x3, x4, x5⟩ = X := ⟨_, rfl⟩
  rw [hX] at hm hxs hx1 ⊢
  obtain ⟨y, hy⟩ : ∃ y, (⟨x1, (x2.toNat : Int), x3, x4, x5⟩ : Rec).may = y := ⟨_, rfl⟩
  rw [hy] at hm ⊢
  have hE := fun W h => End_any w.heap.size l5 e5 W h
  have hE := fun p W h => End_any p l5 e5 W h
  obtain ⟨er, her⟩ : ∃ er, (if e5 = 0 ∧ l5 ≠ [] then (50 : Int) else e5) = er := ⟨_, rfl⟩
  rw [her] at hE
  have hok : (decide (e5 = 0) && decide (l5 = [])) = decide (er = 0) := by
    rw [← her]
    by_cases a : e5 = 0
    · by_cases b : l5 = []
      · simp [a, b]
      · simp [a, b]
    · simp [a]
  rw [hok]
  have HM := Lib.hid hm
  have HE := Lib.hid hE
  have HXS := Lib.hid hxs
  have HX1 := Lib.hid hx1
  have HX := Lib.hid hX
  clear hm hE hxs hx1 hX hy her hok
  go_enter Tryz.func29, Tryz.ntmps29
  go_wp2_with fail
  refine (HO.out _ ((Chg.refl _ _).alloc _)).mono ?_
  rintro e w1 ⟨A1, c1, rfl, ho1, hg1⟩
  go_wp2_with fail
  refine (HN.out A1 w1 c1 ho1).mono ?_
  rintro e w2 ⟨rfl, hR2, hg2⟩
  go_wp2_with fail
  refine (H1.out _ _ hR2).mono ?_
  rintro e w3 ⟨rfl, hR3, hg3⟩
  go_wp2_with fail
  refine (H2.out _ _ hR3).mono ?_
  rintro e w4 ⟨rfl, hR4, hg4⟩
  go_wp2_with fail
  refine (H3.out _ _ hR4).mono ?_
  rintro e w5 ⟨rfl, hR5, hg5⟩
  go_wp2_with fail
  refine (H4.out _ _ hR5).mono ?_
  rintro e w6 ⟨rfl, hR6, hg6⟩
  go_wp2_with fail
  refine (H5.out _ _ hR6).mono ?_
  rintro e w7 ⟨rfl, hR7, hg7⟩
  clear hR2 hR3 hR4 hR5 hR6
  have hts := tagA_size x5 HX5.out
  go_wp2_with (first
    | (refine sel (some 26) (.build 25 #[(0, .tmp 16), (1, .tmp 19), (2, .tmp 21), (3, .tmp 23), (4, .tmp 25)]) ?_
       refine wpList_plain rfl (fun K hK => ?_)
       go_simp
       rw [rec_build _ x1 x2.toNat x3 x4 x5 HX5.out rfl rfl rfl rfl rfl, HX.out]
       refine hK _ _ ?_
       clear hK hts)
    | (refine sel none (.store 25 (.tmp 7) (.tmp 26)) ?_
       refine wpList_store_rowA rfl 25 (.tmp 7) (.tmp 26) rfl w7.heap.size X rfl rfl 25 _ (heap_alloc_new _ _) (by rw [HXS.out]; exact info_rec) (by rw [HXS.out]; rfl) HX1.out ?_
       intro W hgW hbW
       have HB := Lib.hid hbW
       have HGW := Lib.hid hgW
       clear hbW hgW))
  have hch : Chg (At w1.heap.size) w2 w7 := (((hg3.trans_same hg4).trans_same hg5).trans_same hg6).trans_same hg7
  have hg17 : Chg Non (w.alloc (.cells recZ 25)) w7 := ((hg1.then_non hg2)).then_new hch (fun x e => by unfold At at e; have := hg1.size; omega)
  have hz7 : w7.heap[w.heap.size]? = some (.cells recZ 25 (0, 0)) := new_block hg17
  have hlt7 : w.heap.size < w7.heap.size := (Array.getElem?_eq_some_iff.1 hz7).1
  have hbth : Both w7.heap.size w.heap.size X W := by
    refine ⟨HB.out, recZ, ?_, recA_size _ zTag_len⟩
    rw [HGW.out.block _ (by simp; omega) (by omega), Below.heap_alloc _ _ _ hlt7]
    exact hz7
  have hRW : IsR W w1.heap.size l5 e5 := by
    have h1 := fun o => hR7.below.keep ((Chg.refl Non w7).alloc o) (fun e => e) (fun _ _ e => e)
    exact ((h1 _).keep HGW.out (by have := hR7.below.lt; omega) (fun b hb e => by omega)).isR
  have hgW : Chg Non w W := (((Chg.refl Non w).alloc _).then_non hg17).trans (((Chg.refl Non w7).alloc _).then_new HGW.out (fun x e => by omega)) (fun _ e => e) (fun _ _ e => e)
  have HGo := Lib.hid hgW
  have HSz := Lib.hid hlt7
  clear hch hg17 hz7 hg1 hg2 hg3 hg4 hg5 hg6 hg7 hR7 hgW HB HGW ho1
  have hE := HE.out w1.heap.size W.drew (by obtain ⟨A', c', a1, a2, a3⟩ := hRW; exact ⟨A', c', a1, a2, a3⟩)
  have hne : w7.heap.size ≠ w.heap.size := by omega
  have HE := Lib.hid hE
  have HBd := Lib.hid (show Both w7.heap.size w.heap.size X W.drew from hbth)
  clear hE hbth hRW H1 H2 H3 H4 H5 HX5 HO HN hb2
  obtain ⟨b, hb⟩ : ∃ b, w7.heap.size = b := ⟨_, rfl⟩
  rw [hb] at HBd hne ⊢
  clear hb
  by_cases he0 : er0 = 0
  case neg =>
    have hd : (er0 == 0) = false := by simpa using he0
    have HZ := Lib.hid he0
    clear he0
    go_wp2_with fail
    refine wp_region_held_drew (S := Both b w.heap.size X) (by kernel_rfl) HBd.out (fun hHeld => ?_)
    refine h_load 0 (some 27) 25 (.tmp 7) b 0 X _ rfl (by kernel_rfl) (by kernel_rfl) (by kernel_rfl) (by kernel_rfl) (by kernel_rfl) (fun _ _ _ h => h) (by kernel_rfl) (by kernel_rfl) (fun w h => h.range) Tryz.underlying25 rfl (by rw [HXS.out]; exact info_rec) HBd.out ?_
    simp only [Act.put, List.setIfInBounds_toArray, List.set_cons_zero, List.set_cons_succ]
    refine h_pure 1 (some 28) (.int .i64 er0) rfl (by kernel_rfl) (by kernel_rfl) (by kernel_rfl) (by kernel_rfl) (fun _ _ _ h => h) (by kernel_rfl) (fun w _ => by go_simp) HBd.out ?_
    simp only [Act.put, List.setIfInBounds_toArray, List.set_cons_zero, List.set_cons_succ]
    refine h_pure 2 (some 29) (.bool false) rfl (by kernel_rfl) (by kernel_rfl) (by kernel_rfl) (by kernel_rfl) (fun _ _ _ h => h) (by kernel_rfl) (fun w _ => by go_simp) HBd.out ?_
    simp only [Act.put, List.setIfInBounds_toArray, List.set_cons_zero, List.set_cons_succ]
    refine h_pure 3 (some 30) (.bool false) rfl (by kernel_rfl) (by kernel_rfl) (by kernel_rfl) (by kernel_rfl) (fun _ _ _ h => h) (by kernel_rfl) (fun w _ => by go_simp) HBd.out ?_
    simp only [Act.put, List.setIfInBounds_toArray, List.set_cons_zero, List.set_cons_succ]
    refine h_skip 4 (some 31) rfl (by kernel_rfl) (by kernel_rfl) (by kernel_rfl) (by kernel_rfl) (fun _ _ _ h => h) (by kernel_rfl) HBd.out ?_
    simp only [Act.put, List.setIfInBounds_toArray, List.set_cons_zero, List.set_cons_succ]
    refine h_skip 5 (some 32) rfl (by kernel_rfl) (by kernel_rfl) (by kernel_rfl) (by kernel_rfl) (fun _ _ _ h => h) (by kernel_rfl) HBd.out ?_
    simp only [Act.put, List.setIfInBounds_toArray, List.set_cons_zero, List.set_cons_succ]
    refine h_skip 6 (some 33) rfl (by kernel_rfl) (by kernel_rfl) (by kernel_rfl) (by kernel_rfl) (fun _ _ _ h => h) (by kernel_rfl) HBd.out ?_
    simp only [Act.put, List.setIfInBounds_toArray, List.set_cons_zero, List.set_cons_succ]
    refine h_pure 7 (some 34) (.bool false) rfl (by kernel_rfl) (by kernel_rfl) (by kernel_rfl) (by kernel_rfl) (fun _ _ _ h => h) (by kernel_rfl) (fun w _ => by go_simp) HBd.out ?_
    simp only [Act.put, List.setIfInBounds_toArray, List.set_cons_zero, List.set_cons_succ]
    refine h_pure 8 (some 35) (.bool false) rfl (by kernel_rfl) (by kernel_rfl) (by kernel_rfl) (by kernel_rfl) (fun _ _ _ h => h) (by kernel_rfl) (fun w _ => by go_simp) HBd.out ?_
    simp only [Act.put, List.setIfInBounds_toArray, List.set_cons_zero, List.set_cons_succ]
    refine h_skip 9 (some 36) rfl (by kernel_rfl) (by kernel_rfl) (by kernel_rfl) (by kernel_rfl) (fun _ _ _ h => h) (by kernel_rfl) HBd.out ?_
    simp only [Act.put, List.setIfInBounds_toArray, List.set_cons_zero, List.set_cons_succ]
    refine h_skip 10 (some 37) rfl (by kernel_rfl) (by kernel_rfl) (by kernel_rfl) (by kernel_rfl) (fun _ _ _ h => h) (by kernel_rfl) HBd.out ?_
    simp only [Act.put, List.setIfInBounds_toArray, List.set_cons_zero, List.set_cons_succ]
    refine h_pure 11 (some 38) (.bool false) rfl (by kernel_rfl) (by kernel_rfl) (by kernel_rfl) (by kernel_rfl) (fun _ _ _ h => h) (by kernel_rfl) (fun w _ => by go_simp) HBd.out ?_
    simp only [Act.put, List.setIfInBounds_toArray, List.set_cons_zero, List.set_cons_succ]
    refine h_store 12 25 (.tmp 2) (.tmp 27) w.heap.size X (by kernel_rfl) rfl (by kernel_rfl) (by kernel_rfl) (by kernel_rfl) (by kernel_rfl) (by kernel_rfl) 25 (HBd.out.old HXS.out) (by rw [HXS.out]; exact info_rec) HX1.out ?_ ?_
    · intro W3 h1 h2
      exact HBd.out.put HXS.out hne h1 h2
    intro W3 hg3 hb3
    have HB3 := Lib.hid (HBd.out.put HXS.out hne hg3 hb3)
    refine h_pure 13 (some 3) (.bool false) rfl (by kernel_rfl) (by kernel_rfl) (by kernel_rfl) (by kernel_rfl) (fun _ _ _ h => h) (by kernel_rfl) (fun w _ => by go_simp) HB3.out ?_
    simp only [Act.put, List.setIfInBounds_toArray, List.set_cons_zero, List.set_cons_succ]
    refine wpAnyH_done (by kernel_rfl) ?_ _
    go_wp2
    exact bodyPost_ret (run_results_cell_tmp Tryz.results29 _ _ w.heap.size 25 X (0, 0) _ (.bool false) (by kernel_rfl) (by kernel_rfl) hb3 Tryz.underlying25 rfl (by rw [HXS.out]; exact info_rec)) (by kernel_rfl) ⟨by simp [HZ.out], (HGo.out.drew).then_new hg3 (fun x e => by omega)⟩
  case pos =>
    subst he0
    by_cases her : er = 0
    case' neg =>
      have hd : (er == 0) = false := by simpa using her
      have HZ := Lib.hid her
      clear her
    case' pos =>
      subst her
    rotate_left 1
    go_wp2_with fail
    refine wp_region_held_drew (S := Both b w.heap.size X) (by kernel_rfl) HBd.out (fun hHeld => ?_)
    refine h_load 0 (some 27) 25 (.tmp 7) b 0 X _ rfl (by kernel_rfl) (by kernel_rfl) (by kernel_rfl) (by kernel_rfl) (by kernel_rfl) (fun _ _ _ h => h) (by kernel_rfl) (by kernel_rfl) (fun w h => h.range) Tryz.underlying25 rfl (by rw [HXS.out]; exact info_rec) HBd.out ?_
    simp only [Act.put, List.setIfInBounds_toArray, List.set_cons_zero, List.set_cons_succ]
    refine h_pure 1 (some 28) (.int .i64 0) rfl (by kernel_rfl) (by kernel_rfl) (by kernel_rfl) (by kernel_rfl) (fun _ _ _ h => h) (by kernel_rfl) (fun w _ => by go_simp) HBd.out ?_
    simp only [Act.put, List.setIfInBounds_toArray, List.set_cons_zero, List.set_cons_succ]
    refine h_pure 2 (some 29) (.bool true) rfl (by kernel_rfl) (by kernel_rfl) (by kernel_rfl) (by kernel_rfl) (fun _ _ _ h => h) (by kernel_rfl) (fun w _ => by go_simp) HBd.out ?_
    simp only [Act.put, List.setIfInBounds_toArray, List.set_cons_zero, List.set_cons_succ]
    refine h_pure 3 (some 30) (.bool true) rfl (by kernel_rfl) (by kernel_rfl) (by kernel_rfl) (by kernel_rfl) (fun _ _ _ h => h) (by kernel_rfl) (fun w _ => by go_simp) HBd.out ?_
    simp only [Act.put, List.setIfInBounds_toArray, List.set_cons_zero, List.set_cons_succ]
    refine h_pure 4 (some 31) (.pointer (some ⟨w1.heap.size, 0, none⟩)) rfl (by kernel_rfl) (by kernel_rfl) (by kernel_rfl) (by kernel_rfl) (fun _ _ _ h => h) (by kernel_rfl) (fun w _ => by go_simp) HBd.out ?_
    simp only [Act.put, List.setIfInBounds_toArray, List.set_cons_zero, List.set_cons_succ]
    refine h_one 5 (by kernel_rfl) rfl (by kernel_rfl) ?_
    intro K hK
    go_simp
    go_at_call 55
    refine HE.out.mono ?_
    rintro e w8 ⟨rfl, rfl⟩
    refine hK.out _ _ HBd.out (fun _ => ?_)
    clear hK K
    refine h_pure 6 (some 33) (.bool false) rfl (by kernel_rfl) (by kernel_rfl) (by kernel_rfl) (by kernel_rfl) (fun _ _ _ h => h) (by kernel_rfl) (fun w _ => by go_simp) HBd.out ?_
    simp only [Act.put, List.setIfInBounds_toArray, List.set_cons_zero, List.set_cons_succ]
    refine h_pure 7 (some 34) (.bool false) rfl (by kernel_rfl) (by kernel_rfl) (by kernel_rfl) (by kernel_rfl) (fun _ _ _ h => h) (by kernel_rfl) (fun w _ => by go_simp) HBd.out ?_
    simp only [Act.put, List.setIfInBounds_toArray, List.set_cons_zero, List.set_cons_succ]
    refine h_pure 8 (some 35) (.bool false) rfl (by kernel_rfl) (by kernel_rfl) (by kernel_rfl) (by kernel_rfl) (fun _ _ _ h => h) (by kernel_rfl) (fun w _ => by go_simp) HBd.out ?_
    simp only [Act.put, List.setIfInBounds_toArray, List.set_cons_zero, List.set_cons_succ]
    refine h_skip 9 (some 36) rfl (by kernel_rfl) (by kernel_rfl) (by kernel_rfl) (by kernel_rfl) (fun _ _ _ h => h) (by kernel_rfl) HBd.out ?_
    simp only [Act.put, List.setIfInBounds_toArray, List.set_cons_zero, List.set_cons_succ]
    refine h_skip 10 (some 37) rfl (by kernel_rfl) (by kernel_rfl) (by kernel_rfl) (by kernel_rfl) (fun _ _ _ h => h) (by kernel_rfl) HBd.out ?_
    simp only [Act.put, List.setIfInBounds_toArray, List.set_cons_zero, List.set_cons_succ]
    refine h_pure 11 (some 38) (.bool false) rfl (by kernel_rfl) (by kernel_rfl) (by kernel_rfl) (by kernel_rfl) (fun _ _ _ h => h) (by kernel_rfl) (fun w _ => by go_simp) HBd.out ?_
    simp only [Act.put, List.setIfInBounds_toArray, List.set_cons_zero, List.set_cons_succ]
    refine h_store 12 25 (.tmp 2) (.tmp 27) w.heap.size X (by kernel_rfl) rfl (by kernel_rfl) (by kernel_rfl) (by kernel_rfl) (by kernel_rfl) (by kernel_rfl) 25 (HBd.out.old HXS.out) (by rw [HXS.out]; exact info_rec) HX1.out ?_ ?_
    · intro W3 h1 h2
      exact HBd.out.put HXS.out hne h1 h2
    intro W3 hg3 hb3
    have HB3 := Lib.hid (HBd.out.put HXS.out hne hg3 hb3)
    refine h_pure 13 (some 3) (.bool false) rfl (by kernel_rfl) (by kernel_rfl) (by kernel_rfl) (by kernel_rfl) (fun _ _ _ h => h) (by kernel_rfl) (fun w _ => by go_simp) HB3.out ?_
    simp only [Act.put, List.setIfInBounds_toArray, List.set_cons_zero, List.set_cons_succ]
    refine wpAnyH_done (by kernel_rfl) ?_ _
    go_wp2
    exact bodyPost_ret (run_results_cell_tmp Tryz.results29 _ _ w.heap.size 25 X (0, 0) _ (.bool false) (by kernel_rfl) (by kernel_rfl) hb3 Tryz.underlying25 rfl (by rw [HXS.out]; exact info_rec)) (by kernel_rfl) ⟨by simp [HZ.out], (HGo.out.drew).then_new hg3 (fun x e => by omega)⟩
    go_wp2_with fail
    refine wp_region_held_drew (S := Both b w.heap.size X) (by kernel_rfl) HBd.out (fun hHeld => ?_)
    refine h_load 0 (some 27) 25 (.tmp 7) b 0 X _ rfl (by kernel_rfl) (by kernel_rfl) (by kernel_rfl) (by kernel_rfl) (by kernel_rfl) (fun _ _ _ h => h) (by kernel_rfl) (by kernel_rfl) (fun w h => h.range) Tryz.underlying25 rfl (by rw [HXS.out]; exact info_rec) HBd.out ?_
    simp only [Act.put, List.setIfInBounds_toArray, List.set_cons_zero, List.set_cons_succ]
    refine h_pure 1 (some 28) (.int .i64 0) rfl (by kernel_rfl) (by kernel_rfl) (by kernel_rfl) (by kernel_rfl) (fun _ _ _ h => h) (by kernel_rfl) (fun w _ => by go_simp) HBd.out ?_
    simp only [Act.put, List.setIfInBounds_toArray, List.set_cons_zero, List.set_cons_succ]
    refine h_pure 2 (some 29) (.bool true) rfl (by kernel_rfl) (by kernel_rfl) (by kernel_rfl) (by kernel_rfl) (fun _ _ _ h => h) (by kernel_rfl) (fun w _ => by go_simp) HBd.out ?_
    simp only [Act.put, List.setIfInBounds_toArray, List.set_cons_zero, List.set_cons_succ]
    refine h_pure 3 (some 30) (.bool true) rfl (by kernel_rfl) (by kernel_rfl) (by kernel_rfl) (by kernel_rfl) (fun _ _ _ h => h) (by kernel_rfl) (fun w _ => by go_simp) HBd.out ?_
    simp only [Act.put, List.setIfInBounds_toArray, List.set_cons_zero, List.set_cons_succ]
    refine h_pure 4 (some 31) (.pointer (some ⟨w1.heap.size, 0, none⟩)) rfl (by kernel_rfl) (by kernel_rfl) (by kernel_rfl) (by kernel_rfl) (fun _ _ _ h => h) (by kernel_rfl) (fun w _ => by go_simp) HBd.out ?_
    simp only [Act.put, List.setIfInBounds_toArray, List.set_cons_zero, List.set_cons_succ]
    refine h_one 5 (by kernel_rfl) rfl (by kernel_rfl) ?_
    intro K hK
    go_simp
    go_at_call 55
    refine HE.out.mono ?_
    rintro e w8 ⟨rfl, rfl⟩
    refine hK.out _ _ HBd.out (fun _ => ?_)
    clear hK K
    refine h_pure 6 (some 33) (.bool true) rfl (by kernel_rfl) (by kernel_rfl) (by kernel_rfl) (by kernel_rfl) (fun _ _ _ h => h) (by kernel_rfl) (fun w _ => by go_simp) HBd.out ?_
    simp only [Act.put, List.setIfInBounds_toArray, List.set_cons_zero, List.set_cons_succ]
    refine h_pure 7 (some 34) (.bool true) rfl (by kernel_rfl) (by kernel_rfl) (by kernel_rfl) (by kernel_rfl) (fun _ _ _ h => h) (by kernel_rfl) (fun w _ => by go_simp) HBd.out ?_
    simp only [Act.put, List.setIfInBounds_toArray, List.set_cons_zero, List.set_cons_succ]
    refine h_pure 8 (some 35) (.bool true) rfl (by kernel_rfl) (by kernel_rfl) (by kernel_rfl) (by kernel_rfl) (fun _ _ _ h => h) (by kernel_rfl) (fun w _ => by go_simp) HBd.out ?_
    simp only [Act.put, List.setIfInBounds_toArray, List.set_cons_zero, List.set_cons_succ]
    refine h_load 9 (some 36) 25 (.tmp 7) b 0 X _ rfl (by kernel_rfl) (by kernel_rfl) (by kernel_rfl) (by kernel_rfl) (by kernel_rfl) (fun _ _ _ h => h) (by kernel_rfl) (by kernel_rfl) (fun w h => h.range) Tryz.underlying25 rfl (by rw [HXS.out]; exact info_rec) HBd.out ?_
    simp only [Act.put, List.setIfInBounds_toArray, List.set_cons_zero, List.set_cons_succ]
    refine h_one 10 (by kernel_rfl) rfl (by kernel_rfl) ?_
    intro K hK
    go_simp
    go_at_call 13
    refine (HM.out _).mono ?_
    rintro e w9 ⟨rfl, hg9⟩
    have HBm := Lib.hid (HBd.out.non hg9)
    have HG9 := Lib.hid hg9
    refine hK.out _ _ HBm.out (fun _ => ?_)
    clear hK K hg9
    refine h_pure 11 (some 38) (.bool y) rfl (by kernel_rfl) (by kernel_rfl) (by kernel_rfl) (by kernel_rfl) (fun _ _ _ h => h) (by kernel_rfl) (fun w _ => by go_simp) HBm.out ?_
    simp only [Act.put, List.setIfInBounds_toArray, List.set_cons_zero, List.set_cons_succ]
    refine h_store 12 25 (.tmp 2) (.tmp 27) w.heap.size X (by kernel_rfl) rfl (by kernel_rfl) (by kernel_rfl) (by kernel_rfl) (by kernel_rfl) (by kernel_rfl) 25 (HBm.out.old HXS.out) (by rw [HXS.out]; exact info_rec) HX1.out ?_ ?_
    · intro W3 h1 h2
      exact HBm.out.put HXS.out hne h1 h2
    intro W3 hg3 hb3
    have HB3 := Lib.hid (HBm.out.put HXS.out hne hg3 hb3)
    refine h_pure 13 (some 3) (.bool y) rfl (by kernel_rfl) (by kernel_rfl) (by kernel_rfl) (by kernel_rfl) (fun _ _ _ h => h) (by kernel_rfl) (fun w _ => by go_simp) HB3.out ?_
    simp only [Act.put, List.setIfInBounds_toArray, List.set_cons_zero, List.set_cons_succ]
    refine wpAnyH_done (by kernel_rfl) ?_ _
    go_wp2
    exact bodyPost_ret (run_results_cell_tmp Tryz.results29 _ _ w.heap.size 25 X (0, 0) _ (.bool y) (by kernel_rfl) (by kernel_rfl) hb3 Tryz.underlying25 rfl (by rw [HXS.out]; exact info_rec)) (by kernel_rfl) ⟨by simp, ((HGo.out.drew).then_non HG9.out).then_new hg3 (fun x e => by omega)⟩

end Go.Proofs.YthhbdejagglgbaaGreat
