/- CheckPlays, part 20 of 27: contracts of the functions that it reaches, and the laws that they need, merged and shortened (from my texts XCkU). -/
import Derived.Test.YtkgnlobabknkcaaGreatMgCheckPlaysA
import Derived.Test.YtkgnlobabknkcaaGreatMgCheckPlaysN
import Derived.Test.YtkgnlobabknkcaaGreatMgCheckPlaysS
namespace Go.Proofs.YtkgnlobabknkcaaGreat
set_option linter.unusedVariables false
set_option linter.unusedSimpArgs false
set_option maxHeartbeats 8000000
set_option maxRecDepth 100000
section
open Go.RowKit Go.Shelf
attribute [local go_sem] Oper.semAt_some
def ckS (s : Nat) (blk : Nat → List UInt8) (a : Dk × Int) (x : Fin 95) : Dk × Int := if a.2 = 0 then a.1.write ((s + x.val : Nat) : Int) (blk x.val) else a
def ckL (s : Nat) (blk : Nat → List UInt8) (D : Dk) (pre : List (Fin 95)) : Dk × Int := pre.foldl (ckS s blk) (D, 0)
theorem ckL_snoc (s : Nat) (blk : Nat → List UInt8) (D : Dk) (pre : List (Fin 95)) (x : Fin 95) : ckL s blk D (pre ++ [x]) = ckS s blk (ckL s blk D pre) x := by
 unfold ckL; rw [List.foldl_append]; rfl
theorem ckL_to (s : Nat) (blk : Nat → List UInt8) (D : Dk) : ∀ k, k ≤ 95 → ckL s blk D (finTo k) = ckW s blk D k
 | 0, _ => rfl
 | k + 1, h => by
  rw [finTo_succ k (by omega), ckL_snoc, ckL_to s blk D k (by omega)]
  unfold ckS
  rw [ckW]
theorem ckW_stop {s : Nat} {blk : Nat → List UInt8} {D : Dk} {k : Nat} (h : (ckW s blk D k).2 ≠ 0) : ∀ j, ckW s blk D (k + j) = ckW s blk D k
 | 0 => rfl
 | j + 1 => by
  have ih := ckW_stop h j
  show ckW s blk D (k + j + 1) = _
  rw [ckW, ih, if_neg h]
theorem Dk.write_sz {D : Dk} (h : D.Sz) (h0 : 0 ≤ D.left) (i : Int) (l : List UInt8) : (D.write i l).1.Sz := by
 unfold Dk.write
 split
 ·exact h
 ·split
  ·exact h
  ·split
   ·exact h
   ·unfold Dk.operate
    split
    ·exact ⟨by simp [Dk.fall], by simp [Dk.fall]⟩
    ·exact ⟨h.stay, by have := h.left; show max (D.left - 1) 0 ≤ _; omega⟩
theorem Dk.flush_sz {D : Dk} (h : D.Sz) : D.flush.1.Sz := by
 unfold Dk.flush
 split
 ·exact h
 ·unfold Dk.operate
  split
  ·exact ⟨by simp [Dk.fall], by simp [Dk.fall]⟩
  ·exact ⟨h.stay, by have := h.left; show max (D.left - 1) 0 ≤ _; omega⟩
theorem gb_chg {W W' : World} {row : Option Nat} (hg : W.grownBy W' row) : Chg (fun k => row = some k) W W' :=
 (Chg.refl (fun k => row = some k) W).grown hg (fun g e => .inl e)
theorem not_row {W : World} {row : Option Nat} {B b : Nat} {cs : Array Value} {t : TypeId} {fr : Nat × Nat} (h : W.heap[b]? = some (.cells cs t fr)) (hr : ∀ r, row = some r → B ≤ r ∧ ∃ o : Obj, W.heap[r]? = some o ∧ o.isCells = false) : ¬ row = some b := fun e => by
 obtain ⟨_, o, ho, hc⟩ := hr b e
 rw [h] at ho
 injection ho with ho
 subst ho
 cases hc
theorem rd_row {W : World} {row : Option Nat} {B b o : Nat} {v : Value} (h : W.cell? ⟨b, o, none⟩ = some v) (hr : ∀ r, row = some r → B ≤ r ∧ ∃ o : Obj, W.heap[r]? = some o ∧ o.isCells = false) : ¬ row = some b := fun e => by
 obtain ⟨_, o', ho, hc⟩ := hr b e
 unfold World.cell? at h
 simp only [ho] at h
 cases o' with
 | cells => cases hc
 | _ => simp at h
theorem rd_from {W W' : World} {row : Option Nat} {B : Nat} {A : Option Addr} {l : List UInt8} (h : Rd W A l) (hg : W.grownBy W' row) (hr : ∀ r, row = some r → B ≤ r ∧ ∃ o : Obj, W.heap[r]? = some o ∧ o.isCells = false) : Rd W' A l :=
 h.keep (gb_chg hg) (fun b o e hl => by
   subst e
   obtain ⟨x, r, rfl⟩ := List.exists_cons_of_ne_nil hl
   obtain ⟨b', o', e, hc⟩ := h 0 x rfl
   injection e with e
   injection e with e1 e2
   subst e1
   exact rd_row hc hr)
theorem isD_from {W W' : World} {row : Option Nat} {B pd ps pm : Nat} {D : Dk} (h : IsD W pd ps pm D) (hB : pd < B ∧ ps < B ∧ pm < B) (hg : W.grownBy W' row) (hr : ∀ r, row = some r → B ≤ r ∧ ∃ o : Obj, W.heap[r]? = some o ∧ o.isCells = false) : IsD W' pd ps pm D := by
 refine h.keep (gb_chg hg) (fun k _ e => ?_) (fun A c hA b o e hne => ?_)
 ·have := (hr k e).1
  omega
 ·obtain ⟨_, A0, c0, h1, _, _, h4, _⟩ := h
  rw [h1] at hA
  injection hA with hA
  injection hA with hA
  simp only [dCells, Array.mk.injEq, List.cons.injEq, Value.slice.injEq, true_and, and_true] at hA
  obtain ⟨rfl, _⟩ := hA
  subst e
  obtain ⟨x, r, hl⟩ := List.exists_cons_of_ne_nil hne
  obtain ⟨b', o', e, hc⟩ := h4 0 x (by rw [hl]; rfl)
  injection e with e
  injection e with e1 e2
  subst e1
  exact rd_row hc hr
theorem chg_from {S : Nat → Prop} {w W W' : World} {row : Option Nat} {B : Nat} (h : Chg S w W) (hB : w.heap.size ≤ B) (hg : W.grownBy W' row) (hr : ∀ r, row = some r → B ≤ r ∧ ∃ o : Obj, W.heap[r]? = some o ∧ o.isCells = false) : Chg S w W' :=
 h.grown hg (fun g e => .inr (Nat.le_trans hB (hr g e).1))
structure PtI (w : World) (pd ps pm b4 b6 b8 b11 gA oA cA gB : Nat) (hash f : List UInt8) (AF : Option Addr) (er : Int) (D : Dk) (W : World) : Prop where
 d : W.heap[b4]? = some (.cells #[.pointer (some ⟨pd, 0, none⟩)] 33 (0, 0))
 t : W.heap[b6]? = some (.cells (tagA hash) 28 (0, 0))
 e : W.heap[b8]? = some (.cells #[.int .i64 er] 34 (0, 0))
 a : W.heap[b11]? = some (.cells #[.slice (some ⟨gA, oA, none⟩) 6080 cA] 29 (0, 0))
 r : Rd W (some ⟨gA, oA, none⟩) (kWhole f)
 f : Rd W AF f
 is : IsD W pd ps pm D
 g : Chg (DS pd ps pm) w W
theorem ptI_from {w : World} {pd ps pm b4 b6 b8 b11 gA oA cA gB : Nat} {hash f : List UInt8} {AF : Option Addr} {er : Int} {D : Dk} {W W' : World} {row : Option Nat} {B : Nat} (h : PtI w pd ps pm b4 b6 b8 b11 gA oA cA gB hash f AF er D W)
  (hB : pd < B ∧ ps < B ∧ pm < B) (hw : w.heap.size ≤ B) (hg : W.grownBy W' row) (hr : ∀ r, row = some r → B ≤ r ∧ ∃ o : Obj, W.heap[r]? = some o ∧ o.isCells = false) : PtI w pd ps pm b4 b6 b8 b11 gA oA cA gB hash f AF er D W' :=
 ⟨blk_keep h.d (gb_chg hg) (not_row h.d hr), blk_keep h.t (gb_chg hg) (not_row h.t hr), blk_keep h.e (gb_chg hg) (not_row h.e hr), blk_keep h.a (gb_chg hg) (not_row h.a hr), rd_from h.r hg hr, rd_from h.f hg hr, isD_from h.is hB hg hr, chg_from h.g hw hg hr⟩
structure PtB (w : World) (pd ps pm b4 b6 b8 b11 gA : Nat) (f : List UInt8) (AF : Option Addr) : Prop where
 lt : pd < w.heap.size ∧ ps < w.heap.size ∧ pm < w.heap.size
 ge : w.heap.size ≤ b4 ∧ b4 < b6 ∧ b6 < b8 ∧ b8 < b11 ∧ b8 < gA
 af : ∀ b o, AF = some ⟨b, o, none⟩ → f ≠ [] → b8 < b
theorem PtI.non {w : World} {pd ps pm b4 b6 b8 b11 gA oA cA gB : Nat} {hash f : List UInt8} {AF : Option Addr} {er : Int} {D : Dk} {W W' : World} (h : PtI w pd ps pm b4 b6 b8 b11 gA oA cA gB hash f AF er D W) (hg : Chg Non W W') : PtI w pd ps pm b4 b6 b8 b11 gA oA cA gB hash f AF er D W' :=
 ⟨blk_keep h.d hg (fun e => e), blk_keep h.t hg (fun e => e), blk_keep h.e hg (fun e => e), blk_keep h.a hg (fun e => e), h.r.non hg, h.f.non hg, h.is.non hg, h.g.then_non hg⟩
theorem PtI.upd {w : World} {pd ps pm b4 b6 b8 b11 gA oA cA gB : Nat} {hash f : List UInt8} {AF : Option Addr} {er : Int} {D D' : Dk} {W W' : World} (h : PtI w pd ps pm b4 b6 b8 b11 gA oA cA gB hash f AF er D W) (hB : PtB w pd ps pm b4 b6 b8 b11 gA f AF)
  (hg : Chg (DS pd ps pm) W W') (hD : IsD W' pd ps pm D') : PtI w pd ps pm b4 b6 b8 b11 gA oA cA gB hash f AF er D' W' := by
 have h1 := hB.lt
 have h2 := hB.ge
 have key : ∀ b, w.heap.size ≤ b → ¬ DS pd ps pm b := fun b hb e => by rcases e with e | e | e <;> omega
 exact ⟨blk_keep h.d hg (key _ (by omega)), blk_keep h.t hg (key _ (by omega)), blk_keep h.e hg (key _ (by omega)), blk_keep h.a hg (key _ (by omega)), h.r.keep hg (fun b o e _ => by injection e with e; injection e with e; subst e; exact key _ (by omega)),
   h.f.keep hg (fun b o e hl => key _ (by have := hB.af b o e hl; omega)), hD, h.g.trans_same hg⟩
theorem isD_setI {u : World} {pd ps pm b : Nat} {v : Int} {t : TypeId} {D : Dk} (h : IsD u pd ps pm D) (hb : u.heap[b]? = some (.cells #[.int .i64 v] t (0, 0))) (hne : b ≠ pd ∧ b ≠ ps ∧ b ≠ pm) (x : Value) : IsD (u.setCell ⟨b, 0, none⟩ x) pd ps pm D := by
 refine h.keep (chg_set u b 0 x) (fun k _ e => ?_) (fun A c hA b' o e hn e2 => ?_)
 ·have e : k = b := e
  subst e
  exact hne
 ·have e2 : b' = b := e2
  subst e2
  obtain ⟨_, A0, c0, h1, _, _, h4, _⟩ := h
  rw [h1] at hA
  injection hA with hA
  injection hA with hA
  simp only [dCells, Array.mk.injEq, List.cons.injEq, Value.slice.injEq, true_and, and_true] at hA
  obtain ⟨rfl, _⟩ := hA
  subst e
  obtain ⟨y, r, hl⟩ := List.exists_cons_of_ne_nil hn
  obtain ⟨b2, o2, e, hc⟩ := h4 0 y (by rw [hl]; rfl)
  injection e with e
  injection e with e1 e2
  subst e1 e2
  rw [cell_of_row _ _ _ _ _ _ hb] at hc
  cases o with
  | zero => simp at hc
  | succ n => simp at hc
theorem PtI.err {w : World} {pd ps pm b4 b6 b8 b11 gA oA cA gB : Nat} {hash f : List UInt8} {AF : Option Addr} {er : Int} {D : Dk} {W : World} (h : PtI w pd ps pm b4 b6 b8 b11 gA oA cA gB hash f AF er D W) (hB : PtB w pd ps pm b4 b6 b8 b11 gA f AF) (x : Int) :
  PtI w pd ps pm b4 b6 b8 b11 gA oA cA gB hash f AF x D (W.setCell ⟨b8, 0, none⟩ (.int .i64 x)) := by
 have h1 := hB.lt
 have h2 := hB.ge
 have hg := chg_set W b8 0 (.int .i64 x)
 have key : ∀ b, b ≠ b8 → ¬ (fun k => k = b8) b := fun b hb e => hb e
 exact ⟨blk_keep h.d hg (key _ (by omega)), blk_keep h.t hg (key _ (by omega)), blk_set 0 _ h.e, blk_keep h.a hg (key _ (by omega)), h.r.keep hg (fun b o e _ => by injection e with e; injection e with e; subst e; exact key _ (by omega)),
   h.f.keep hg (fun b o e hl => key _ (by have := hB.af b o e hl; omega)), isD_setI h.is h.e (by omega) _, h.g.then_new hg (fun x e => by have e : x = b8 := e; omega)⟩
def kPutR (D : Dk) (n : Int) (hash : List UInt8) (s : Sta) : Dk × Int := if n < 1 ∨ mayS s = false then (D, 2) else kPut D (plc n) n hash s
theorem kPut_in (I : Nat → Prop) (pd ps pm : Nat) (D : Dk) (n : Int) (hash : List UInt8) (s : Sta) (vb vd : Value) (w : World) (hD : IsD w pd ps pm D) (hsz : D.Sz) (hlen : 323 ≤ D.sec.length) (h : StaV I w s vb vd) (hI : ∀ b, I b → b < w.heap.size) (hh : hash.length = 32) (hn : I64 n) :
  Calls Tryz.prog 11 #[.pointer (some ⟨pd, 0, none⟩), .int .i64 n, .agg (tagA hash), .agg #[.int .i64 s.frames, vb, vd]] w fun e w' =>
   e = .returned (.int .i64 (kPutR D n hash s).2) ∧ IsD w' pd ps pm (kPutR D n hash s).1 ∧ Chg (DS pd ps pm) w w' := by
 have hlt := hD.lt
 have HLt := Lh hlt
 have HL := Lh (fun W (hg : Chg Non w W) => Len_ok pd ps pm D W (hD.non hg))
 have HP := Lh (fun W (hg : Chg Non w W) => print_any I s vb vd W (h.non hg) (fun b hb => Nat.lt_of_lt_of_le (hI b hb) hg.size))
 have HSb : Hid (∀ p ∈ s.parts, p.Bd) := Lh (fun p hp => by
   obtain ⟨A, c, _, _, _, hr⟩ := h.ps
   obtain ⟨i, hi⟩ := List.getElem?_of_mem hp
   obtain ⟨_, _, _, _, _, _, _, _, _, _, hb, _⟩ := hr i p hi
   exact hb)
 have HD := Lh hD
 have HSz := Lh hsz
 have HLn := Lh hlen
 have HH := Lh hh
 have HN := Lh hn
 obtain ⟨⟨A, c, rfl, hc, hcm, hrp⟩, ⟨A2, c2, rfl, hc2, hcm2, hrq⟩⟩ := h
 clear hrp hrq hD hlt hsz
 have hz : ((D.sec.length : Int) == 0) = false := by rw [beq_eq_false_iff_ne]; omega
 clear hlen hh hn hI
 refine (callsIn_wide (n := 3)).1 ?_
 have hro : Fence.wide.round = none := rfl
 refine callsIn_of_wp_marks Tryz.func11 rfl trivial ?_ hro
 simp only [Tryz.ntmps11, List.size_toArray, List.length_cons, List.length_nil, Nat.reduceAdd, Nat.reduceSub, Array.replicate_succ, Array.replicate_zero, List.push_toArray, List.append_toArray, List.nil_append, List.cons_append]
 refine wpIn_wide.2 ?_
 go_wp2_with fail
 obtain ⟨V, hV⟩ : ∃ V, (((w.alloc (.cells #[.pointer (some ⟨pd, 0, none⟩)] 33)).alloc (.cells (tagA hash) 28)).alloc (.cells #[.int .i64 s.frames, .slice A s.parts.length c, .slice A2 s.queues.length c2] 25)).alloc (.cells #[.int .i64 0] 34) = V := ⟨_, rfl⟩
 have HG : Hid (Chg Non w V) := Lh (by rw [← hV]; exact ((((Chg.refl Non w).alloc _).alloc _).alloc _).alloc _)
 have k3 := blk_new (((w.alloc (.cells #[.pointer (some ⟨pd, 0, none⟩)] 33)).alloc (.cells (tagA hash) 28)).alloc (.cells #[.int .i64 s.frames, .slice A s.parts.length c, .slice A2 s.queues.length c2] 25)) (.cells #[.int .i64 0] 34)
 have k1 := blk_keep (blk_new (w.alloc (.cells #[.pointer (some ⟨pd, 0, none⟩)] 33)) (.cells (tagA hash) 28)) (((Chg.refl Non _).alloc (.cells #[.int .i64 s.frames, .slice A s.parts.length c, .slice A2 s.queues.length c2] 25)).alloc (.cells #[.int .i64 0] 34)) (fun e => e)
 have k0 := blk_keep (blk_new w (.cells #[.pointer (some ⟨pd, 0, none⟩)] 33)) ((((Chg.refl Non _).alloc (.cells (tagA hash) 28)).alloc (.cells #[.int .i64 s.frames, .slice A s.parts.length c, .slice A2 s.queues.length c2] 25)).alloc (.cells #[.int .i64 0] 34)) (fun e => e)
 rw [hV] at k3 k1 k0 ⊢
 clear hV
 have hs1 : (w.alloc (.cells #[.pointer (some ⟨pd, 0, none⟩)] 33)).heap.size = w.heap.size + 1 := by simp
 have hs3 : (((w.alloc (.cells #[.pointer (some ⟨pd, 0, none⟩)] 33)).alloc (.cells (tagA hash) 28)).alloc (.cells #[.int .i64 s.frames, .slice A s.parts.length c, .slice A2 s.queues.length c2] 25)).heap.size = w.heap.size + 1 + 1 + 1 := by simp
 rw [hs1] at k1
 rw [hs3] at k3
 clear hs1 hs3
 obtain ⟨b4, hb4⟩ : ∃ b, w.heap.size = b := ⟨_, rfl⟩
 obtain ⟨b6, hb6⟩ : ∃ b, b4 + 1 = b := ⟨_, rfl⟩
 obtain ⟨b8, hb8⟩ : ∃ b, b6 + 1 + 1 = b := ⟨_, rfl⟩
 rw [hb4] at k0 k1 k3 ⊢
 rw [hb6] at k1 k3 ⊢
 rw [hb8] at k3 ⊢
 have HB := Lh (And.intro hb4 (And.intro hb6 hb8))
 clear hb4 hb6 hb8
 have K0 := Lh k0
 have K1 := Lh k1
 have K3 := Lh k3
 clear k0 k1 k3
 refine (HP.out V HG.out).mono ?_
 rintro e w1 (⟨hm, A3, c3, rfl, hfc, hfm, hfo, hg⟩ | ⟨hm, rfl, hg⟩)
 case inr =>
  have HR : Hid (kPutR D n hash s = (D, 2)) := Lh (by unfold kPutR; rw [if_pos (.inr hm)])
  have HG1 := Lh (HG.out.then_non hg)
  have d0 := blk_cell (blk_keep K0.out hg (fun e => e)) 0 (v := .pointer (some ⟨pd, 0, none⟩)) rfl
  have E3 := Lh (blk_keep K3.out hg (fun e => e))
  have e3 := blk_cell E3.out 0 (v := .int .i64 0) rfl
  have f3 := blk_free E3.out 0
  have l3 := blk_lt E3.out
  clear hg hm
  go_wp2_with fail
  refine (HL.out _ HG1.out).mono ?_
  rintro e w' ⟨rfl, rfl⟩
  by_cases hn1 : n < 1
  ·have hnd : decide (n < 1) = true := by rw [decide_eq_true_eq]; omega
   go_wp2_with fail
   rw [HR.out]
   exact ⟨_, res_put (by kernel_rfl) (blk_cell (blk_set 0 (.int .i64 2) E3.out) 0 rfl), rfl, HD.out.keep (HG1.out.then_new (chg_set w1 _ 0 _) (fun x e => by have e : x = b8 := e; have := HB.out; omega)) (fun _ _ e => e.elim) (fun _ _ _ _ _ _ _ e => e), (HG1.out.then_new (chg_set w1 _ 0 _) (fun x e => by have e : x = b8 := e; have := HB.out; omega)).of_non⟩
  ·have hnd : decide (n < 1) = false := by rw [decide_eq_false_iff_not]; omega
   go_wp2_with fail
   rw [HR.out]
   exact ⟨_, res_put (by kernel_rfl) (blk_cell (blk_set 0 (.int .i64 2) E3.out) 0 rfl), rfl, HD.out.keep (HG1.out.then_new (chg_set w1 _ 0 _) (fun x e => by have e : x = b8 := e; have := HB.out; omega)) (fun _ _ e => e.elim) (fun _ _ _ _ _ _ _ e => e), (HG1.out.then_new (chg_set w1 _ 0 _) (fun x e => by have e : x = b8 := e; have := HB.out; omega)).of_non⟩
 by_cases hn1 : n < 1
 ·have HR : Hid (kPutR D n hash s = (D, 2)) := Lh (by unfold kPutR; rw [if_pos (.inl hn1)])
  have HG1 := Lh (HG.out.then_non hg)
  have d0 := blk_cell (blk_keep K0.out hg (fun e => e)) 0 (v := .pointer (some ⟨pd, 0, none⟩)) rfl
  have E3 := Lh (blk_keep K3.out hg (fun e => e))
  have e3 := blk_cell E3.out 0 (v := .int .i64 0) rfl
  have f3 := blk_free E3.out 0
  have l3 := blk_lt E3.out
  clear hg hm hfo
  go_wp2_with fail
  refine (HL.out _ HG1.out).mono ?_
  rintro e w' ⟨rfl, rfl⟩
  have hnd : decide (n < 1) = true := by rw [decide_eq_true_eq]; omega
  go_wp2_with fail
  rw [HR.out]
  exact ⟨_, res_put (by kernel_rfl) (blk_cell (blk_set 0 (.int .i64 2) E3.out) 0 rfl), rfl, HD.out.keep (HG1.out.then_new (chg_set w1 _ 0 _) (fun x e => by have e : x = b8 := e; have := HB.out; omega)) (fun _ _ e => e.elim) (fun _ _ _ _ _ _ _ e => e), (HG1.out.then_new (chg_set w1 _ 0 _) (fun x e => by have e : x = b8 := e; have := HB.out; omega)).of_non⟩
 have HR : Hid (kPutR D n hash s = kPut D (plc n) n hash s) := Lh (by unfold kPutR; rw [if_neg (by rw [hm]; simp; omega)])
 have hnd : decide (n < 1) = false := by rw [decide_eq_false_iff_not]; omega
 have HFl := Lh (formS_len (stBd_may hm HSb.out))
 have HM := Lh hm
 have HG1 := Lh (HG.out.then_non hg)
 have HF := Lh hfo.rd
 have hl83 := blk_lt K3.out
 have HAf : Hid (∀ b o, A3 = some ⟨b, o, none⟩ → formS s ≠ [] → b8 < b) := Lh (fun b o e hl => by subst e; exact Nat.lt_of_lt_of_le hl83 (hfo.ge hl))
 clear hl83
 have d0 := blk_cell (blk_keep K0.out hg (fun e => e)) 0 (v := .pointer (some ⟨pd, 0, none⟩)) rfl
 have E0 := Lh (blk_keep K0.out hg (fun e => e))
 have E1 := Lh (blk_keep K1.out hg (fun e => e))
 have E3 := Lh (blk_keep K3.out hg (fun e => e))
 clear hg hm hfo K0 K1 K3
 obtain ⟨f, hf⟩ : ∃ f, formS s = f := ⟨_, rfl⟩
 rw [hf] at HFl hfc HF HAf
 simp only [hf]
 have hfl : f.length ≤ 4684 := HFl.out.1
 have hgt : decide ((f.length : Int) > 6080) = false := by rw [decide_eq_false_iff_not]; omega
 have hmk := fun W => mk_bytes (6080 - (f.length : Int)) (by omega) (by omega) W
 have e1 : (6080 - (f.length : Int)).toNat = 6080 - f.length := by omega
 rw [e1] at hmk
 have HFe := Lh hf
 clear e1 hf
 go_wp2_with fail
 refine (HL.out _ HG1.out).mono ?_
 rintro e w' ⟨rfl, rfl⟩
 go_wp2_with fail
 have hz : (List.replicate (6080 - f.length) (0 : UInt8)).length = 6080 - f.length := by simp
 have hcat := fun t W g hg h1 h2 => Cat2 A3 (some ⟨w1.heap.size, 0, none⟩) f (List.replicate (6080 - f.length) 0) c3 (6080 - f.length) t W g hg h1 h2 (by simp; omega) (kWhole f) rfl
 rw [hz] at hcat
 have o3 := zeros_own w1 (6080 - f.length) 5
 refine (hcat _ _ _ (by simp) (HF.out.non ((Chg.refl _ _).alloc _)) o3.rd).mono ?_
 clear hcat o3 hz hmk hgt d0
 have HKl := Lh (kWhole_len (f := f) (by omega))
 rintro e w2 h2
 obtain ⟨AW, cA, rfl, hA1, hA2, hA3, hA4⟩ := h2.from ((Chg.refl Non w1).alloc _)
 rw [HKl.out] at hA1 ⊢
 obtain ⟨gA, oA, rfl, hgA, _⟩ := hA3.rd.at_ (by rw [HKl.out]; omega)
 have hl38 := blk_lt E3.out
 have HgA : Hid (b8 < gA) := Lh (Nat.lt_of_lt_of_le hl38 (hA3.ge (fun e => by have := HKl.out; rw [e] at this; simp at this)))
 clear hl38
 have HW := Lh (And.intro hA1 (And.intro hA2 hA3.rd))
 have HG2 := Lh (HG1.out.then_non hA4)
 have E02 := Lh (blk_keep E0.out hA4 (fun e => e))
 have E12 := Lh (blk_keep E1.out hA4 (fun e => e))
 have E32 := Lh (blk_keep E3.out hA4 (fun e => e))
 have HF2 := Lh (HF.out.non hA4)
 clear h2 hA1 hA2 hA3 hA4 E0 E1 E3 HF HG1
 have HOf := Lh (fun W => of_ok n W)
 have htm : n.tmod 2 = (plc n : Int) := by rw [Int.tmod_eq_emod_of_nonneg (by omega)]; exact plc_mod n
 rw [htm] at HOf
 have HPl := Lh (plc_lt n)
 have hSec := Lh (fun W => sectors_ok (plc n) W)
 obtain ⟨p, hpe⟩ : ∃ p, plc n = p := ⟨_, rfl⟩
 rw [hpe] at HOf HPl hSec HR
 have HPe := Lh hpe
 clear hpe htm
 go_wp2_with fail
 refine (HOf.out _).mono ?_
 rintro e u ⟨rfl, rfl⟩
 go_wp2_with fail
 refine (hSec.out _).mono ?_
 rintro e u ⟨rfl, rfl⟩
 go_wp2_with fail
 obtain ⟨W2, hW2⟩ : ∃ W2, (w2.alloc (.cells #[.slice (some ⟨gA, oA, none⟩) 6080 cA] 29)).alloc (.cells #[.int .i64 (p : Int)] 82) = W2 := ⟨_, rfl⟩
 have k0 := al_2_0 w2 (.cells #[.slice (some ⟨gA, oA, none⟩) 6080 cA] 29) (.cells #[.int .i64 (p : Int)] 82)
 have k1 := al_2_1 w2 (.cells #[.slice (some ⟨gA, oA, none⟩) 6080 cA] 29) (.cells #[.int .i64 (p : Int)] 82)
 have hgv2 : Chg Non w2 ((w2.alloc (.cells #[.slice (some ⟨gA, oA, none⟩) 6080 cA] 29)).alloc (.cells #[.int .i64 (p : Int)] 82)) := ((Chg.refl Non w2).alloc _).alloc _
 have hsz2 : ((w2.alloc (.cells #[.slice (some ⟨gA, oA, none⟩) 6080 cA] 29)).alloc (.cells #[.int .i64 (p : Int)] 82)).heap.size = w2.heap.size + 1 + 1 := by simp
 rw [hW2] at k0 k1 hgv2 hsz2 ⊢
 clear hW2
 have hl32 := blk_lt E32.out
 obtain ⟨b11, hb11⟩ : ∃ b, w2.heap.size = b := ⟨_, rfl⟩
 obtain ⟨bx, hbx⟩ : ∃ b, b11 + 1 = b := ⟨_, rfl⟩
 rw [hb11] at k0 k1 hsz2 hl32 ⊢
 rw [hbx] at k1 hsz2 ⊢
 have HG3 := Lh (HG2.out.then_non hgv2)
 have hwb := HB.out
 have hlt := HLt.out
 have hgs := HG3.out.size
 have HD2 := Lh (HD.out.non HG3.out)
 have hpt : PtI w pd ps pm b4 b6 b8 b11 gA oA cA 0 hash f A3 0 (ckL (132 + 96 * p) (kBlkN f) D []).1 W2 :=
  ⟨blk_keep E02.out hgv2 (fun e => e), blk_keep E12.out hgv2 (fun e => e), blk_keep E32.out hgv2 (fun e => e), k0, HW.out.2.2.non hgv2, HF2.out.non hgv2, HD2.out, HG3.out.of_non⟩
 have hss := sec_stops 2 (by omega) bx p HPl.out W2 (blk_cell k1 0 rfl)
 have hL : W2.heap.size = bx + 1 := hsz2
 obtain ⟨hd, hhd⟩ : ∃ x : Nat, 131 + 96 * p = x := ⟨_, rfl⟩
 rw [hhd] at hss
 have HHd := Lh hhd
 have hsd : 132 + 96 * p = hd + 1 := by omega
 rw [hsd] at hpt
 clear k0 k1 hgv2 E02 E12 E32 hhd
 have hBB : pd < W2.heap.size ∧ ps < W2.heap.size ∧ pm < W2.heap.size := by omega
 have hwB : w.heap.size ≤ W2.heap.size := hgs
 have HPB : Hid (PtB w pd ps pm b4 b6 b8 b11 gA f A3) := Lh ⟨hlt, ⟨by omega, by omega, by omega, by omega, HgA.out⟩, HAf.out⟩
 have hDSx : ∀ k, DS pd ps pm k → k < w.heap.size := fun k e => by rcases e with e | e | e <;> omega
 have HDSx := Lh hDSx
 clear hDSx
 refine (wpIn_wide (n := 3)).1 (wpIn_rangeFunc_ownH hro (by omega) (gf := 79) (lb := #[.pointer (some ⟨bx, 0, none⟩)]) rfl trivial (enters_of Tryz.func79 (by kernel_rfl) rfl)
   hss KX.trans (fun W l o o' _ h1 h2 _ => KX.put W l o o' h1 h2) (Below.refl _ _) (fun _ => rfl)
   (fun pre W => PtI w pd ps pm b4 b6 b8 b11 gA oA cA 0 hash f A3 0 (ckL (hd + 1) (kBlkN f) D pre).1 W ∧ ((ckL (hd + 1) (kBlkN f) D pre).2 = 0 ∧ (ckL (hd + 1) (kBlkN f) D pre).1.Sz))
   (fun cd pre W => (cd = .ret ∧ (ckL (hd + 1) (kBlkN f) D pre).2 ≠ 0) ∧ PtI w pd ps pm b4 b6 b8 b11 gA oA cA 0 hash f A3 (ckL (hd + 1) (kBlkN f) D pre).2 (ckL (hd + 1) (kBlkN f) D pre).1 W)
   (fun s X Y row hs hg hr => ⟨ptI_from hs.1 hBB hwB hg hr, hs.2⟩)
   (fun cd s X Y row hs hg hr => ⟨hs.1, ptI_from hs.2 hBB hwB hg hr⟩)
   ⟨hpt, rfl, HSz.out⟩
   (fun x a' W => a' = { tmps := #[.pointer (some ⟨pd, 0, none⟩), .int .i64 n, .agg (tagA hash), .agg #[.int .i64 s.frames, .slice A s.parts.length c, .slice A2 s.queues.length c2], .pointer (some ⟨b4, 0, none⟩), undef, .pointer (some ⟨b6, 0, none⟩), .pointer (some ⟨b6 + 1, 0, none⟩), .pointer (some ⟨b8, 0, none⟩), .slice A3 f.length c3, .int .i64 0, .pointer (some ⟨b11, 0, none⟩), .int .i64 ((hd : Int) + 1 + (x.val : Int)), .int .i64 ((x.val : Int) * 64), undef, undef, undef, undef, undef, .tuple #[.slice A3 f.length c3, .int .i64 0], .agg #[.int .i64 s.frames, .slice A s.parts.length c, .slice A2 s.queues.length c2], .tuple #[.slice A3 f.length c3, .int .i64 0], .slice A3 f.length c3, .int .i64 0, .bool false, .pointer (some ⟨pd, 0, none⟩), .int .i64 (D.sec.length : Int), .bool false, .bool false, .int .i64 n, .bool false, .bool false, .int .i64 0, .bool false, .bool false, .bool false, .slice A3 f.length c3, .int .i64 (f.length : Int), .bool false, .slice A3 f.length c3, .slice A3 f.length c3, .int .i64 (f.length : Int), .int .i64 (6080 - (f.length : Int)), .slice (some ⟨w1.heap.size, 0, none⟩) (6080 - f.length) (6080 - f.length), .slice (some ⟨w1.heap.size + 1, 0, none⟩) 2 2, .slice (some ⟨gA, oA, none⟩) 6080 cA, .int .i64 n, .int .i64 (p : Int), .func (.func 79) #[] #[.pointer (some ⟨bx, 0, none⟩)], .int .i64 ((hd : Int) + 1 + (x.val : Int)), .int .i64 ((x.val : Int) * 64), undef, undef, undef, undef, undef, undef, undef, undef, undef, undef, undef, undef, undef, undef, undef, undef, undef, undef, undef, undef, undef, undef, undef, undef, undef, undef, undef, undef, undef, undef, undef, undef, undef, undef, undef, undef, undef, undef, undef], defers := [] })
   (fun x a' _ X Y row hs hg hrw => hs)
   ?assign ?body ?done ?stop)
 case assign =>
  rintro l pre x W K hI hK
  have H := Lh (hK _ _ (keepsFrom_non _ (Chg.refl Non W)) (KX.refl _) hI rfl)
  clear hI hK
  dsimp only [secE] at H ⊢
  gi_wp2
  exact H.out
 case body =>
  rintro l pre x a' W hl ⟨r, hr⟩ ⟨hp, he0, hsz⟩ rfl hlt2
  have hWW : W2.heap.size ≤ W.heap.size := Nat.le_of_lt (Nat.lt_of_le_of_lt hl (Array.getElem?_eq_some_iff.1 hr).1)
  obtain ⟨i, hi⟩ := x
  dsimp only
  obtain ⟨y, hy⟩ : ∃ y, ckL (hd + 1) (kBlkN f) D pre = y := ⟨_, rfl⟩
  have hsn : ckL (hd + 1) (kBlkN f) D (pre ++ [⟨i, hi⟩]) = ckS (hd + 1) (kBlkN f) y ⟨i, hi⟩ := by rw [ckL_snoc, hy]
  rw [hy] at hp he0 hsz
  obtain ⟨D1, e1⟩ := y
  simp only at hp he0 hsz
  subst he0
  have hsn : ckL (hd + 1) (kBlkN f) D (pre ++ [⟨i, hi⟩]) = D1.write ((hd : Int) + 1 + (i : Int)) (kBlkN f i) := by
   rw [hsn]
   unfold ckS
   rw [if_pos rfl]
   simp only [Int.natCast_add, Int.natCast_one]
  have hok0 : 0 ≤ D1.left := hp.is.1.left0
  have hsz2 := Dk.write_sz hsz hok0 ((hd : Int) + 1 + (i : Int)) (kBlkN f i)
  have hbl := kBlkN_len (f := f) (by omega) i
  have hbk : kBlkN f i = ((kWhole f).drop (i * 64)).take 64 := by unfold kBlkN kBlk; rw [if_pos hi, Nat.mul_comm]
  obtain ⟨V, hV⟩ : ∃ V, V = W.drew := ⟨_, rfl⟩
  have hgV : Chg Non W V := by rw [hV]; exact (Chg.refl Non W).drew
  have HPV := Lh (hp.non hgV)
  have HP0 := Lh hp
  have HSn := Lh hsn
  have HZ2 := Lh hsz2
  have HGV := Lh hgV
  have HWr := Lh (fun (u : World) (hu : Chg Non V u) => Write_any pd ps pm D1 ((hd : Int) + 1 + (i : Int)) (some ⟨gA, oA + i * 64, none⟩) (kBlkN f i) (cA - i * 64) u (HPV.out.is.non hu) hsz
    (by rw [hbk]; exact ((HPV.out.r.non hu).drop (i * 64)).take 64) (fun b o e _ => by injection e with e; injection e with e; subst e; have := HPB.out.ge; omega))
  rw [hbl] at HWr
  obtain ⟨y2, hy2⟩ : ∃ y2, D1.write ((hd : Int) + 1 + (i : Int)) (kBlkN f i) = y2 := ⟨_, rfl⟩
  rw [hy2] at HWr HSn HZ2
  obtain ⟨D2, e2⟩ := y2
  simp only at HWr HZ2
  have HHi := Lh hi
  have d0 := blk_cell HPV.out.d 0 (v := .pointer (some ⟨pd, 0, none⟩)) rfl
  have a0 := blk_cell HPV.out.a 0 (v := .slice (some ⟨gA, oA, none⟩) 6080 cA) rfl
  have hn4 : ¬ DS pd ps pm b4 := fun e => by have := HDSx.out _ e; have := HPB.out.ge; omega
  have hn11 : ¬ DS pd ps pm b11 := fun e => by have := HDSx.out _ e; have := HPB.out.ge; omega
  have hcA : 6080 ≤ cA := HW.out.1
  clear hp hsn hsz hsz2 hbl hbk hy2 hgV hy hok0
  refine wpIn_block (wpIn_seq_k (fun Kr hKr => ?_))
  have hV0 := hV
  refine region_inR (S := Chg (DS pd ps pm) V) (by kernel_rfl) (by kernel_rfl) (fun ⟨a, w, h⟩ => h) (by rw [hV]; exact Chg.refl _ _) (fun hHeld => ?_)
  clear hHeld
  rw [← hV]
  clear hV hV0
  have HS : Hid (Chg (DS pd ps pm) V V) := Lh (Chg.refl _ _)
  refine hp 0 51 (.pointer (some ⟨pd, 0, none⟩)) rfl HS.out ?_ (he := fun W hW => by have hc := hW.cell_some d0 hn4; go_simp)
  refine hp 1 52 (.int .i64 ((hd : Int) + 1 + (i : Int))) rfl HS.out ?_
  refine hp 2 53 (.slice (some ⟨gA, oA, none⟩) 6080 cA) rfl HS.out ?_ (he := fun W hW => by have hc := hW.cell_some a0 hn11; go_simp)
  refine hp 3 54 (.int .i64 ((i : Int) * 64)) rfl HS.out ?_
  refine hp 4 55 (.int .i64 ((i : Int) * 64)) rfl HS.out ?_
  refine hp 5 56 (.int .i64 ((i : Int) * 64 + 64)) rfl HS.out ?_ (he := fun W hW => by go_simp; exact IntWalk.i64_in _ ⟨by have := HHi.out; omega, by have := HHi.out; omega⟩)
  refine hp 6 57 (.slice (some ⟨gA, oA + i * 64, none⟩) 64 (cA - i * 64)) rfl HS.out ?_ (he := fun W hW => by
    have hi := HHi.out
    have q1 : ((i : Int) * 64).toNat = i * 64 := by omega
    have q2 : ((i : Int) * 64 + 64).toNat - (i * 64) = 64 := by omega
    go_simp
    rw [if_pos (by omega), if_pos (by omega), if_neg (by omega)])
  clear d0 a0
  refine h1o 7 rfl ?_
  intro K hK
  go_simp
  refine (HWr.out V (Chg.refl _ _)).mono ?_
  rintro e u ⟨rfl, hD2, hg⟩
  have HS2 := Lh hg
  have HD2 := Lh hD2
  refine hK.out _ _ HS2.out (fun _ => ?_)
  clear hK K hg hD2
  try simp only [Act.put, sA, sB, sC]
  refine hp 8 14 (.int .i64 e2) rfl HS2.out ?_
  refine hdn ?_ _
  refine hKr _ _ ?_
  clear hKr Kr
  have HE2 := Lh (blk_keep HPV.out.e HS2.out (fun e => by have := HDSx.out _ e; have := HPB.out.ge; omega))
  have HPU : Hid (PtI w pd ps pm b4 b6 b8 b11 gA oA cA 0 hash f A3 0 D2 u) := Lh (HPV.out.upd HPB.out HS2.out HD2.out)
  have HWu : Hid (Chg (DS pd ps pm) W u) := Lh (HGV.out.non_then HS2.out)
  have e0 := blk_cell HE2.out 0 (v := .int .i64 0) rfl
  have f0 := blk_free HE2.out 0
  have l0 := blk_lt HE2.out
  by_cases he2 : e2 = 0
  ·subst he2
   gi_wp2_with fail
   refine ⟨keepsFrom_lt HWu.out (fun k e => by have := HDSx.out _ e; omega), KX.of_chg HWu.out (fun e => by have := HDSx.out _ e; have := HPB.out.ge; omega), ?_⟩
   show PtI w pd ps pm b4 b6 b8 b11 gA oA cA 0 hash f A3 0 (ckL (hd + 1) (kBlkN f) D (pre ++ [⟨i, hi⟩])).1 u ∧ _
   rw [HSn.out]
   exact ⟨HPU.out, rfl, HZ2.out⟩
  ·have hed : (e2 != 0) = true := by simpa using he2
   have HNe := Lh he2
   clear he2
   gi_wp2_with fail
   refine ⟨(keepsFrom_lt HWu.out (fun k e => by have := HDSx.out _ e; omega)).trans ((KeepsOthers.setCell _ _ _).from _), ?_⟩
   show (Code.ret = Code.ret ∧ (ckL (hd + 1) (kBlkN f) D (pre ++ [⟨i, hi⟩])).2 ≠ 0) ∧ PtI w pd ps pm b4 b6 b8 b11 gA oA cA 0 hash f A3 (ckL (hd + 1) (kBlkN f) D (pre ++ [⟨i, hi⟩])).2 (ckL (hd + 1) (kBlkN f) D (pre ++ [⟨i, hi⟩])).1 _
   rw [HSn.out]
   exact ⟨⟨rfl, HNe.out⟩, HPU.out.err HPB.out e2⟩
 case stop =>
  rintro Dd cd pre W hDd ⟨k, hk, rfl⟩ ⟨⟨rfl, hne⟩, hp⟩ hK
  rw [ckL_to _ _ _ _ (by omega)] at hne hp
  have hst := ckW_stop hne (94 - k)
  rw [show k + 1 + (94 - k) = 95 by omega] at hst
  have hR : kPutR D n hash s = ckW (hd + 1) (kBlkN f) D (k + 1) := by
   rw [HR.out]
   unfold kPut ckPut
   rw [HFe.out, show 132 + 96 * p = hd + 1 by have := HHd.out; omega, hst]
   simp only
   rw [if_pos hne]
  have HF9 := Lh (And.intro hp (And.intro hK hR))
  have HDd := Lh hDd
  clear hp hK hR hst hne hDd hss
  gi_wp2_with fail
  refine ⟨by simp, .inl ⟨_, _, rfl, run_takeDeferred HF9.out.2.1, ?_⟩⟩
  have hrow : ∀ r, some Dd = some r → W2.heap.size ≤ r ∧ ∃ o : Obj, W.heap[r]? = some o ∧ o.isCells = false := fun r e => by injection e with e; subst e; exact ⟨HDd.out, _, HF9.out.2.1, rfl⟩
  have hfin := ptI_from HF9.out.1 hBB hwB (grownBy_putObj' W Dd (.deferred none)) hrow
  rw [HF9.out.2.2]
  exact ⟨_, res_put (by kernel_rfl) (blk_cell hfin.e 0 rfl), rfl, hfin.is, hfin.g⟩
 case done =>
  rintro Dd zs W hDd rfl ⟨hp, he0, hsz⟩ hK
  rw [ckL_to _ _ _ _ (Nat.le_refl _)] at hp he0 hsz
  obtain ⟨y, hy⟩ : ∃ y, ckW (hd + 1) (kBlkN f) D 95 = y := ⟨_, rfl⟩
  rw [hy] at hp he0 hsz
  obtain ⟨D1, e1⟩ := y
  simp only at hp he0 hsz
  subst he0
  have hR : kPut D p n hash s = (let b := D1.flush; if b.2 ≠ 0 then b else let c := b.1.write ((hd : Nat) : Int) (sealL 3 (tiOf n hash f).form); if c.2 ≠ 0 then c else c.1.flush) := by
   unfold kPut ckPut
   rw [HFe.out, show 132 + 96 * p = hd + 1 by have := HHd.out; omega, hy]
   simp only [ne_eq, not_true, if_false]
   rw [HHd.out]
  rw [← HR.out] at hR
  have HKP := Lh hR
  have HFl2 := Lh (fun (u : World) (hu : Chg Non W u) => Flush_any pd ps pm D1 u (hp.is.non hu) hsz)
  have HZ := Lh (Dk.flush_sz hsz)
  obtain ⟨y2, hy2⟩ : ∃ y2, D1.flush = y2 := ⟨_, rfl⟩
  rw [hy2] at HFl2 HKP HZ
  obtain ⟨D2, e2⟩ := y2
  simp only at HFl2 HKP HZ
  have HPt := Lh hp
  have HK := Lh hK
  have HDd := Lh hDd
  have d0 := blk_cell hp.d 0 (v := .pointer (some ⟨pd, 0, none⟩)) rfl
  have hDl := (Array.getElem?_eq_some_iff.1 hK).1
  clear hy hR hsz hy2 hp hK hss hDd
  go_wp2_with fail
  refine (HFl2.out W (Chg.refl _ _)).mono ?_
  rintro e u ⟨rfl, hDu, hgu⟩
  have hnD : ¬ DS pd ps pm Dd := fun e => by have := HDSx.out _ e; have := HDd.out; omega
  have HPu := Lh (HPt.out.upd HPB.out hgu hDu)
  have HKu := Lh (blk_keep HK.out hgu hnD)
  have e0 := blk_cell HPu.out.e 0 (v := .int .i64 0) rfl
  have f0 := blk_free HPu.out.e 0
  have l0 := blk_lt HPu.out.e
  have hb8D : Dd ≠ b8 := by have := HDd.out; have := HPB.out.ge; omega
  clear hgu hDu HFl2 d0 hDl
  by_cases he2 : e2 = 0
  case neg =>
   have hed : (e2 != 0) = true := by simpa using he2
   have HRR : Hid (kPutR D n hash s = (D2, e2)) := Lh (by rw [HKP.out]; exact if_pos he2)
   clear he2
   go_wp2_with fail
   have hk9 := blk_keep HKu.out (chg_set u b8 0 (.int .i64 e2)) (fun e => hb8D e)
   refine ⟨by simp, .inl ⟨_, _, rfl, run_takeDeferred hk9, ?_⟩⟩
   have hrow : ∀ r, some Dd = some r → W2.heap.size ≤ r ∧ ∃ o : Obj, (u.setCell ⟨b8, 0, none⟩ (.int .i64 e2)).heap[r]? = some o ∧ o.isCells = false := fun r e => by injection e with e; subst e; exact ⟨HDd.out, _, hk9, rfl⟩
   have hfin := ptI_from (HPu.out.err HPB.out e2) hBB hwB (grownBy_putObj' (u.setCell ⟨b8, 0, none⟩ (.int .i64 e2)) Dd (.deferred none)) hrow
   rw [HRR.out]
   exact ⟨_, res_put (by kernel_rfl) (blk_cell hfin.e 0 rfl), rfl, hfin.is, hfin.g⟩
  subst he2
  have HKP2 : Hid (kPutR D n hash s = (let c := D2.write ((hd : Nat) : Int) (sealL 3 (tiOf n hash f).form); if c.2 ≠ 0 then c else c.1.flush)) := Lh (by rw [HKP.out]; simp)
  clear HKP e0 f0 l0
  go_wp2_with fail
  obtain ⟨V, hV⟩ : ∃ V, V = u.drew := ⟨_, rfl⟩
  have hgV : Chg Non u V := by rw [hV]; exact (Chg.refl Non u).drew
  have HPV := Lh (HPu.out.non hgV)
  have HKV := Lh (blk_keep HKu.out hgV (fun e => e))
  have ct : V.rangeAt b6 0 (tagA hash).toList := fun j v hv => by rw [Array.getElem?_toList] at hv; exact blk_cell HPV.out.t (0 + j) (by rw [Nat.zero_add]; exact hv)
  have HSu := Lh (Sum_any A3 f c3 V HPV.out.f (by omega))
  have HFo := Lh (fun W => tform_ok n (f.length : Int) hash (crcSum f) W HH.out (crcSum_lt f))
  have HFl4 := Lh (tiOf_len (n := n) (f := f) HH.out)
  have htf : Ti.form ⟨n, (f.length : Int), hash, crcSum f⟩ = (tiOf n hash f).form := rfl
  rw [htf] at HFo
  obtain ⟨F, hF⟩ : ∃ F, (tiOf n hash f).form = F := ⟨_, rfl⟩
  rw [hF] at HFo HKP2 HFl4
  have HSl := Lh (fun A c W h => Seal_any 3 A F c W h (by rw [HFl4.out]; omega))
  have HSn := Lh (sealL_len 3 F (by rw [HFl4.out]; omega))
  obtain ⟨G, hG⟩ : ∃ G, sealL 3 F = G := ⟨_, rfl⟩
  rw [hG] at HKP2 HSn HSl
  obtain ⟨sm, hsm⟩ : ∃ y, crcSum f = y := ⟨_, rfl⟩
  rw [hsm] at HSu HFo
  clear hgV hF hG hsm htf HPu HKu
  apply wp_cutB (α := Option Addr × Nat × Option Addr × Nat) (f := fun y x => ((((((((((((((x.put (some 68) (.int .i64 n)).put (some 69) (.slice A3 f.length c3)).put (some 70) (.int .i64 (f.length : Int))).put (some 71) (.agg (tagA hash))).put (some 72) (.slice A3 f.length c3)).put (some 73) (.int .u32 (sm : Int))).put (some 74) (.agg (tiA n (f.length : Int) hash sm))).put (some 75) (.slice y.1 F.length y.2.1)).put (some 76) (.tuple #[.slice y.2.2.1 G.length y.2.2.2, .int .i64 0])).put (some 67) (.tuple #[.slice y.2.2.1 G.length y.2.2.2, .int .i64 0])).put (some 77) (.slice y.2.2.1 G.length y.2.2.2)).put (some 78) (.int .i64 0)).put (some 16) (.slice y.2.2.1 G.length y.2.2.2)).put (some 17) (.int .i64 0)))
   (R := fun y v => Chg Non V v ∧ Rd v y.2.2.1 G ∧ ∀ b o, y.2.2.1 = some ⟨b, o, none⟩ → V.heap.size ≤ b)
  ·refine wp_region_held_drew (S := Chg Non V) (by kernel_rfl) (by rw [hV]; exact Chg.refl _ _) (fun hHeld => ?_)
   clear hHeld
   rw [← hV]
   clear hV
   have HS : Hid (Chg Non V V) := Lh (Chg.refl _ _)
   refine hp 0 68 (.int .i64 n) rfl HS.out ?_ (hQ := fun _ _ _ h => absurd h.1 (by simp))
   refine hp 1 69 (.slice A3 f.length c3) rfl HS.out ?_ (hQ := fun _ _ _ h => absurd h.1 (by simp))
   refine hp 2 70 (.int .i64 (f.length : Int)) rfl HS.out ?_ (hQ := fun _ _ _ h => absurd h.1 (by simp))
   refine h_load 3 (some 71) 28 (.tmp 6) b6 0 (tagA hash) _ rfl (by kernel_rfl) (by kernel_rfl) (by kernel_rfl) (by kernel_rfl) (by kernel_rfl) (fun _ _ _ h => absurd h.1 (by simp)) (by kernel_rfl) (by kernel_rfl) (fun W hW => range_keepS ct hW (fun e => e)) Tryz.underlying28 rfl (by rw [tagA_size _ HH.out]; exact info_tag) HS.out ?_
   simp only [Act.put, sA, sB, sC]
   refine hp 4 72 (.slice A3 f.length c3) rfl HS.out ?_ (hQ := fun _ _ _ h => absurd h.1 (by simp))
   clear ct
   refine h1o 5 rfl ?_
   intro K hK
   go_simp
   refine HSu.out.mono ?_
   rintro e v1 ⟨rfl, hg1⟩
   have HS1 := Lh hg1
   refine hK.out _ _ HS1.out (fun _ => ?_)
   clear hK K hg1
   try simp only [Act.put, sA, sB, sC]
   refine hp 6 74 (.agg (tiA n (f.length : Int) hash sm)) rfl HS1.out ?_ (hQ := fun _ _ _ h => absurd h.1 (by simp)) (he := fun W hW => by
     have hts := tagA_size hash HH.out
     go_simp
     rw [ti_build _ n (f.length : Int) hash 0 HH.out rfl rfl rfl rfl]
     have hz2 := tiA_size n (f.length : Int) 0 HH.out
     rw [hz2, if_neg (by omega), tiA_set _ _ 0 sm HH.out]
     rfl)
   refine h1o 7 rfl ?_
   intro K hK
   go_simp
   refine (HFo.out v1).mono ?_
   rintro e v2 ⟨AF, cF, rfl, h1, h2, ho, hg2⟩
   have HS2 := Lh (HS1.out.then_non hg2)
   have HO := Lh ho.rd
   refine hK.out _ _ HS2.out (fun _ => ?_)
   clear hK K hg2 h1 h2 ho
   try simp only [Act.put, sA, sB, sC]
   refine h1o 8 rfl ?_
   intro K hK
   go_simp
   refine (HSl.out AF cF v2 HO.out).mono ?_
   rintro e v3 ⟨AG, cG, rfl, h1, h2, ho, hg3⟩
   have HS3 := Lh (HS2.out.then_non hg3)
   have HO3 := Lh (And.intro ho.rd (fun b o (e : AG = some ⟨b, o, none⟩) => (show V.heap.size ≤ b by subst e; exact Nat.le_trans HS2.out.size (ho.ge (fun e => by have := HSn.out; rw [e] at this; simp at this)))))
   refine hK.out _ _ HS3.out (fun _ => ?_)
   clear hK K hg3 h1 h2 ho
   try simp only [Act.put, sA, sB, sC]
   refine hp 9 67 (.tuple #[.slice AG G.length cG, .int .i64 0]) rfl HS3.out ?_ (hQ := fun _ _ _ h => absurd h.1 (by simp))
   refine hp 10 77 (.slice AG G.length cG) rfl HS3.out ?_ (hQ := fun _ _ _ h => absurd h.1 (by simp))
   refine hp 11 78 (.int .i64 0) rfl HS3.out ?_ (hQ := fun _ _ _ h => absurd h.1 (by simp))
   refine hp 12 16 (.slice AG G.length cG) rfl HS3.out ?_ (hQ := fun _ _ _ h => absurd h.1 (by simp))
   refine hp 13 17 (.int .i64 0) rfl HS3.out ?_ (hQ := fun _ _ _ h => absurd h.1 (by simp))
   refine hdn ?_ _
   exact ⟨rfl, (AF, cF, AG, cG), by kernel_rfl, HS3.out, HO3.out.1, HO3.out.2⟩
  clear hV ct
  rintro ⟨AF, cF, AG, cG⟩ v ⟨hgv, hro2, hge⟩
  simp only [Act.put, sA, sB, sC]
  have HPv := Lh (HPV.out.non hgv)
  have HKv := Lh (blk_keep HKV.out hgv (fun e => e))
  have HRG := Lh (And.intro hro2 hge)
  have hVs : pd < V.heap.size := by have := HPV.out.is.lt; exact this.1
  clear hgv hro2 hge HPV HKV HSu HFo HSl
  go_wp2_with fail
  obtain ⟨V4, hV⟩ : ∃ V4, V4 = v.drew := ⟨_, rfl⟩
  have hgV : Chg Non v V4 := by rw [hV]; exact (Chg.refl Non v).drew
  have HP4 := Lh (HPv.out.non hgV)
  have HK4 := Lh (blk_keep HKv.out hgV (fun e => e))
  have HWr := Lh (fun (u : World) (hu : Chg Non V4 u) => Write_any pd ps pm D2 ((hd : Nat) : Int) AG G cG u (HP4.out.is.non hu) HZ.out ((HRG.out.1.non hgV).non hu) (fun b o e _ => by have := HRG.out.2 b o e; omega))
  have hok0 : 0 ≤ D2.left := HP4.out.is.1.left0
  have HZ3 := Lh (Dk.write_sz HZ.out hok0 ((hd : Nat) : Int) G)
  obtain ⟨y3, hy3⟩ : ∃ y3, D2.write ((hd : Nat) : Int) G = y3 := ⟨_, rfl⟩
  rw [hy3] at HWr HKP2 HZ3
  obtain ⟨D3, e3⟩ := y3
  simp only at HWr HZ3
  have HHo := Lh (fun W => head_ok p HPl.out W)
  rw [HHd.out] at HHo
  have d0 := blk_cell HP4.out.d 0 (v := .pointer (some ⟨pd, 0, none⟩)) rfl
  have hn4 : ¬ DS pd ps pm b4 := fun e => by have := HDSx.out _ e; have := HPB.out.ge; omega
  clear hgV hy3 hok0 hVs
  apply wp_cutB (α := Unit) (f := fun _ x => (((((((x.put (some 79) (.pointer (some ⟨pd, 0, none⟩))).put (some 80) (.int .i64 n)).put (some 81) (.int .i64 (p : Int))).put (some 82) (.int .i64 ((hd : Nat) : Int))).put (some 83) (.slice AG G.length cG)).put (some 84) (.int .i64 e3)).put (some 18) (.int .i64 e3)))
   (R := fun _ v' => Chg (DS pd ps pm) V4 v' ∧ IsD v' pd ps pm D3)
  ·refine wp_region_held_drew (S := Chg (DS pd ps pm) V4) (by kernel_rfl) (by rw [hV]; exact Chg.refl _ _) (fun hHeld => ?_)
   clear hHeld
   rw [← hV]
   clear hV
   have HS : Hid (Chg (DS pd ps pm) V4 V4) := Lh (Chg.refl _ _)
   refine hp 0 79 (.pointer (some ⟨pd, 0, none⟩)) rfl HS.out ?_ (hQ := fun _ _ _ h => absurd h.1 (by simp)) (he := fun W hW => by have hc := hW.cell_some d0 hn4; go_simp)
   refine hp 1 80 (.int .i64 n) rfl HS.out ?_ (hQ := fun _ _ _ h => absurd h.1 (by simp))
   refine hp 4 83 (.slice AG G.length cG) rfl HS.out ?_ (hQ := fun _ _ _ h => absurd h.1 (by simp))
   refine h1o 2 rfl ?_
   intro K hK
   go_simp
   refine (HOf.out V4).mono ?_
   rintro e u1 ⟨rfl, rfl⟩
   refine hK.out _ _ HS.out (fun _ => ?_)
   clear hK K
   try simp only [Act.put, sA, sB, sC]
   refine h1o 3 rfl ?_
   intro K hK
   go_simp
   refine (HHo.out V4).mono ?_
   rintro e u1 ⟨rfl, rfl⟩
   refine hK.out _ _ HS.out (fun _ => ?_)
   clear hK K
   try simp only [Act.put, sA, sB, sC]
   refine h1o 5 rfl ?_
   intro K hK
   go_simp
   refine (HWr.out V4 (Chg.refl _ _)).mono ?_
   rintro e u1 ⟨rfl, hD3, hg3⟩
   have HS3 := Lh hg3
   have HD3 := Lh hD3
   refine hK.out _ _ HS3.out (fun _ => ?_)
   clear hK K hg3 hD3
   try simp only [Act.put, sA, sB, sC]
   refine hp 6 18 (.int .i64 e3) rfl HS3.out ?_ (hQ := fun _ _ _ h => absurd h.1 (by simp))
   refine hdn ?_ _
   exact ⟨rfl, (), by kernel_rfl, HS3.out, HD3.out⟩
  clear hV d0
  rintro _ u3 ⟨hg3, hD3⟩
  simp only [Act.put, sA, sB, sC]
  have HP5 := Lh (HP4.out.upd HPB.out hg3 hD3)
  have HK5 := Lh (blk_keep HK4.out hg3 hnD)
  have e0 := blk_cell HP5.out.e 0 (v := .int .i64 0) rfl
  have f0 := blk_free HP5.out.e 0
  have l0 := blk_lt HP5.out.e
  clear hg3 hD3
  by_cases he3 : e3 = 0
  case neg =>
   have hed : (e3 != 0) = true := by simpa using he3
   have HRR : Hid (kPutR D n hash s = (D3, e3)) := Lh (by rw [HKP2.out]; exact if_pos he3)
   clear he3
   go_wp2_with fail
   have hk9 := blk_keep HK5.out (chg_set u3 b8 0 (.int .i64 e3)) (fun e => hb8D e)
   refine ⟨by simp, .inl ⟨_, _, rfl, run_takeDeferred hk9, ?_⟩⟩
   have hrow : ∀ r, some Dd = some r → W2.heap.size ≤ r ∧ ∃ o : Obj, (u3.setCell ⟨b8, 0, none⟩ (.int .i64 e3)).heap[r]? = some o ∧ o.isCells = false := fun r e => by injection e with e; subst e; exact ⟨HDd.out, _, hk9, rfl⟩
   have hfin := ptI_from (HP5.out.err HPB.out e3) hBB hwB (grownBy_putObj' (u3.setCell ⟨b8, 0, none⟩ (.int .i64 e3)) Dd (.deferred none)) hrow
   rw [HRR.out]
   exact ⟨_, res_put (by kernel_rfl) (blk_cell hfin.e 0 rfl), rfl, hfin.is, hfin.g⟩
  subst he3
  have HKP3 : Hid (kPutR D n hash s = D3.flush) := Lh (by rw [HKP2.out]; simp)
  have HFl3 := Lh (fun (u : World) (hu : Chg Non u3 u) => Flush_any pd ps pm D3 u (HP5.out.is.non hu) HZ3.out)
  obtain ⟨y4, hy4⟩ : ∃ y4, D3.flush = y4 := ⟨_, rfl⟩
  rw [hy4] at HFl3 HKP3
  obtain ⟨D4, e4⟩ := y4
  simp only at HFl3
  have d0 := blk_cell HP5.out.d 0 (v := .pointer (some ⟨pd, 0, none⟩)) rfl
  clear HKP2 e0 f0 l0 hy4
  go_wp2_with fail
  refine (HFl3.out u3 (Chg.refl _ _)).mono ?_
  rintro e u4 ⟨rfl, hD4, hg4⟩
  have HP6 := Lh (HP5.out.upd HPB.out hg4 hD4)
  have HK6 := Lh (blk_keep HK5.out hg4 hnD)
  have e0 := blk_cell HP6.out.e 0 (v := .int .i64 0) rfl
  have f0 := blk_free HP6.out.e 0
  have l0 := blk_lt HP6.out.e
  clear hg4 hD4 d0
  go_wp2_with fail
  have hk9 := blk_keep HK6.out (chg_set u4 b8 0 (.int .i64 e4)) (fun e => hb8D e)
  refine ⟨by simp, .inl ⟨_, _, rfl, run_takeDeferred hk9, ?_⟩⟩
  have hrow : ∀ r, some Dd = some r → W2.heap.size ≤ r ∧ ∃ o : Obj, (u4.setCell ⟨b8, 0, none⟩ (.int .i64 e4)).heap[r]? = some o ∧ o.isCells = false := fun r e => by injection e with e; subst e; exact ⟨HDd.out, _, hk9, rfl⟩
  have hfin := ptI_from (HP6.out.err HPB.out e4) hBB hwB (grownBy_putObj' (u4.setCell ⟨b8, 0, none⟩ (.int .i64 e4)) Dd (.deferred none)) hrow
  rw [HKP3.out]
  exact ⟨_, res_put (by kernel_rfl) (blk_cell hfin.e 0 rfl), rfl, hfin.is, hfin.g⟩
end
end Go.Proofs.YtkgnlobabknkcaaGreat
