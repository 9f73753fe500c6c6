/- KernelTime, part 13 of 28: contracts of the functions that it reaches, and the laws that they need, merged and shortened (from my texts XOwnS, XCCopy, XSCopyA). -/
import Derived.Test.YtmnaleaghfbclaaGreatDoorMgKernelTimeA
import Derived.Test.YtmnaleaghfbclaaGreatDoorMgKernelTimeL
namespace Go.Proofs.YtmnaleaghfbclaaGreatDoor
set_option linter.unusedVariables false
set_option linter.unusedSimpArgs false
set_option maxHeartbeats 8000000
section
open Go.RowKit
theorem sCells_chg (b : Nat) : ∀ (vs : List Value) (o : Nat) (w : World), Chg (fun k => k = b) w (w.setCells b o vs)
 | [], _, w => Chg.refl _ w
 | v :: r, o, w => (chg_set w b o v).trans_same (sCells_chg b r (o + 1) _)
theorem sCells_blk (b : Nat) : ∀ (vs : List Value) (o : Nat) (w : World) (cs : Array Value) (t : TypeId), w.heap[b]? = some (.cells cs t (0, 0)) → ∃ cs', (w.setCells b o vs).heap[b]? = some (.cells cs' t (0, 0)) ∧ cs'.size = cs.size
 | [], _, _, cs, _, h => ⟨cs, h, rfl⟩
 | v :: r, o, w, cs, t, h => by
  obtain ⟨cs', h1, h2⟩ := sCells_blk b r (o + 1) _ _ t (blk_set o v h)
  exact ⟨cs', h1, by rw [h2]; simp⟩
theorem chunks (L : List Value) (sz : Nat) : ∀ n : Nat, ((List.range n).map fun i => (L.drop (i * sz)).take sz).flatten = L.take (n * sz)
 | 0 => by simp
 | n + 1 => by
  rw [List.range_succ, List.map_append, List.flatten_append, chunks L sz n, Nat.succ_mul, List.take_add]
  simp
namespace OwnL
variable {α : Type} {R : World → α → List Value → Prop} {B : Nat} {e : TypeId} {sz : Nat} {w : World} {v : Value} {l : List α}
theorem of_block {g cap : Nat} {cur : Array Value} (hb : w.heap[g]? = some (.cells cur e (0, 0))) (hB : B ≤ g) (hn : l.length ≤ cap) (hm : cap ≤ maxLen) (hs : cur.size = cap * sz) (hr : ∀ (i : Nat) (a : α), l[i]? = some a → ∃ vs, vs.length = sz ∧ w.rangeAt g (i * sz) vs ∧ R w a vs) :
  OwnL R B e sz w (.slice (some ⟨g, 0, none⟩) l.length cap) l := by
 have hle : l.length * sz ≤ cur.toList.length := by rw [show cur.toList.length = cap * sz by simp [hs]]; exact Nat.mul_le_mul_right _ hn
 have hch : ∀ i, i < l.length → ((cur.toList.drop (i * sz)).take sz).length = sz := fun i hi => by
  rw [List.length_take, List.length_drop]
  have : (i + 1) * sz ≤ l.length * sz := Nat.mul_le_mul_right _ hi
  rw [Nat.succ_mul] at this
  omega
 refine ⟨(List.range l.length).map fun i => (cur.toList.drop (i * sz)).take sz, ⟨?_, .inr ⟨g, cap, cur, rfl, hB, hb, hn, hm, hs, (chunks _ _ _).symm⟩⟩, by simp, ?_, ?_⟩
 ·rw [chunks, List.length_take]
  omega
 ·intro x hx
  obtain ⟨i, hi, rfl⟩ := List.mem_map.1 hx
  exact hch i (List.mem_range.1 hi)
 ·intro i a x ha hx
  have hil := (List.getElem?_eq_some_iff.1 ha).1
  rw [List.getElem?_map, List.getElem?_range hil] at hx
  injection hx with hx
  subst hx
  obtain ⟨vs, h1, h2, h3⟩ := hr i a ha
  have : (cur.toList.drop (i * sz)).take sz = vs := by
   apply List.ext_getElem?
   intro j
   by_cases hj : j < sz
   ·obtain ⟨u, hu⟩ : ∃ u, vs[j]? = some u := ⟨_, List.getElem?_eq_getElem (by omega)⟩
    have hc := h2 j u hu
    rw [cell_of_row _ _ _ _ _ _ hb] at hc
    rw [List.getElem?_take_of_lt hj, List.getElem?_drop, hu, Array.getElem?_toList]
    exact hc
   ·rw [List.getElem?_eq_none (by rw [hch i hil]; omega), List.getElem?_eq_none (by omega)]
  show R w a ((cur.toList.drop (i * sz)).take sz)
  rw [this]
  exact h3
theorem shape (h : OwnL R B e sz w v l) (h0 : 0 < l.length) : ∃ g cap cur, v = .slice (some ⟨g, 0, none⟩) l.length cap ∧ B ≤ g ∧ w.heap[g]? = some (.cells cur e (0, 0)) ∧ l.length ≤ cap ∧ cap ≤ maxLen ∧ cur.size = cap * sz ∧ ∀ (i : Nat) (a : α), l[i]? = some a → ∃ vs, vs.length = sz ∧ w.rangeAt g (i * sz) vs ∧ R w a vs := by
 obtain ⟨A, c, rfl, h1, h2, hr⟩ := h.rd
 obtain ⟨xss, ⟨_, hx⟩, _⟩ := h
 rcases hx with ⟨e1, e2⟩ | ⟨g, cap, cur, e1, hB, hb, r1, r2, r3, r4⟩
 ·omega
 ·injection e1 with e1 e2 e3
  subst e1 e3
  obtain ⟨b, o, e, _, hat⟩ := hr.at_ h0
  injection e with e
  injection e with e1 e2 _
  subst e1 e2
  exact ⟨g, c, cur, rfl, hB, hb, r1, r2, r3, fun i a ha => by simpa using hat i a ha⟩
variable {β : Type} {R' : World → β → List Value → Prop} {m : List β}
theorem re (h : OwnL R B e sz w v l) (hl : m.length = l.length) (hR : ∀ (i : Nat) (a : α) (b : β) (vs : List Value), l[i]? = some a → m[i]? = some b → R w a vs → R' w b vs) : OwnL R' B e sz w v m := by
 obtain ⟨xss, h1, h2, h3, h4⟩ := h
 rw [← hl] at h1 h2
 refine ⟨xss, h1, h2, h3, fun i b x hb hx => ?_⟩
 have hi : i < l.length := by rw [← hl]; exact (List.getElem?_eq_some_iff.1 hb).1
 exact hR i _ b x (List.getElem?_eq_getElem hi) hb (h4 i _ x (List.getElem?_eq_getElem hi) hx)
end OwnL
section
variable {α : Type} {R R' : World → α → List Value → Prop} {B : Nat} {e : TypeId} {sz n cap g : Nat} {w : World} {l : List α}
theorem OwnL.put {i : Nat} {a' : α} {us : List Value} (h : OwnL R B e sz w (.slice (some ⟨g, 0, none⟩) n cap) l) (hi : i < l.length) (hus : us.length = sz) (hR : ∀ b vs, R w b vs → R' (w.setCells g (i * sz) us) b vs) (ha : R' (w.setCells g (i * sz) us) a' us) : OwnL R' B e sz (w.setCells g (i * sz) us) (.slice (some ⟨g, 0, none⟩) n cap) (l.set i a') := by
 obtain ⟨g', cap', cur, e1, hB, hb, r1, r2, r3, hr⟩ := h.shape (by omega)
 injection e1 with e1 e2 e3
 injection e1 with e1
 injection e1 with e1 _ _
 subst e1 e2 e3
 obtain ⟨cur', hb', hs'⟩ := sCells_blk g us (i * sz) w cur e hb
 have := OwnL.of_block (R := R') (sz := sz) (l := l.set i a') hb' hB (by simpa using r1) r2 (by rw [hs', r3]) ?_
 ·simpa using this
 intro j b hb2
 by_cases hij : i = j
 ·subst hij
  rw [List.getElem?_set_self hi] at hb2
  injection hb2 with hb2
  subst hb2
  refine ⟨us, hus, World.rangeAt_setCells_same _ _ _ _ (fun q hq => ?_), ha⟩
  have hle : (i + 1) * sz ≤ l.length * sz := Nat.mul_le_mul_right _ hi
  have hle2 : l.length * sz ≤ cap * sz := Nat.mul_le_mul_right _ r1
  rw [Nat.succ_mul] at hle
  rw [cell_of_row _ _ _ _ _ _ hb]
  exact ⟨by rw [Array.getElem?_eq_getElem (by omega)]; rfl, blk_free hb _⟩
 ·rw [List.getElem?_set_ne hij] at hb2
  obtain ⟨vs, h1, h2, h3⟩ := hr j b hb2
  refine ⟨vs, h1, World.rangeAt_setCells_apart h2 _ _ _ (.inr ?_), hR b vs h3⟩
  rw [h1, hus]
  rcases Nat.lt_or_gt_of_ne hij with hlt | hlt
  ·right
   have : (i + 1) * sz ≤ j * sz := Nat.mul_le_mul_right _ hlt
   rw [Nat.succ_mul] at this
   exact this
  ·left
   have : (j + 1) * sz ≤ i * sz := Nat.mul_le_mul_right _ hlt
   rw [Nat.succ_mul] at this
   exact this
theorem OwnL.cell {i j : Nat} {a a' : α} {u : Value} (h : OwnL R B e sz w (.slice (some ⟨g, 0, none⟩) n cap) l) (hi : l[i]? = some a) (hj : j < sz) (hR : ∀ b vs, R w b vs → R' (w.setCell ⟨g, i * sz + j, none⟩ u) b vs) (ha : ∀ vs, vs.length = sz → R w a vs → R' (w.setCell ⟨g, i * sz + j, none⟩ u) a' (vs.set j u)) :
  OwnL R' B e sz (w.setCell ⟨g, i * sz + j, none⟩ u) (.slice (some ⟨g, 0, none⟩) n cap) (l.set i a') := by
 have hil := (List.getElem?_eq_some_iff.1 hi).1
 obtain ⟨g', cap', cur, e1, hB, hb, r1, r2, r3, hr⟩ := h.shape (by omega)
 injection e1 with e1 e2 e3
 injection e1 with e1
 injection e1 with e1 _ _
 subst e1 e2 e3
 have hb' := blk_set (i * sz + j) u hb
 have hle : (i + 1) * sz ≤ l.length * sz := Nat.mul_le_mul_right _ hil
 have hle2 : l.length * sz ≤ cap * sz := Nat.mul_le_mul_right _ r1
 rw [Nat.succ_mul] at hle
 have := OwnL.of_block (R := R') (sz := sz) (l := l.set i a') hb' hB (by simpa using r1) r2 (by simp [r3]) ?_
 ·simpa using this
 intro k b hb2
 have hcell : ∀ q, (w.setCell ⟨g, i * sz + j, none⟩ u).cell? ⟨g, q, none⟩ = if i * sz + j = q then some u else w.cell? ⟨g, q, none⟩ := fun q => by
  rw [cell_of_row _ _ _ _ _ _ hb', cell_of_row _ _ _ _ _ _ hb]
  show (cur.setIfInBounds (i * sz + j) u)[q]? = _
  rw [Array.getElem?_setIfInBounds]
  by_cases hq : i * sz + j = q
  ·rw [if_pos hq, if_pos hq, if_pos (by omega)]
  ·rw [if_neg hq, if_neg hq]
 by_cases hik : i = k
 ·subst hik
  rw [List.getElem?_set_self hil] at hb2
  injection hb2 with hb2
  subst hb2
  obtain ⟨vs, h1, h2, h3⟩ := hr i a hi
  refine ⟨vs.set j u, by simp [h1], fun q x hx => ?_, ha vs h1 h3⟩
  rw [hcell]
  rw [List.getElem?_set] at hx
  by_cases hjq : j = q
  ·subst hjq
   rw [if_pos rfl, if_pos (by omega)] at hx
   rw [if_pos rfl]
   exact hx
  ·rw [if_neg hjq] at hx
   rw [if_neg (by omega)]
   exact h2 q x hx
 ·rw [List.getElem?_set_ne hik] at hb2
  obtain ⟨vs, h1, h2, h3⟩ := hr k b hb2
  refine ⟨vs, h1, fun q x hx => ?_, hR b vs h3⟩
  rw [hcell, if_neg ?_]
  ·exact h2 q x hx
  ·have hq : q < sz := by rw [← h1]; exact (List.getElem?_eq_some_iff.1 hx).1
   intro e
   rcases Nat.lt_or_gt_of_ne hik with hlt | hlt
   ·have : (i + 1) * sz ≤ k * sz := Nat.mul_le_mul_right _ hlt
    rw [Nat.succ_mul] at this
    omega
   ·have : (k + 1) * sz ≤ i * sz := Nat.mul_le_mul_right _ hlt
    rw [Nat.succ_mul] at this
    omega
end
def tg {α : Type} (k : Nat) (l : List α) : List (α × Bool) := l.mapIdx fun i a => (a, decide (i < k))
section
variable {α : Type} {l : List α} {k : Nat}
theorem tg_get (k : Nat) (l : List α) (i : Nat) : (tg k l)[i]? = l[i]?.map fun a => (a, decide (i < k)) := by rw [tg, List.getElem?_mapIdx]
theorem tg_len (k : Nat) (l : List α) : (tg k l).length = l.length := by simp [tg]
theorem tg_set {a : α} (h : l[k]? = some a) : (tg k l).set k (a, true) = tg (k + 1) l := by
 apply List.ext_getElem?
 intro i
 rw [tg_get, List.getElem?_set]
 have hk := (List.getElem?_eq_some_iff.1 h).1
 by_cases hik : k = i
 ·subst hik
  rw [if_pos rfl, if_pos (by rw [tg_len]; exact hk), h]
  simp
 ·rw [if_neg hik, tg_get]
  have : decide (i < k) = decide (i < k + 1) := by rw [decide_eq_decide]; omega
  rw [this]
theorem tg_zero {R : World → α → List Value → Prop} {R' : World → α × Bool → List Value → Prop} {B : Nat} {e : TypeId} {sz : Nat} {w : World} {v : Value} (h : OwnL R B e sz w v l) (hR : ∀ a vs, R w a vs → R' w (a, false) vs) : OwnL R' B e sz w v (tg 0 l) :=
 h.re (tg_len 0 l) (fun i a b vs ha hb hr => by
   rw [tg_get, ha] at hb
   simp only [Option.map_some, Option.some.injEq] at hb
   subst hb
   simpa using hR a vs hr)
theorem tg_all {R : World → α × Bool → List Value → Prop} {R' : World → α → List Value → Prop} {B : Nat} {e : TypeId} {sz : Nat} {w : World} {v : Value} (h : OwnL R B e sz w v (tg l.length l)) (hR : ∀ a vs, R w (a, true) vs → R' w a vs) : OwnL R' B e sz w v l :=
 h.re (tg_len _ l).symm (fun i a b vs ha hb hr => by
   rw [tg_get, hb] at ha
   have hi := (List.getElem?_eq_some_iff.1 hb).1
   simp only [Option.map_some, Option.some.injEq, hi, decide_true] at ha
   subst ha
   exact hR b vs hr)
end
end
section
open Go.RowKit
theorem pnV.keepL {I : Nat → Prop} : ∀ (S : Nat → Prop) (W W' : World) (a : Pn) (vs : List Value), Chg S W W' → (∀ b, b < W.heap.size → I b → ¬ S b) → pnV I W a vs → pnV I W' a vs := by
 rintro S W W' a vs hg hI ⟨m, h1, h2, h3⟩
 exact ⟨m, h1, (h2.bound.keep hg (fun b e => hI b e.2 e.1)).mono (fun b e => e.1), h3⟩
theorem ptV.keepL {I : Nat → Prop} : ∀ (S : Nat → Prop) (W W' : World) (a : Pt) (vs : List Value), Chg S W W' → (∀ b, b < W.heap.size → I b → ¬ S b) → ptV I W a vs → ptV I W' a vs := by
 rintro S W W' a vs hg hI h
 exact ((h.bound).keep hg (fun b e => hI b e.2 e.1)).mono (fun b e => e.1)
theorem msgV.keepL {I : Nat → Prop} : ∀ (S : Nat → Prop) (W W' : World) (a : List UInt8) (vs : List Value), Chg S W W' → (∀ b, b < W.heap.size → I b → ¬ S b) → msgV I W a vs → msgV I W' a vs := by
 rintro S W W' a vs hg hI h
 exact ((h.bound).keep hg (fun b e => hI b e.2 e.1)).mono (fun b e => e.1)
theorem quV.keepL {I : Nat → Prop} : ∀ (S : Nat → Prop) (W W' : World) (a : Qu) (vs : List Value), Chg S W W' → (∀ b, b < W.heap.size → I b → ¬ S b) → quV I W a vs → quV I W' a vs := by
 rintro S W W' a vs hg hI h
 exact ((h.bound).keep hg (fun b e => hI b e.2 e.1)).mono (fun b e => e.1)
theorem RdL.bound {α : Type} {R R' : World → α → List Value → Prop} {I : Nat → Prop} {sz : Nat} {w : World} {A : Option Addr} {l : List α} (h : RdL R I sz w A l) (hsz : 0 < sz) (hR : ∀ a vs, a ∈ l → R w a vs → R' w a vs) : RdL R' (fun b => I b ∧ b < w.heap.size) sz w A l := by
 intro i a ha
 obtain ⟨b, o, vs, e, hb, hl, hc, hr⟩ := h i a ha
 exact ⟨b, o, vs, e, ⟨hb, rng_lt hc (by omega)⟩, hl, hc, hR a vs (List.mem_of_getElem? ha) hr⟩
structure CfgO (B : Nat) (w : World) (c : Cfg) (v1 v2 v3 : Value) : Prop where
 ws : OwnL winV B 49 2 w v1 c.ws
 ps : OwnL (pnV (Exc B v2)) B 83 5 w v2 c.ps
 cs : OwnL chV B 93 5 w v3 c.cs
def pnT (J K : Nat → Prop) : World → Pn × Bool → List Value → Prop := fun W x vs => if x.2 = true then pnV K W x.1 vs else pnV J W x.1 vs
theorem pnT.keep {J K S : Nat → Prop} {W W' : World} {x : Pn × Bool} {vs : List Value} (h : pnT J K W x vs) (hg : Chg S W W') (hJ : ∀ b, J b → ¬ S b) (hK : ∀ b, K b → ¬ S b) : pnT J K W' x vs := by
 obtain ⟨a, t⟩ := x
 cases t with
 | true => exact pnV.keep (show pnV K W a vs from h) hg hK
 | false => exact pnV.keep (show pnV J W a vs from h) hg hJ
set_option maxRecDepth 100000 in
theorem ccopy_ok (I : Nat → Prop) (w : World) (c : Cfg) (A1 A2 A3 : Option Addr) (c1 c2 c3 : Nat) (h : CfgR I w c A1 A2 A3 c1 c2 c3) (hl1 : c.ws.length ≤ 1000) (hl2 : c.ps.length ≤ 1000) (hl3 : c.cs.length ≤ 1000) :
  Calls Tryz.prog 44 #[.agg #[.slice A1 c.ws.length c1, .slice A2 c.ps.length c2, .slice A3 c.cs.length c3]] w fun e w' => ∃ v1 v2 v3, e = .returned (.agg #[v1, v2, v3]) ∧ CfgO w.heap.size w' c v1 v2 v3 ∧ Chg Non w w' := by
 have HC := Lib.hid h
 obtain ⟨J, hJ⟩ : ∃ J : Nat → Prop, J = fun b => I b ∧ b < w.heap.size := ⟨_, rfl⟩
 have hJb : ∀ b, J b → b < w.heap.size := fun b e => by rw [hJ] at e; exact e.2
 have HWS : Hid (RdL winV J 2 w A1 c.ws) := Lib.hid (by rw [hJ]; exact h.ws.bound (by omega) (fun _ _ _ h => h))
 have HCS : Hid (RdL chV J 5 w A3 c.cs) := Lib.hid (by rw [hJ]; exact h.cs.bound (by omega) (fun _ _ _ h => h))
 have HPS : Hid (RdL (pnV J) J 5 w A2 c.ps) := Lib.hid (by
   rw [hJ]
   refine h.ps.bound (by omega) (fun a vs _ h => ?_)
   obtain ⟨m, h1, h2, h3⟩ := h
   exact ⟨m, h1, h2.bound, h3⟩)
 clear hJ
 have hm1 := h.l1.2
 have hm2 := h.l2.2
 have hm3 := h.l3.2
 clear h
 go_enter Tryz.func44, Tryz.ntmps44
 go_wp2_with fail
 have hv : Chg Non w ((w.alloc (.cells #[.slice A1 c.ws.length c1, .slice A2 c.ps.length c2, .slice A3 c.cs.length c3] 26)).alloc (.cells #[.slice none 0 0, .slice none 0 0, .slice none 0 0] 26)) := ((Chg.refl Non w).alloc _).alloc _
 refine (cloneWin winV J (fun _ _ _ _ _ _ _ h => h) winV_one A1 c.ws c1 _ (fun b e => by have := hJb b e; simp; omega) (HWS.out.non hv (fun _ _ h => h)) (by omega)).mono ?_
 rintro e u ⟨v1, rfl, ho1, hg⟩
 obtain ⟨hb0, hb1, hlt, hgw⟩ := blk_call2 hg
 have hlt0 : w.heap.size < u.heap.size := by omega
 have HB0 := Lib.hid hb0
 have HB1 := Lib.hid hb1
 have HG := Lib.hid hgw
 have HO1 := Lib.hid (ho1.base (B' := w.heap.size + 2) (by simp))
 have f0 := blk_cell hb0 0 (v := .slice A1 c.ws.length c1) rfl
 have f2 := blk_cell hb0 2 (v := .slice A3 c.cs.length c3) rfl
 have fz := blk_free hb0 0
 obtain ⟨R1, d1, rfl, _⟩ := ho1.rd
 clear ho1 hg hb0 hb1 hgw hv
 go_wp2_with fail
 have hs1 := chg_set u w.heap.size 0 (.slice R1 c.ws.length d1)
 have HGs : Hid (Chg Non w (u.setCell ⟨w.heap.size, 0, none⟩ (.slice R1 c.ws.length d1))) := Lib.hid (HG.out.then_new hs1 (fun x e => by omega))
 refine (cloneCh chV J (fun _ _ _ _ _ _ _ h => h) chV_one A3 c.cs c3 _ (fun b e => by have := hJb b e; simp; omega) (HCS.out.non HGs.out (fun _ _ h => h)) (by omega)).mono ?_
 rintro e u2 ⟨v3, rfl, ho3, hg⟩
 have HB0b := Lib.hid (blk_keep (blk_set 0 (.slice R1 c.ws.length d1) HB0.out) hg (fun e => e))
 have HB1b := Lib.hid (blk_keep (blk_keep HB1.out hs1 (fun e => by omega)) hg (fun e => e))
 have HG2 := Lib.hid (HGs.out.then_non hg)
 have HO1b := Lib.hid ((HO1.out.keep hs1 (fun g e e2 => by have := (HO1.out.ge e).1; omega) (fun _ _ h => h)).non hg (fun _ _ h => h))
 have HO3 := Lib.hid (ho3.base (B' := w.heap.size + 2) (by simp; omega))
 have f0' := blk_cell HB0b.out 2 (v := .slice A3 c.cs.length c3) rfl
 have f1' := blk_cell HB0b.out 1 (v := .slice A2 c.ps.length c2) rfl
 have fz' := blk_free HB0b.out 2
 have hlt2 := blk_lt HB0b.out
 have hlt2b := blk_lt HB1b.out
 obtain ⟨R3, d3, rfl, _⟩ := ho3.rd
 clear ho3 hg hs1 f0 f2 fz
 go_wp2_with fail
 have hs2 := chg_set u2 w.heap.size 2 (.slice R3 c.cs.length d3)
 have HGs2 : Hid (Chg Non w (u2.setCell ⟨w.heap.size, 2, none⟩ (.slice R3 c.cs.length d3))) := Lib.hid (HG2.out.then_new hs2 (fun x e => by omega))
 refine (clonePn (pnV J) J pnV.keepL pnV_one A2 c.ps c2 _ (fun b e => by have := hJb b e; simp; omega) (HPS.out.non HGs2.out (fun a vs h => pnV_non _ _ _ _ HGs2.out h)) (by omega)).mono ?_
 rintro e u3 ⟨v2, rfl, ho2, hg⟩
 have HB0c := Lib.hid (blk_keep (blk_set 2 (.slice R3 c.cs.length d3) HB0b.out) hg (fun e => e))
 have HB1c := Lib.hid (blk_keep (blk_keep HB1b.out hs2 (fun e => by omega)) hg (fun e => e))
 have HG3 := Lib.hid (HGs2.out.then_non hg)
 have HO1c := Lib.hid ((HO1b.out.keep hs2 (fun g e e2 => by have := (HO1b.out.ge e).1; omega) (fun _ _ h => h)).non hg (fun _ _ h => h))
 have HO3c := Lib.hid ((HO3.out.keep hs2 (fun g e e2 => by have := (HO3.out.ge e).1; omega) (fun _ _ h => h)).non hg (fun _ _ h => h))
 have HO2 := Lib.hid (ho2.base (B' := w.heap.size + 2) (by simp; omega))
 have f0 := blk_cell HB0c.out 1 (v := .slice A2 c.ps.length c2) rfl
 have fz := blk_free HB0c.out 1
 have hlt3 := blk_lt HB0c.out
 have hlt3b := blk_lt HB1c.out
 obtain ⟨R2, d2, rfl, hd2, hdm2, _⟩ := ho2.rd
 have hR2 : ∀ g, (Value.slice R2 c.ps.length d2).ownBlock = some g → u2.heap.size ≤ g := fun g e => by have := (ho2.ge e).1; simpa using this
 unfold maxLen at hdm2
 clear ho2 hg hs2 f0' f1' fz'
 go_wp2_with fail
 have hs3 := chg_set u3 w.heap.size 1 (.slice R2 c.ps.length d2)
 obtain ⟨v0, hv0⟩ : ∃ v, v = u3.setCell ⟨w.heap.size, 1, none⟩ (.slice R2 c.ps.length d2) := ⟨_, rfl⟩
 rw [← hv0] at hs3 ⊢
 have HBX : Hid (v0.heap[w.heap.size]? = some (.cells #[.slice R1 c.ws.length d1, .slice R2 c.ps.length d2, .slice R3 c.cs.length d3] 26 (0, 0))) := Lib.hid (by rw [hv0]; exact blk_set 1 _ HB0c.out)
 have HB1d := Lib.hid (blk_keep HB1c.out hs3 (fun e => by omega))
 have HG4 := Lib.hid (HG3.out.then_new hs3 (fun x e => by omega))
 have HO1d := Lib.hid (HO1c.out.keep hs3 (fun g e e2 => by have := (HO1c.out.ge e).1; omega) (fun _ _ h => h))
 have HO3d := Lib.hid (HO3c.out.keep hs3 (fun g e e2 => by have := (HO3c.out.ge e).1; omega) (fun _ _ h => h))
 have HO2d := Lib.hid (HO2.out.keep hs3 (fun g e e2 => by have := (HO2.out.ge e).1; omega) (fun a vs h => h.keep hs3 (fun b e e2 => by have := hJb b e; omega)))
 have hv0s := HG4.out.size
 have hv0b := blk_lt HB1d.out
 clear hv0 hs3
 go_loopw [19] (fun iv wr => ∃ k : Nat, k ≤ c.ps.length ∧ iv = .int .i64 k ∧ Hid (OwnL (pnT J (From v0.heap.size)) (w.heap.size + 2) 83 5 wr (.slice R2 c.ps.length d2) (tg k c.ps)) ∧ Hid (Chg (fun b => (Value.slice R2 c.ps.length d2).ownBlock = some b) v0 wr)) (fun iv _ => c.ps.length - (intOf iv).toNat)
 case atStart => exact ⟨0, Nat.zero_le _, rfl, Lib.hid (tg_zero HO2d.out (fun a vs h => h)), Lib.hid (Chg.refl _ _)⟩
 case round =>
  obtain ⟨k, hk, rfl, HO, HGr⟩ := hrel
  have HBr := Lib.hid (blk_keep HBX.out HGr.out (fun e => by have := (HO2d.out.ge e).1; omega))
  have hlw := blk_lt HBr.out
  have hsv := HGr.out.size
  by_cases hlt : k < c.ps.length
  ·obtain ⟨g, cap, cur, e1, hBg, hgb, r1, r2, r3, hat⟩ := HO.out.shape (by rw [tg_len]; omega)
   injection e1 with e1 e2 e3
   clear e2
   subst e1 e3
   have hg0 : g < v0.heap.size := (HO2d.out.ge (g := g) rfl).2
   obtain ⟨a, ha⟩ : ∃ a, c.ps[k]? = some a := ⟨_, List.getElem?_eq_getElem hlt⟩
   have hltd : decide ((k : Int) < (c.ps.length : Int)) = true := by simpa using hlt
   obtain ⟨vs, hvl, hrg, hR⟩ := hat k (a, false) (by rw [tg_get, ha]; simp)
   obtain ⟨m, rfl, ⟨A, c5, rfl, hc5, hm5, hrm, _⟩, hbd, hl5⟩ := (show pnV J wr a vs from hR)
   have HTS := Lib.hid (tg_set ha)
   have HBD := Lib.hid hbd
   have HA := Lib.hid ha
   obtain ⟨x, y, z, kp, l⟩ := a
   simp only at hl5 hrm hc5
   clear hat hR r1 r2 r3 ha
   go_wp2_with fail
   obtain ⟨v, hv⟩ : ∃ v, v = wr.drew := ⟨_, rfl⟩
   have hgv : Chg Non wr v := by rw [hv]; exact (Chg.refl _ _).drew
   have hbx : v.cell? ⟨w.heap.size, 1, none⟩ = some (.slice (some ⟨g, 0, none⟩) c.ps.length d2) := blk_cell (blk_keep HBr.out hgv (fun e => e)) 1 rfl
   have hne : ¬ (⟨w.heap.size, 1, none⟩ : Addr).block = g := fun e => by simp only at e; omega
   have hm4 : v.cell? ⟨g, k * 5 + 4, none⟩ = some (.slice A l.length c5) := hgv.cell_some (hrg 4 _ rfl) (fun e => e)
   have HGB := Lib.hid (blk_keep hgb hgv (fun e => e))
   have HRm := Lib.hid (hrm.non hgv)
   have HGV := Lib.hid hgv
   have hvs := hgv.size
   refine wp_region_held_drew (S := Chg (fun b => b = g) wr.drew) (by kernel_rfl) (Chg.refl _ _) (fun hHeld => ?_)
   clear hHeld
   rw [← hv]
   clear hv hgb hrg hrm hgv
   refine hp 0 22 (.pointer (some ⟨w.heap.size, 1, none⟩)) rfl (Chg.refl _ _) ?_
   refine hp 1 23 (.slice (some ⟨g, 0, none⟩) c.ps.length d2) rfl (Chg.refl _ _) ?_ (he := (fun W hW => by have hc := hW.cell_some hbx hne; go_simp))
   refine hp 2 24 (.int .i64 k) rfl (Chg.refl _ _) ?_
   refine hp 3 25 (.pointer (some ⟨w.heap.size, 1, none⟩)) rfl (Chg.refl _ _) ?_
   refine hp 4 26 (.slice (some ⟨g, 0, none⟩) c.ps.length d2) rfl (Chg.refl _ _) ?_ (he := (fun W hW => by have hc := hW.cell_some hbx hne; go_simp))
   refine hp 5 27 (.int .i64 k) rfl (Chg.refl _ _) ?_
   refine hp 6 28 (.pointer (some ⟨g, k * 5, none⟩)) rfl (Chg.refl _ _) ?_
   refine hp 7 29 (.pointer (some ⟨g, k * 5 + 4, none⟩)) rfl (Chg.refl _ _) ?_
   refine h_one 8 (by kernel_rfl) rfl (by kernel_rfl) ?_
   intro K hK
   go_simp
   refine hK.out _ _ (Chg.refl _ _) (fun _ => ?_)
   clear hK K
   try simp only [Act.put, sA, sB, sC]
   refine h_one 9 (by kernel_rfl) rfl (by kernel_rfl) ?_
   intro K hK
   go_simp
   refine (SlClone_ok A l c5 v HRm.out (by omega)).mono ?_
   rintro e u1 ⟨A6, c6, rfl, q1, q2, q3, q4⟩
   have HQ := Lib.hid q3
   have HU := Lib.hid q4
   have HUg := Lib.hid (Chg.of_non q4 : Chg (fun b => b = g) v u1)
   have hm6 : u1.cell? ⟨g, k * 5 + 4, none⟩ = some (.slice A l.length c5) := q4.cell_some hm4 (fun e => e)
   have hf6 : u1.frozen? ⟨g, k * 5 + 4, none⟩ = false := by have h := blk_keep HGB.out q4 (fun e => e); exact blk_free h _
   clear q3 q4
   refine hK.out _ _ HUg.out (fun _ => ?_)
   clear hK K
   try simp only [Act.put, sA, sB, sC]
   refine hp 10 32 (.pointer (some ⟨g, k * 5, none⟩)) rfl HUg.out ?_
   refine hp 11 33 (.pointer (some ⟨g, k * 5 + 4, none⟩)) rfl HUg.out ?_
   refine h_one 12 (by kernel_rfl) rfl (by kernel_rfl) ?_
   intro K hK
   go_simp
   refine hK.out _ _ (HUg.out.trans_same (chg_set u1 g (k * 5 + 4) (.slice A6 l.length c6))) (fun _ => ?_)
   clear hK K
   try simp only [Act.put, sA, sB, sC]
   refine wpAnyH_done (by kernel_rfl) ?_ _
   have hst := chg_set u1 g (k * 5 + 4) (.slice A6 l.length c6)
   have HU2 := Lib.hid (HGV.out.then_non HU.out)
   have hsu := HU.out.size
   have HO2n : Hid (OwnL (pnT J (From v0.heap.size)) (w.heap.size + 2) 83 5 (u1.setCell ⟨g, k * 5 + 4, none⟩ (.slice A6 l.length c6)) (.slice (some ⟨g, 0, none⟩) c.ps.length d2) (tg (k + 1) c.ps)) := Lib.hid (by
     rw [← HTS.out]
     refine (HO.out.non HU2.out (fun a vs h => h.keep HU2.out (fun _ _ e => e) (fun _ _ e => e))).cell (j := 4) (by rw [tg_get, HA.out]; rfl) (by omega) (fun a vs h => h.keep hst (fun b e e2 => by have := hJb b e; omega) (fun b e e2 => by have : v0.heap.size ≤ b := e; omega)) ?_
     rintro vs hvl h
     obtain ⟨m, rfl, _⟩ := (show pnV J u1 ⟨x, y, z, kp, l⟩ vs from by simpa [pnT] using h)
     exact ⟨_, rfl, (own_bytes ((HQ.out.mono (by omega)).keep hst (fun b o e1 e2 e3 e4 => by omega)) q1 q2 : BytesV (From v0.heap.size) _ _ _), HBD.out, hl5⟩)
   have HGn : Hid (Chg (fun b => (Value.slice (some ⟨g, 0, none⟩) c.ps.length d2).ownBlock = some b) v0 (u1.setCell ⟨g, k * 5 + 4, none⟩ (.slice A6 l.length c6))) := Lib.hid ((HGr.out.then_non HU2.out).trans_same (hst.mono (fun x e => by subst e; rfl)))
   clear HUg hst hm4 hm6 hf6 hbx
   go_wp2_with fail
   exact ⟨⟨k + 1, by omega, by simp, HO2n, HGn⟩, by simp [intOf]; omega⟩
  ·obtain rfl : k = c.ps.length := by omega
   have hltd : decide ((c.ps.length : Int) < (c.ps.length : Int)) = false := by simp
   have HBe := Lib.hid (blk_keep HB1d.out HGr.out (fun e => by have := (HO2d.out.ge e).1; omega))
   have s0 := blk_cell HBr.out 0 (v := .slice R1 c.ws.length d1) rfl
   have s1 := blk_cell HBr.out 1 (v := .slice R2 c.ps.length d2) rfl
   have s2 := blk_cell HBr.out 2 (v := .slice R3 c.cs.length d3) rfl
   go_wp2_with (refine sel none (.store 26 (.tmp 2) (.tmp 35)) ?_
                refine wpList_store_rowA rfl 26 (.tmp 2) (.tmp 35) rfl (w.heap.size + 1) #[.slice R1 c.ws.length d1, .slice R2 c.ps.length d2, .slice R3 c.cs.length d3] rfl rfl 26 _ HBe.out (by kernel_rfl) rfl (by simp [Value.oneCell']) ?_
                intro W hgW hbW)
   have hgo : ∀ g, (Value.slice R2 c.ps.length d2).ownBlock = some g → w.heap.size + 2 ≤ g ∧ g < v0.heap.size := fun g e => HO2d.out.ge e
   have hA : Chg (fun b => b = w.heap.size + 1 ∨ (Value.slice R2 c.ps.length d2).ownBlock = some b) v0 W := (HGr.out.mono (fun x e => .inr e)).trans_same (hgW.mono (fun x e => .inl e))
   refine bodyPost_ret (res_c Tryz.results44 _ _ (w.heap.size + 1) 26 _ (0, 0) _ rfl hbW Tryz.underlying26 rfl (by kernel_rfl)) (by kernel_rfl) ⟨_, _, _, rfl, ⟨?_, ?_, ?_⟩, HG4.out.then_new hA (fun x e => ?_)⟩
   ·exact (HO1d.out.keep hA (fun g e e2 => by
      have h1 := HO1b.out.ge e
      rcases e2 with e2 | e2
      · omega
      · have := hR2 g e2; omega) (fun _ _ h => h)).base (by omega)
   ·refine OwnL.mono (R := pnV (From v0.heap.size)) ((OwnL.keep (tg_all HO.out (fun a vs h => h)) hgW (fun g e e2 => by have := (hgo g e).1; omega) (fun a vs h => h.keep hgW (fun b e e2 => by have : v0.heap.size ≤ b := e; omega))).base (by omega)) (fun a vs h => h.mono (fun b e => ⟨?_, fun e2 => ?_⟩))
    ·have : v0.heap.size ≤ b := e
     omega
    ·have : v0.heap.size ≤ b := e
     have := (hgo b e2).2
     omega
   ·exact (HO3d.out.keep hA (fun g e e2 => by
      have h1 := HO3.out.ge e
      rcases e2 with e2 | e2
      · omega
      · have := hR2 g e2; omega) (fun _ _ h => h)).base (by omega)
   ·rcases e with e | e
    ·omega
    ·have := (hgo x e).1; omega
end
section
open Go.RowKit
def quT (J K : Nat → Prop) : World → Qu × Bool → List Value → Prop := fun W x vs => if x.2 = true then quV K W x.1 vs else quV J W x.1 vs
theorem quT.keep {J K S : Nat → Prop} {W W' : World} {x : Qu × Bool} {vs : List Value} (h : quT J K W x vs) (hg : Chg S W W') (hJ : ∀ b, J b → ¬ S b) (hK : ∀ b, K b → ¬ S b) : quT J K W' x vs := by
 obtain ⟨a, t⟩ := x
 cases t with
 | true => exact quV.keep (show quV K W a vs from h) hg hK
 | false => exact quV.keep (show quV J W a vs from h) hg hJ
theorem quT.bound {J K : Nat → Prop} {W : World} {x : Qu × Bool} {vs : List Value} (h : quT J K W x vs) : quT J (fun b => K b ∧ b < W.heap.size) W x vs := by
 obtain ⟨a, t⟩ := x
 cases t with
 | true => exact quV.bound (show quV K W a vs from h)
 | false => exact h
theorem quT.mono {J K K' : Nat → Prop} {W : World} {x : Qu × Bool} {vs : List Value} (h : quT J K W x vs) (hK : ∀ b, K b → K' b) : quT J K' W x vs := by
 obtain ⟨a, t⟩ := x
 cases t with
 | true => exact quV.mono (show quV K W a vs from h) hK
 | false => exact h
def ptT (J K : Nat → Prop) : World → Pt × Bool → List Value → Prop := fun W x vs => if x.2 = true then ptV K W x.1 vs else ptV J W x.1 vs
theorem ptT.keep {J K S : Nat → Prop} {W W' : World} {x : Pt × Bool} {vs : List Value} (h : ptT J K W x vs) (hg : Chg S W W') (hJ : ∀ b, J b → ¬ S b) (hK : ∀ b, K b → ¬ S b) : ptT J K W' x vs := by
 obtain ⟨a, t⟩ := x
 cases t with
 | true => exact ptV.keep (show ptV K W a vs from h) hg hK
 | false => exact ptV.keep (show ptV J W a vs from h) hg hJ
def msgT (J K : Nat → Prop) : World → List UInt8 × Bool → List Value → Prop := fun W x vs => if x.2 = true then msgV K W x.1 vs else msgV J W x.1 vs
theorem msgT.keep {J K S : Nat → Prop} {W W' : World} {x : List UInt8 × Bool} {vs : List Value} (h : msgT J K W x vs) (hg : Chg S W W') (hJ : ∀ b, J b → ¬ S b) (hK : ∀ b, K b → ¬ S b) : msgT J K W' x vs := by
 obtain ⟨a, t⟩ := x
 cases t with
 | true => exact msgV.keep (show msgV K W a vs from h) hg hK
 | false => exact msgV.keep (show msgV J W a vs from h) hg hJ
def fluxR {α : Type} (R : World → α → List Value → Prop) (F : List Value → Prop) : World → α × Bool → List Value → Prop := fun W x vs => if x.2 = true then F vs else R W x.1 vs
theorem flux_in {α : Type} {R : World → α → List Value → Prop} {B : Nat} {e : TypeId} {sz : Nat} {w : World} {v : Value} {l : List α} (F : List Value → Prop) (h : OwnL R B e sz w v l) : OwnL (fluxR R F) B e sz w v (l.map fun x => (x, false)) :=
 h.re (by simp) (fun i a b vs ha hb hr => by
   rw [List.getElem?_map, ha] at hb
   simp only [Option.map_some, Option.some.injEq] at hb
   subst hb
   exact hr)
theorem flux_out {α : Type} {R R' : World → α × Bool → List Value → Prop} {B : Nat} {e : TypeId} {sz k : Nat} {w : World} {v : Value} {l : List α} {a : α} {F : List Value → Prop} (ha : l[k]? = some a) (h : OwnL (fluxR R F) B e sz w v (((tg k l).map fun x => (x, false)).set k ((a, false), true))) (hR : ∀ x vs, R w x vs → R' w x vs) (hF : ∀ vs, F vs → R' w (a, true) vs) : OwnL R' B e sz w v (tg (k + 1) l) := by
 refine h.re (by simp [tg_len]) (fun i x b vs hx hb hr => ?_)
 have hi : i < l.length := by have := (List.getElem?_eq_some_iff.1 hb).1; rw [tg_len] at this; exact this
 have hk := (List.getElem?_eq_some_iff.1 ha).1
 rw [List.getElem?_set] at hx
 by_cases hik : k = i
 ·subst hik
  rw [if_pos rfl, if_pos (by simp [tg_len]; exact hk)] at hx
  injection hx with hx
  subst hx
  rw [tg_get, ha] at hb
  simp only [Option.map_some, Option.some.injEq] at hb
  subst hb
  have := hF vs hr
  simpa using this
 ·rw [if_neg hik, List.getElem?_map, tg_get, List.getElem?_eq_getElem hi] at hx
  rw [tg_get, List.getElem?_eq_getElem hi] at hb
  simp only [Option.map_some, Option.some.injEq] at hx hb
  subst hx hb
  have hd : decide (i < k) = decide (i < k + 1) := by rw [decide_eq_decide]; omega
  have hr : R w (l[i], decide (i < k)) vs := hr
  rw [hd] at hr
  exact hR _ vs hr
end
end Go.Proofs.YtmnaleaghfbclaaGreatDoor
