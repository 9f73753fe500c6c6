/- CheckPlays, part 16 of 27: contracts of the functions that it reaches, and the laws that they need, merged and shortened (from my texts XOwnS, XCCopy, XSCopyA, XSCopyB). -/
import Derived.Test.YtkgnlobabknkcaaGreatMgCheckPlaysA
import Derived.Test.YtkgnlobabknkcaaGreatMgCheckPlaysL
namespace Go.Proofs.YtkgnlobabknkcaaGreat
set_option linter.unusedVariables false
set_option linter.unusedSimpArgs false
set_option maxHeartbeats 8000000
set_option maxRecDepth 100000
section
open Go.RowKit
theorem sCells_chg (b : Nat) : ∀ (vs : List Value) (o : Nat) (w : World), Chg (fun k => k = b) w (w.setCells b o vs)
 | [], _, w => Chg.refl _ w
 | v :: r, o, w => (chg_set w b o v).trans_same (sCells_chg b r (o + 1) _)
theorem sCells_blk (b : Nat) : ∀ (vs : List Value) (o : Nat) (w : World) (cs : Array Value) (t : TypeId), w.heap[b]? = some (.cells cs t (0, 0)) → ∃ cs', (w.setCells b o vs).heap[b]? = some (.cells cs' t (0, 0)) ∧ cs'.size = cs.size
 | [], _, _, cs, _, h => ⟨cs, h, rfl⟩
 | v :: r, o, w, cs, t, h => by
  obtain ⟨cs', h1, h2⟩ := sCells_blk b r (o + 1) _ _ t (blk_set o v h)
  exact ⟨cs', h1, by rw [h2]; simp⟩
theorem chunks (L : List Value) (sz : Nat) : ∀ n : Nat, ((List.range n).map fun i => (L.drop (i * sz)).take sz).flatten = L.take (n * sz)
 | 0 => by simp
 | n + 1 => by
  rw [List.range_succ, List.map_append, List.flatten_append, chunks L sz n, Nat.succ_mul, List.take_add]
  simp
namespace OwnL
variable {α : Type} {R : World → α → List Value → Prop} {B : Nat} {e : TypeId} {sz : Nat} {w : World} {v : Value} {l : List α}
theorem of_block {g cap : Nat} {cur : Array Value} (hb : w.heap[g]? = some (.cells cur e (0, 0))) (hB : B ≤ g) (hn : l.length ≤ cap) (hm : cap ≤ maxLen) (hs : cur.size = cap * sz) (hr : ∀ (i : Nat) (a : α), l[i]? = some a → ∃ vs, vs.length = sz ∧ w.rangeAt g (i * sz) vs ∧ R w a vs) :
  OwnL R B e sz w (.slice (some ⟨g, 0, none⟩) l.length cap) l := by
 have hle : l.length * sz ≤ cur.toList.length := by rw [show cur.toList.length = cap * sz by simp [hs]]; exact Nat.mul_le_mul_right _ hn
 have hch : ∀ i, i < l.length → ((cur.toList.drop (i * sz)).take sz).length = sz := fun i hi => by
  rw [List.length_take, List.length_drop]
  have : (i + 1) * sz ≤ l.length * sz := Nat.mul_le_mul_right _ hi
  rw [Nat.succ_mul] at this
  omega
 refine ⟨(List.range l.length).map fun i => (cur.toList.drop (i * sz)).take sz, ⟨?_, .inr ⟨g, cap, cur, rfl, hB, hb, hn, hm, hs, (chunks _ _ _).symm⟩⟩, by simp, ?_, ?_⟩
 ·rw [chunks, List.length_take]
  omega
 ·intro x hx
  obtain ⟨i, hi, rfl⟩ := List.mem_map.1 hx
  exact hch i (List.mem_range.1 hi)
 ·intro i a x ha hx
  have hil := (List.getElem?_eq_some_iff.1 ha).1
  rw [List.getElem?_map, List.getElem?_range hil] at hx
  injection hx with hx
  subst hx
  obtain ⟨vs, h1, h2, h3⟩ := hr i a ha
  have : (cur.toList.drop (i * sz)).take sz = vs := by
   apply List.ext_getElem?
   intro j
   by_cases hj : j < sz
   ·obtain ⟨u, hu⟩ : ∃ u, vs[j]? = some u := ⟨_, List.getElem?_eq_getElem (by omega)⟩
    have hc := h2 j u hu
    rw [cell_of_row _ _ _ _ _ _ hb] at hc
    rw [List.getElem?_take_of_lt hj, List.getElem?_drop, hu, Array.getElem?_toList]
    exact hc
   ·rw [List.getElem?_eq_none (by rw [hch i hil]; omega), List.getElem?_eq_none (by omega)]
  show R w a ((cur.toList.drop (i * sz)).take sz)
  rw [this]
  exact h3
theorem shape (h : OwnL R B e sz w v l) (h0 : 0 < l.length) : ∃ g cap cur, v = .slice (some ⟨g, 0, none⟩) l.length cap ∧ B ≤ g ∧ w.heap[g]? = some (.cells cur e (0, 0)) ∧ l.length ≤ cap ∧ cap ≤ maxLen ∧ cur.size = cap * sz ∧ ∀ (i : Nat) (a : α), l[i]? = some a → ∃ vs, vs.length = sz ∧ w.rangeAt g (i * sz) vs ∧ R w a vs := by
 obtain ⟨A, c, rfl, h1, h2, hr⟩ := h.rd
 obtain ⟨xss, ⟨_, hx⟩, _⟩ := h
 rcases hx with ⟨e1, e2⟩ | ⟨g, cap, cur, e1, hB, hb, r1, r2, r3, r4⟩
 ·omega
 ·injection e1 with e1 e2 e3
  subst e1 e3
  obtain ⟨b, o, e, _, hat⟩ := hr.at_ h0
  injection e with e
  injection e with e1 e2 _
  subst e1 e2
  exact ⟨g, c, cur, rfl, hB, hb, r1, r2, r3, fun i a ha => by simpa using hat i a ha⟩
variable {β : Type} {R' : World → β → List Value → Prop} {m : List β}
theorem re (h : OwnL R B e sz w v l) (hl : m.length = l.length) (hR : ∀ (i : Nat) (a : α) (b : β) (vs : List Value), l[i]? = some a → m[i]? = some b → R w a vs → R' w b vs) : OwnL R' B e sz w v m := by
 obtain ⟨xss, h1, h2, h3, h4⟩ := h
 rw [← hl] at h1 h2
 refine ⟨xss, h1, h2, h3, fun i b x hb hx => ?_⟩
 have hi : i < l.length := by rw [← hl]; exact (List.getElem?_eq_some_iff.1 hb).1
 exact hR i _ b x (List.getElem?_eq_getElem hi) hb (h4 i _ x (List.getElem?_eq_getElem hi) hx)
end OwnL
section
variable {α : Type} {R R' : World → α → List Value → Prop} {B : Nat} {e : TypeId} {sz n cap g : Nat} {w : World} {l : List α}
theorem OwnL.put {i : Nat} {a' : α} {us : List Value} (h : OwnL R B e sz w (.slice (some ⟨g, 0, none⟩) n cap) l) (hi : i < l.length) (hus : us.length = sz) (hR : ∀ b vs, R w b vs → R' (w.setCells g (i * sz) us) b vs) (ha : R' (w.setCells g (i * sz) us) a' us) : OwnL R' B e sz (w.setCells g (i * sz) us) (.slice (some ⟨g, 0, none⟩) n cap) (l.set i a') := by
 obtain ⟨g', cap', cur, e1, hB, hb, r1, r2, r3, hr⟩ := h.shape (by omega)
 injection e1 with e1 e2 e3
 injection e1 with e1
 injection e1 with e1 _ _
 subst e1 e2 e3
 obtain ⟨cur', hb', hs'⟩ := sCells_blk g us (i * sz) w cur e hb
 have := OwnL.of_block (R := R') (sz := sz) (l := l.set i a') hb' hB (by simpa using r1) r2 (by rw [hs', r3]) ?_
 ·simpa using this
 intro j b hb2
 by_cases hij : i = j
 ·subst hij
  rw [List.getElem?_set_self hi] at hb2
  injection hb2 with hb2
  subst hb2
  refine ⟨us, hus, World.rangeAt_setCells_same _ _ _ _ (fun q hq => ?_), ha⟩
  have hle : (i + 1) * sz ≤ l.length * sz := Nat.mul_le_mul_right _ hi
  have hle2 : l.length * sz ≤ cap * sz := Nat.mul_le_mul_right _ r1
  rw [Nat.succ_mul] at hle
  rw [cell_of_row _ _ _ _ _ _ hb]
  exact ⟨by rw [Array.getElem?_eq_getElem (by omega)]; rfl, blk_free hb _⟩
 ·rw [List.getElem?_set_ne hij] at hb2
  obtain ⟨vs, h1, h2, h3⟩ := hr j b hb2
  refine ⟨vs, h1, World.rangeAt_setCells_apart h2 _ _ _ (.inr ?_), hR b vs h3⟩
  rw [h1, hus]
  rcases Nat.lt_or_gt_of_ne hij with hlt | hlt
  ·right
   have : (i + 1) * sz ≤ j * sz := Nat.mul_le_mul_right _ hlt
   rw [Nat.succ_mul] at this
   exact this
  ·left
   have : (j + 1) * sz ≤ i * sz := Nat.mul_le_mul_right _ hlt
   rw [Nat.succ_mul] at this
   exact this
theorem OwnL.cell {i j : Nat} {a a' : α} {u : Value} (h : OwnL R B e sz w (.slice (some ⟨g, 0, none⟩) n cap) l) (hi : l[i]? = some a) (hj : j < sz) (hR : ∀ b vs, R w b vs → R' (w.setCell ⟨g, i * sz + j, none⟩ u) b vs) (ha : ∀ vs, vs.length = sz → R w a vs → R' (w.setCell ⟨g, i * sz + j, none⟩ u) a' (vs.set j u)) :
  OwnL R' B e sz (w.setCell ⟨g, i * sz + j, none⟩ u) (.slice (some ⟨g, 0, none⟩) n cap) (l.set i a') := by
 have hil := (List.getElem?_eq_some_iff.1 hi).1
 obtain ⟨g', cap', cur, e1, hB, hb, r1, r2, r3, hr⟩ := h.shape (by omega)
 injection e1 with e1 e2 e3
 injection e1 with e1
 injection e1 with e1 _ _
 subst e1 e2 e3
 have hb' := blk_set (i * sz + j) u hb
 have hle : (i + 1) * sz ≤ l.length * sz := Nat.mul_le_mul_right _ hil
 have hle2 : l.length * sz ≤ cap * sz := Nat.mul_le_mul_right _ r1
 rw [Nat.succ_mul] at hle
 have := OwnL.of_block (R := R') (sz := sz) (l := l.set i a') hb' hB (by simpa using r1) r2 (by simp [r3]) ?_
 ·simpa using this
 intro k b hb2
 have hcell : ∀ q, (w.setCell ⟨g, i * sz + j, none⟩ u).cell? ⟨g, q, none⟩ = if i * sz + j = q then some u else w.cell? ⟨g, q, none⟩ := fun q => by
  rw [cell_of_row _ _ _ _ _ _ hb', cell_of_row _ _ _ _ _ _ hb]
  show (cur.setIfInBounds (i * sz + j) u)[q]? = _
  rw [Array.getElem?_setIfInBounds]
  by_cases hq : i * sz + j = q
  ·rw [if_pos hq, if_pos hq, if_pos (by omega)]
  ·rw [if_neg hq, if_neg hq]
 by_cases hik : i = k
 ·subst hik
  rw [List.getElem?_set_self hil] at hb2
  injection hb2 with hb2
  subst hb2
  obtain ⟨vs, h1, h2, h3⟩ := hr i a hi
  refine ⟨vs.set j u, by simp [h1], fun q x hx => ?_, ha vs h1 h3⟩
  rw [hcell]
  rw [List.getElem?_set] at hx
  by_cases hjq : j = q
  ·subst hjq
   rw [if_pos rfl, if_pos (by omega)] at hx
   rw [if_pos rfl]
   exact hx
  ·rw [if_neg hjq] at hx
   rw [if_neg (by omega)]
   exact h2 q x hx
 ·rw [List.getElem?_set_ne hik] at hb2
  obtain ⟨vs, h1, h2, h3⟩ := hr k b hb2
  refine ⟨vs, h1, fun q x hx => ?_, hR b vs h3⟩
  rw [hcell, if_neg ?_]
  ·exact h2 q x hx
  ·have hq : q < sz := by rw [← h1]; exact (List.getElem?_eq_some_iff.1 hx).1
   intro e
   rcases Nat.lt_or_gt_of_ne hik with hlt | hlt
   ·have : (i + 1) * sz ≤ k * sz := Nat.mul_le_mul_right _ hlt
    rw [Nat.succ_mul] at this
    omega
   ·have : (k + 1) * sz ≤ i * sz := Nat.mul_le_mul_right _ hlt
    rw [Nat.succ_mul] at this
    omega
end
def tg {α : Type} (k : Nat) (l : List α) : List (α × Bool) := l.mapIdx fun i a => (a, decide (i < k))
section
variable {α : Type} {l : List α} {k : Nat}
theorem tg_get (k : Nat) (l : List α) (i : Nat) : (tg k l)[i]? = l[i]?.map fun a => (a, decide (i < k)) := by rw [tg, List.getElem?_mapIdx]
theorem tg_len (k : Nat) (l : List α) : (tg k l).length = l.length := by simp [tg]
theorem tg_set {a : α} (h : l[k]? = some a) : (tg k l).set k (a, true) = tg (k + 1) l := by
 apply List.ext_getElem?
 intro i
 rw [tg_get, List.getElem?_set]
 have hk := (List.getElem?_eq_some_iff.1 h).1
 by_cases hik : k = i
 ·subst hik
  rw [if_pos rfl, if_pos (by rw [tg_len]; exact hk), h]
  simp
 ·rw [if_neg hik, tg_get]
  have : decide (i < k) = decide (i < k + 1) := by rw [decide_eq_decide]; omega
  rw [this]
theorem tg_zero {R : World → α → List Value → Prop} {R' : World → α × Bool → List Value → Prop} {B : Nat} {e : TypeId} {sz : Nat} {w : World} {v : Value} (h : OwnL R B e sz w v l) (hR : ∀ a vs, R w a vs → R' w (a, false) vs) : OwnL R' B e sz w v (tg 0 l) :=
 h.re (tg_len 0 l) (fun i a b vs ha hb hr => by
   rw [tg_get, ha] at hb
   simp only [Option.map_some, Option.some.injEq] at hb
   subst hb
   simpa using hR a vs hr)
theorem tg_all {R : World → α × Bool → List Value → Prop} {R' : World → α → List Value → Prop} {B : Nat} {e : TypeId} {sz : Nat} {w : World} {v : Value} (h : OwnL R B e sz w v (tg l.length l)) (hR : ∀ a vs, R w (a, true) vs → R' w a vs) : OwnL R' B e sz w v l :=
 h.re (tg_len _ l).symm (fun i a b vs ha hb hr => by
   rw [tg_get, hb] at ha
   have hi := (List.getElem?_eq_some_iff.1 hb).1
   simp only [Option.map_some, Option.some.injEq, hi, decide_true] at ha
   subst ha
   exact hR b vs hr)
end
end
section
open Go.RowKit
theorem ptV.keepL {I : Nat → Prop} : ∀ (S : Nat → Prop) (W W' : World) (a : Pt) (vs : List Value), Chg S W W' → (∀ b, b < W.heap.size → I b → ¬ S b) → ptV I W a vs → ptV I W' a vs := by
 rintro S W W' a vs hg hI h
 exact ((h.bound).keep hg (fun b e => hI b e.2 e.1)).mono (fun b e => e.1)
theorem msgV.keepL {I : Nat → Prop} : ∀ (S : Nat → Prop) (W W' : World) (a : List UInt8) (vs : List Value), Chg S W W' → (∀ b, b < W.heap.size → I b → ¬ S b) → msgV I W a vs → msgV I W' a vs := by
 rintro S W W' a vs hg hI h
 exact ((h.bound).keep hg (fun b e => hI b e.2 e.1)).mono (fun b e => e.1)
theorem quV.keepL {I : Nat → Prop} : ∀ (S : Nat → Prop) (W W' : World) (a : Qu) (vs : List Value), Chg S W W' → (∀ b, b < W.heap.size → I b → ¬ S b) → quV I W a vs → quV I W' a vs := by
 rintro S W W' a vs hg hI h
 exact ((h.bound).keep hg (fun b e => hI b e.2 e.1)).mono (fun b e => e.1)
theorem RdL.bound {α : Type} {R R' : World → α → List Value → Prop} {I : Nat → Prop} {sz : Nat} {w : World} {A : Option Addr} {l : List α} (h : RdL R I sz w A l) (hsz : 0 < sz) (hR : ∀ a vs, a ∈ l → R w a vs → R' w a vs) : RdL R' (fun b => I b ∧ b < w.heap.size) sz w A l := by
 intro i a ha
 obtain ⟨b, o, vs, e, hb, hl, hc, hr⟩ := h i a ha
 exact ⟨b, o, vs, e, ⟨hb, rng_lt hc (by omega)⟩, hl, hc, hR a vs (List.mem_of_getElem? ha) hr⟩
end
section
open Go.RowKit
def quT (J K : Nat → Prop) : World → Qu × Bool → List Value → Prop := fun W x vs => if x.2 = true then quV K W x.1 vs else quV J W x.1 vs
theorem quT.keep {J K S : Nat → Prop} {W W' : World} {x : Qu × Bool} {vs : List Value} (h : quT J K W x vs) (hg : Chg S W W') (hJ : ∀ b, J b → ¬ S b) (hK : ∀ b, K b → ¬ S b) : quT J K W' x vs := by
 obtain ⟨a, t⟩ := x
 cases t with
 | true => exact quV.keep (show quV K W a vs from h) hg hK
 | false => exact quV.keep (show quV J W a vs from h) hg hJ
theorem quT.bound {J K : Nat → Prop} {W : World} {x : Qu × Bool} {vs : List Value} (h : quT J K W x vs) : quT J (fun b => K b ∧ b < W.heap.size) W x vs := by
 obtain ⟨a, t⟩ := x
 cases t with
 | true => exact quV.bound (show quV K W a vs from h)
 | false => exact h
theorem quT.mono {J K K' : Nat → Prop} {W : World} {x : Qu × Bool} {vs : List Value} (h : quT J K W x vs) (hK : ∀ b, K b → K' b) : quT J K' W x vs := by
 obtain ⟨a, t⟩ := x
 cases t with
 | true => exact quV.mono (show quV K W a vs from h) hK
 | false => exact h
def ptT (J K : Nat → Prop) : World → Pt × Bool → List Value → Prop := fun W x vs => if x.2 = true then ptV K W x.1 vs else ptV J W x.1 vs
theorem ptT.keep {J K S : Nat → Prop} {W W' : World} {x : Pt × Bool} {vs : List Value} (h : ptT J K W x vs) (hg : Chg S W W') (hJ : ∀ b, J b → ¬ S b) (hK : ∀ b, K b → ¬ S b) : ptT J K W' x vs := by
 obtain ⟨a, t⟩ := x
 cases t with
 | true => exact ptV.keep (show ptV K W a vs from h) hg hK
 | false => exact ptV.keep (show ptV J W a vs from h) hg hJ
def msgT (J K : Nat → Prop) : World → List UInt8 × Bool → List Value → Prop := fun W x vs => if x.2 = true then msgV K W x.1 vs else msgV J W x.1 vs
theorem msgT.keep {J K S : Nat → Prop} {W W' : World} {x : List UInt8 × Bool} {vs : List Value} (h : msgT J K W x vs) (hg : Chg S W W') (hJ : ∀ b, J b → ¬ S b) (hK : ∀ b, K b → ¬ S b) : msgT J K W' x vs := by
 obtain ⟨a, t⟩ := x
 cases t with
 | true => exact msgV.keep (show msgV K W a vs from h) hg hK
 | false => exact msgV.keep (show msgV J W a vs from h) hg hJ
def fluxR {α : Type} (R : World → α → List Value → Prop) (F : List Value → Prop) : World → α × Bool → List Value → Prop := fun W x vs => if x.2 = true then F vs else R W x.1 vs
theorem flux_in {α : Type} {R : World → α → List Value → Prop} {B : Nat} {e : TypeId} {sz : Nat} {w : World} {v : Value} {l : List α} (F : List Value → Prop) (h : OwnL R B e sz w v l) : OwnL (fluxR R F) B e sz w v (l.map fun x => (x, false)) :=
 h.re (by simp) (fun i a b vs ha hb hr => by
   rw [List.getElem?_map, ha] at hb
   simp only [Option.map_some, Option.some.injEq] at hb
   subst hb
   exact hr)
theorem flux_out {α : Type} {R R' : World → α × Bool → List Value → Prop} {B : Nat} {e : TypeId} {sz k : Nat} {w : World} {v : Value} {l : List α} {a : α} {F : List Value → Prop} (ha : l[k]? = some a) (h : OwnL (fluxR R F) B e sz w v (((tg k l).map fun x => (x, false)).set k ((a, false), true))) (hR : ∀ x vs, R w x vs → R' w x vs) (hF : ∀ vs, F vs → R' w (a, true) vs) : OwnL R' B e sz w v (tg (k + 1) l) := by
 refine h.re (by simp [tg_len]) (fun i x b vs hx hb hr => ?_)
 have hi : i < l.length := by have := (List.getElem?_eq_some_iff.1 hb).1; rw [tg_len] at this; exact this
 have hk := (List.getElem?_eq_some_iff.1 ha).1
 rw [List.getElem?_set] at hx
 by_cases hik : k = i
 ·subst hik
  rw [if_pos rfl, if_pos (by simp [tg_len]; exact hk)] at hx
  injection hx with hx
  subst hx
  rw [tg_get, ha] at hb
  simp only [Option.map_some, Option.some.injEq] at hb
  subst hb
  have := hF vs hr
  simpa using this
 ·rw [if_neg hik, List.getElem?_map, tg_get, List.getElem?_eq_getElem hi] at hx
  rw [tg_get, List.getElem?_eq_getElem hi] at hb
  simp only [Option.map_some, Option.some.injEq] at hx hb
  subst hx hb
  have hd : decide (i < k) = decide (i < k + 1) := by rw [decide_eq_decide]; omega
  have hr : R w (l[i], decide (i < k)) vs := hr
  rw [hd] at hr
  exact hR _ vs hr
end
section
open Go.RowKit
theorem blk_there {w : World} {g n k : Nat} {cs : Array Value} {t : TypeId} (h : w.heap[g]? = some (.cells cs t (0, 0))) (hk : k * n + n ≤ cs.size) : w.there g (k * n) n := fun j hj => by
 rw [cell_of_row _ _ _ _ _ _ h]
 exact ⟨by rw [Array.getElem?_eq_getElem (show k * n + j < cs.size by omega)]; rfl, blk_free h _⟩
theorem scopy_apart (I : Nat → Prop) (w : World) (s : Sta) (vb vd : Value) (hs : StaV I w s vb vd) (hpl : s.parts.length ≤ 1000) (hql : s.queues.length ≤ 1000) (hml : ∀ a ∈ s.queues, a.msgs.length ≤ 1000) :
  Calls Tryz.prog 149 #[.agg #[.int .i64 s.frames, vb, vd]] w fun e w' => ∃ b d, e = .returned (.agg #[.int .i64 s.frames, b, d]) ∧ StaO w.heap.size w' s b d ∧ (∃ M, w.heap.size ≤ M ∧ (∀ g, b.ownBlock = some g → g < M) ∧ SlV (quV (From M)) (From M) 6 w' s.queues d) ∧ Chg Non w w' := by
 obtain ⟨J, hJ⟩ : ∃ J : Nat → Prop, J = fun b => I b ∧ b < w.heap.size := ⟨_, rfl⟩
 have hJb : ∀ b, J b → b < w.heap.size := fun b e => by rw [hJ] at e; exact e.2
 obtain ⟨⟨A1, c1, rfl, hc1, hm1, hr1⟩, ⟨A2, c2, rfl, hc2, hm2, hr2⟩⟩ := hs
 have HPS : Hid (RdL (ptV J) J 14 w A1 s.parts) := Lh (by rw [hJ]; exact hr1.bound (by omega) (fun a vs _ h => h.bound))
 have HQS : Hid (RdL (quV J) J 6 w A2 s.queues) := Lh (by rw [hJ]; exact hr2.bound (by omega) (fun a vs _ h => h.bound))
 unfold maxLen at hm1 hm2
 clear hJ hr1 hr2
 go_enter Tryz.func149, Tryz.ntmps149
 go_wp2_with fail
 have hv : Chg Non w ((w.alloc (.cells #[.int .i64 s.frames, .slice A1 s.parts.length c1, .slice A2 s.queues.length c2] 25)).alloc (.cells #[.int .i64 0, .slice none 0 0, .slice none 0 0] 25)) := ((Chg.refl Non w).alloc _).alloc _
 refine (clonePt (ptV J) J ptV.keepL ptV_one A1 s.parts c1 _ (fun b e => by have := hJb b e; simp; omega) (HPS.out.non hv (fun a vs h => ptV_non _ _ _ _ hv h)) (by omega)).mono ?_
 rintro e u ⟨v1, rfl, ho1, hg⟩
 obtain ⟨hb0, hb1, hlt, hgw⟩ := blk_call2 hg
 have hlt0 : w.heap.size < u.heap.size := by omega
 have HB0 := Lh hb0
 have HB1 := Lh hb1
 have HG := Lh hgw
 have HO1 := Lh (ho1.base (B' := w.heap.size + 2) (by simp))
 have f1 := blk_cell hb0 1 (v := .slice A1 s.parts.length c1) rfl
 have fz := blk_free hb0 1
 obtain ⟨R1, d1, rfl, hd1, hdm1, _⟩ := ho1.rd
 unfold maxLen at hdm1
 clear ho1 hg hb0 hb1 hgw hv
 go_wp2_with fail
 have hs1 := chg_set u w.heap.size 1 (.slice R1 s.parts.length d1)
 obtain ⟨va, hva⟩ : ∃ v, v = u.setCell ⟨w.heap.size, 1, none⟩ (.slice R1 s.parts.length d1) := ⟨_, rfl⟩
 rw [← hva] at hs1 ⊢
 have HBP : Hid (va.heap[w.heap.size]? = some (.cells #[.int .i64 s.frames, .slice R1 s.parts.length d1, .slice A2 s.queues.length c2] 25 (0, 0))) := Lh (by rw [hva]; exact blk_set 1 _ HB0.out)
 have HB1a := Lh (blk_keep HB1.out hs1 (fun e => by omega))
 have HGa := Lh (HG.out.then_new hs1 (fun x e => by omega))
 have HP0 := Lh (HO1.out.keep hs1 (fun g e e2 => by have := (HO1.out.ge e).1; omega) (fun a vs h => h.keep hs1 (fun b e e2 => by have := hJb b e; omega)))
 have hvas := HGa.out.size
 have hvab := blk_lt HB1a.out
 clear hva hs1 f1 fz
 go_loopw [16] (fun iv wr => ∃ k : Nat, k ≤ s.parts.length ∧ iv = .int .i64 k ∧ Hid (OwnL (ptT J (From va.heap.size)) (w.heap.size + 2) 104 14 wr (.slice R1 s.parts.length d1) (tg k s.parts)) ∧ Hid (Chg (fun b => (Value.slice R1 s.parts.length d1).ownBlock = some b) va wr)) (fun iv _ => s.parts.length - (intOf iv).toNat)
 case atStart => exact ⟨0, Nat.zero_le _, rfl, Lh (tg_zero HP0.out (fun a vs h => h)), Lh (Chg.refl _ _)⟩
 case round =>
  obtain ⟨k, hk, rfl, HO, HGr⟩ := hrel
  obtain ⟨wo, hwo⟩ : ∃ x, x = wr := ⟨_, rfl⟩
  subst hwo
  have HBr := Lh (blk_keep HBP.out HGr.out (fun e => by have := (HP0.out.ge e).1; omega))
  have hlw := blk_lt HBr.out
  have hsv := HGr.out.size
  by_cases hlt : k < s.parts.length
  ·obtain ⟨g, cap, cur, e1, hBg, hgb, r1, r2, r3, hat⟩ := HO.out.shape (by rw [tg_len]; omega)
   injection e1 with e1 e2 e3
   clear e2
   subst e1 e3
   rw [tg_len] at r1
   have hg0 : g < va.heap.size := (HP0.out.ge (g := g) rfl).2
   obtain ⟨a, ha⟩ : ∃ a, s.parts[k]? = some a := ⟨_, List.getElem?_eq_getElem hlt⟩
   have hltd : decide ((k : Int) < (s.parts.length : Int)) = true := by simpa using hlt
   obtain ⟨vs, hvl, hrg, hR⟩ := hat k (a, false) (by rw [tg_get, ha]; simp)
   obtain ⟨m, rfl, ⟨A, c5, rfl, hc5, hcm5, hrm, _⟩, hbd, hl5⟩ := (show ptV J wo a vs from hR)
   have HTS := Lh (tg_set ha)
   have HA := Lh ha
   have HBD := Lh hbd
   have HRG := Lh hrg
   have hcur : k * 14 + 14 ≤ cur.size := by omega
   clear hat hR ha hrg hbd r1 r2 r3
   go_wp2_with (first
     | (refine sel (some 20) (.load 104 _) ?_; refine wpList_load_mid rfl 104 (.tmp 19) rfl g (k * 14) rfl (partL a (.slice A a.mem.length c5)) _ HRG.out Tryz.underlying104 rfl (by rw [hvl]; exact info_part) ?_)
     | (refine sel none (.store 104 (.tmp 4) (.tmp 20)) ?_
        refine wpList_store_rowA rfl 104 (.tmp 4) (.tmp 20) rfl wo.heap.size (partC a (.slice A a.mem.length c5)) rfl rfl 104 zeroPart (blk_new _ _) (by rw [partC_size HBD.out.r8]; exact info_part) (by rw [partC_size HBD.out.r8]; rfl) (partC_one _ _ rfl) ?_
        intro W1 hgW hbW))
   obtain ⟨v, hv⟩ : ∃ v, v = W1.drew := ⟨_, rfl⟩
   have hv0 : v.heap[wo.heap.size]? = some (.cells (partC a (.slice A a.mem.length c5)) 104 (0, 0)) := by rw [hv]; exact hbW
   have hgv0 : Chg Non wo W1 := ((Chg.refl Non wo).alloc _).then_new hgW (fun x e => by omega)
   have hgv : Chg Non wo v := by rw [hv]; exact hgv0.drew
   have hvlt := blk_lt hv0
   have hbx : v.cell? ⟨w.heap.size, 1, none⟩ = some (.slice (some ⟨g, 0, none⟩) s.parts.length d1) := blk_cell (blk_keep HBr.out hgv (fun e => e)) 1 rfl
   have hne : ¬ (⟨w.heap.size, 1, none⟩ : Addr).block = g := fun e => by simp only at e; omega
   have hne2 : ¬ wo.heap.size = g := fun e => by omega
   have HGB := Lh (blk_keep hgb hgv (fun e => e))
   have HRm := Lh (hrm.non hgv)
   have HGV := Lh hgv
   refine wp_region_held_drew (S := Chg (fun b => b = g) W1.drew) (by kernel_rfl) (Chg.refl _ _) (fun hHeld => ?_)
   clear hHeld
   rw [← hv]
   clear hv hgb hgv0 hgW hbW hrm hgv
   refine hp 0 21 (.pointer (some ⟨w.heap.size, 1, none⟩)) rfl (Chg.refl _ _) ?_
   refine hp 1 22 (.slice (some ⟨g, 0, none⟩) s.parts.length d1) rfl (Chg.refl _ _) ?_ (he := (fun W hW => by have hc := hW.cell_some hbx hne; go_simp))
   refine hp 2 23 (.int .i64 k) rfl (Chg.refl _ _) ?_
   refine h_load 3 (some 24) 104 (.tmp 4) wo.heap.size 0 (partC a (.slice A a.mem.length c5)) _ rfl (by kernel_rfl) (by kernel_rfl) (by kernel_rfl) (by kernel_rfl) (by kernel_rfl) (fun _ _ _ h => h) (by kernel_rfl) (by kernel_rfl) (fun W hW => range_keepS (blk_range hv0) hW hne2) Tryz.underlying104 rfl (by rw [partC_size HBD.out.r8]; exact info_part) (Chg.refl _ _) ?_
   simp only [Act.put, sA, sB, sC]
   refine h1o 4 rfl ?_
   intro K hK
   go_simp
   refine (Copy_ok a A a.mem c5 v HBD.out.r8 HRm.out (by omega)).mono ?_
   rintro e u1 ⟨A6, c6, rfl, q1, q2, q3, q4⟩
   have HQ := Lh q3
   have HU := Lh q4
   have HUg := Lh (Chg.of_non q4 : Chg (fun b => b = g) v u1)
   have HGB1 := Lh (blk_keep HGB.out q4 (fun e => e))
   clear q3 q4
   refine hK.out _ _ HUg.out (fun _ => ?_)
   clear hK K
   try simp only [Act.put, sA, sB, sC]
   refine hp 5 26 (.pointer (some ⟨g, k * 14, none⟩)) rfl HUg.out ?_
   refine h1o 6 rfl ?_
   intro K hK
   refine wp_store_mid 104 (.tmp 26) (.tmp 25) (by kernel_rfl) g (k * 14) (partC a (.slice A6 a.mem.length c6)) (by kernel_rfl) (by kernel_rfl) (by rw [partC_size HBD.out.r8]; exact blk_there HGB1.out (by omega)) (by rw [partC_size HBD.out.r8]; exact info_part) (partC_one _ _ rfl) ?_
   refine hK.out _ _ (HUg.out.trans_same (sCells_chg g (partC a (.slice A6 a.mem.length c6)).toList (k * 14) u1)) (fun _ => ?_)
   clear hK K
   try simp only [Act.put, sA, sB, sC]
   refine hdn ?_ _
   have hst := sCells_chg g (partC a (.slice A6 a.mem.length c6)).toList (k * 14) u1
   have HU2 := Lh (HGV.out.then_non HU.out)
   have hsu := HU2.out.size
   have hsu1 := HGV.out.size
   have HOn : Hid (OwnL (ptT J (From va.heap.size)) (w.heap.size + 2) 104 14 (u1.setCells g (k * 14) (partC a (.slice A6 a.mem.length c6)).toList) (.slice (some ⟨g, 0, none⟩) s.parts.length d1) (tg (k + 1) s.parts)) := Lh (by
     rw [← HTS.out]
     refine OwnL.put (R := ptT J (From va.heap.size)) (HO.out.non HU2.out (fun a vs h => h.keep HU2.out (fun _ _ e => e) (fun _ _ e => e))) (by rw [tg_len]; exact hlt) (by rw [Array.length_toList, partC_size HBD.out.r8]) (fun a vs h => h.keep hst (fun b e e2 => by have := hJb b e; omega) (fun b e e2 => by have : va.heap.size ≤ b := e; omega)) ?_
     exact ⟨_, rfl, (own_bytes ((HQ.out.mono (by omega)).keep hst (fun b o e1 e2 e3 e4 => by omega)) q1 q2 : BytesV (From va.heap.size) _ _ _), HBD.out, hl5⟩)
   have HGn : Hid (Chg (fun b => (Value.slice (some ⟨g, 0, none⟩) s.parts.length d1).ownBlock = some b) va (u1.setCells g (k * 14) (partC a (.slice A6 a.mem.length c6)).toList)) := Lh ((HGr.out.then_non HU2.out).trans_same (hst.mono (fun x e => by subst e; rfl)))
   clear HUg hst hbx hv0
   go_wp2_with fail
   exact ⟨⟨k + 1, by omega, by simp, HOn, HGn⟩, by simp [intOf]; omega⟩
  ·obtain rfl : k = s.parts.length := by omega
   have hltd : decide ((s.parts.length : Int) < (s.parts.length : Int)) = false := by simp
   have HP1 := Lh (tg_all (R' := ptV (From va.heap.size)) HO.out (fun a vs h => h))
   have hgp : ∀ g, (Value.slice R1 s.parts.length d1).ownBlock = some g → w.heap.size + 2 ≤ g ∧ g < va.heap.size := fun g e => HP0.out.ge e
   have HB1w := Lh (blk_keep HB1a.out HGr.out (fun e => by have := (hgp _ e).1; omega))
   have HGw := Lh (HGa.out.then_new HGr.out (fun x e => by have := (hgp _ e).1; omega))
   have f2 := blk_cell HBr.out 2 (v := .slice A2 s.queues.length c2) rfl
   have hws := HGw.out.size
   clear HO
   go_wp2_with fail
   refine (cloneQu (quV J) J quV.keepL quV_one A2 s.queues c2 _ (fun b e => by have := hJb b e; omega) (HQS.out.non HGw.out (fun a vs h => quV_non _ _ _ _ HGw.out h)) (by omega)).mono ?_
   rintro e u3 ⟨v2, rfl, ho2, hg⟩
   have HB0c := Lh (blk_keep HBr.out hg (fun e => e))
   have HB1c := Lh (blk_keep HB1w.out hg (fun e => e))
   have HG3 := Lh (HGw.out.then_non hg)
   have HP2 : Hid (OwnL (ptV (fun b => Exc w.heap.size (.slice R1 s.parts.length d1) b ∧ w.heap.size + 2 ≤ b ∧ b < wo.heap.size)) (w.heap.size + 2) 104 14 u3 (.slice R1 s.parts.length d1) s.parts) := Lh ((HP1.out.mono (fun a vs h => h.bound.mono (fun b e => by
     have h1 : va.heap.size ≤ b := e.1
     exact ⟨⟨by omega, fun e2 => by have := (hgp b e2).2; omega⟩, by omega, e.2⟩))).non hg (fun a vs h => ptV_non _ _ _ _ hg h))
   have HO2 := Lh (ho2.base (B' := w.heap.size + 2) (by omega))
   have fz' := blk_free HB0c.out 2
   have f0 := blk_cell HB0c.out 2 (v := .slice A2 s.queues.length c2) rfl
   have hlt3 := blk_lt HB0c.out
   have hlt3b := blk_lt HB1c.out
   obtain ⟨R2, d2, rfl, hd2, hdm2, _⟩ := ho2.rd
   have hR2 : ∀ g, (Value.slice R2 s.queues.length d2).ownBlock = some g → wo.heap.size ≤ g := fun g e => (ho2.ge e).1
   have hR1 : ∀ g, (Value.slice R1 s.parts.length d1).ownBlock = some g → g < wo.heap.size := fun g e => (HP1.out.ge e).2
   unfold maxLen at hdm2
   have hwou := hg.size
   clear ho2 hg f2
   go_wp2_with fail
   have hs3 := chg_set u3 w.heap.size 2 (.slice R2 s.queues.length d2)
   obtain ⟨v0, hv0⟩ : ∃ v, v = u3.setCell ⟨w.heap.size, 2, none⟩ (.slice R2 s.queues.length d2) := ⟨_, rfl⟩
   rw [← hv0] at hs3 ⊢
   have HBX : Hid (v0.heap[w.heap.size]? = some (.cells #[.int .i64 s.frames, .slice R1 s.parts.length d1, .slice R2 s.queues.length d2] 25 (0, 0))) := Lh (by rw [hv0]; exact blk_set 2 _ HB0c.out)
   have HB1d := Lh (blk_keep HB1c.out hs3 (fun e => by omega))
   have HG4 := Lh (HG3.out.then_new hs3 (fun x e => by omega))
   have HP9 := Lh (HP2.out.keep hs3 (fun g e e2 => by have := (HP2.out.ge e).1; omega) (fun a vs h => h.keep hs3 (fun b e e2 => by have := e.2.1; omega)))
   have HQ0 := Lh (HO2.out.keep hs3 (fun g e e2 => by have := (HO2.out.ge e).1; omega) (fun a vs h => h.keep hs3 (fun b e e2 => by have := hJb b e; omega)))
   have hv0s := HG4.out.size
   have hv0b := blk_lt HB1d.out
   obtain ⟨wp0, hwp0⟩ : ∃ n, n = wo.heap.size := ⟨_, rfl⟩
   rw [← hwp0] at hR1 hR2 HP9
   have hwv0 : wp0 ≤ v0.heap.size := by have := hs3.size; omega
   have hwp1 : w.heap.size ≤ wp0 := by omega
   clear hv0 hs3 HBr HGr
   go_loopw [35] (fun iv wr => ∃ k : Nat, k ≤ s.queues.length ∧ iv = .int .i64 k ∧ Hid (OwnL (quT J (From v0.heap.size)) (w.heap.size + 2) 110 6 wr (.slice R2 s.queues.length d2) (tg k s.queues)) ∧ Hid (Chg (fun b => (Value.slice R2 s.queues.length d2).ownBlock = some b) v0 wr)) (fun iv _ => s.queues.length - (intOf iv).toNat)
   case atStart => exact ⟨0, Nat.zero_le _, rfl, Lh (tg_zero HQ0.out (fun a vs h => h)), Lh (Chg.refl _ _)⟩
   case round =>
    obtain ⟨k, hk, rfl, HO, HGr⟩ := hrel
    obtain ⟨wo, hwo⟩ : ∃ x, x = wr := ⟨_, rfl⟩
    subst hwo
    have HBr := Lh (blk_keep HBX.out HGr.out (fun e => by have := (HQ0.out.ge e).1; omega))
    have hlw := blk_lt HBr.out
    have hsv := HGr.out.size
    by_cases hlt : k < s.queues.length
    ·obtain ⟨g, cap, cur, e1, hBg, hgb, r1, r2, r3, hat⟩ := HO.out.shape (by rw [tg_len]; omega)
     injection e1 with e1 e2 e3
     clear e2
     subst e1 e3
     have hg0 : g < v0.heap.size := (HQ0.out.ge (g := g) rfl).2
     obtain ⟨a, ha⟩ : ∃ a, s.queues[k]? = some a := ⟨_, List.getElem?_eq_getElem hlt⟩
     have hltd : decide ((k : Int) < (s.queues.length : Int)) = true := by simpa using hlt
     obtain ⟨vs, hvl, hrg, hR⟩ := hat k (a, false) (by rw [tg_get, ha]; simp)
     obtain ⟨m, rfl, ⟨A, c5, rfl, hc5, hcm5, hrm⟩, hbd, hl5⟩ := (show quV J wo a vs from hR)
     have hms : a.msgs.length ≤ 1000 := hml a (List.mem_of_getElem? ha)
     have HA := Lh ha
     have HBD := Lh hbd
     obtain ⟨⟨x1, x2, x3, x4, x5⟩, ms⟩ := a
     simp only at hl5 hrm hc5 hms
     unfold maxLen at hcm5
     have HRG := Lh hrg
     have hm50 : wo.cell? ⟨g, k * 6 + 5, none⟩ = some (.slice A ms.length c5) := hrg 5 _ rfl
     clear hat hR r1 r2 r3 ha hrg hbd
     go_wp2_with (first
       | (refine sel (some 39) (.load 110 _) ?_; refine wpList_load_mid rfl 110 (.tmp 38) rfl g (k * 6) rfl [.int .i64 x1, .int .i64 x2, .int .i64 x3, .int .i64 x4, .int .i64 x5, .slice A ms.length c5] _ HRG.out Tryz.underlying110 rfl (by kernel_rfl) ?_)
       | (refine sel none (.store 110 (.tmp 6) (.tmp 39)) ?_
          refine wpList_store_rowA rfl 110 (.tmp 6) (.tmp 39) rfl wo.heap.size #[.int .i64 x1, .int .i64 x2, .int .i64 x3, .int .i64 x4, .int .i64 x5, .slice A ms.length c5] rfl rfl 110 _ (blk_new _ _) (by kernel_rfl) rfl (by simp [Value.oneCell']) ?_
          intro W1 hgW hbW))
     obtain ⟨v, hv⟩ : ∃ v, v = W1.drew := ⟨_, rfl⟩
     have hv0 : v.heap[wo.heap.size]? = some (.cells #[.int .i64 x1, .int .i64 x2, .int .i64 x3, .int .i64 x4, .int .i64 x5, .slice A ms.length c5] 110 (0, 0)) := by rw [hv]; exact hbW
     have hgv0 : Chg Non wo W1 := ((Chg.refl Non wo).alloc _).then_new hgW (fun x e => by omega)
     have hgv : Chg Non wo v := by rw [hv]; exact hgv0.drew
     have hvlt := blk_lt hv0
     have hbx : v.cell? ⟨w.heap.size, 2, none⟩ = some (.slice (some ⟨g, 0, none⟩) s.queues.length d2) := blk_cell (blk_keep HBr.out hgv (fun e => e)) 2 rfl
     have hne : ¬ (⟨w.heap.size, 2, none⟩ : Addr).block = g := fun e => by simp only at e; omega
     have hne2 : ¬ (⟨wo.heap.size, 5, none⟩ : Addr).block = g := fun e => by simp only at e; omega
     have hpm : v.cell? ⟨wo.heap.size, 5, none⟩ = some (.slice A ms.length c5) := blk_cell hv0 5 rfl
     have hm5 : v.cell? ⟨g, k * 6 + 5, none⟩ = some (.slice A ms.length c5) := hgv.cell_some hm50 (fun e => e)
     have HGB := Lh (blk_keep hgb hgv (fun e => e))
     have HRm := Lh (hrm.non hgv (fun a vs h => msgV_non _ _ _ _ hgv h))
     have HGV := Lh hgv
     have HV6 := Lh hv0
     refine wp_region_held_drew (S := Chg (fun b => b = g) W1.drew) (by kernel_rfl) (Chg.refl _ _) (fun hHeld => ?_)
     clear hHeld
     rw [← hv]
     clear hv hgb hgv0 hgW hbW hrm hm50 hv0 hgv
     refine hp 0 40 (.pointer (some ⟨w.heap.size, 2, none⟩)) rfl (Chg.refl _ _) ?_
     refine hp 1 41 (.slice (some ⟨g, 0, none⟩) s.queues.length d2) rfl (Chg.refl _ _) ?_ (he := (fun W hW => by have hc := hW.cell_some hbx hne; go_simp))
     refine hp 2 42 (.int .i64 k) rfl (Chg.refl _ _) ?_
     refine hp 3 43 (.pointer (some ⟨wo.heap.size, 5, none⟩)) rfl (Chg.refl _ _) ?_
     refine hp 4 44 (.slice A ms.length c5) rfl (Chg.refl _ _) ?_ (he := (fun W hW => by have hc := hW.cell_some hpm hne2; go_simp))
     refine h1o 5 rfl ?_
     intro K hK
     go_simp
     refine (cloneBy (msgV J) J msgV.keepL msgV_one A ms c5 v (fun b e => by have := hJb b e; omega) HRm.out (by omega)).mono ?_
     rintro e u1 ⟨vm, rfl, hom, hgm⟩
     have HOM := Lh hom
     have HU := Lh hgm
     have HUg := Lh (Chg.of_non hgm : Chg (fun b => b = g) v u1)
     have hm6 : u1.cell? ⟨g, k * 6 + 5, none⟩ = some (.slice A ms.length c5) := hgm.cell_some hm5 (fun e => e)
     have hf6 : u1.frozen? ⟨g, k * 6 + 5, none⟩ = false := by have h := blk_keep HGB.out hgm (fun e => e); exact blk_free h _
     obtain ⟨RM, dm, rfl, hdm, hdmm, _⟩ := hom.rd
     clear hom hgm
     refine hK.out _ _ HUg.out (fun _ => ?_)
     clear hK K
     try simp only [Act.put, sA, sB, sC]
     refine hp 6 46 (.pointer (some ⟨g, k * 6, none⟩)) rfl HUg.out ?_
     refine hp 7 47 (.pointer (some ⟨g, k * 6 + 5, none⟩)) rfl HUg.out ?_
     refine h1o 8 rfl ?_
     intro K hK
     go_simp
     refine hK.out _ _ (HUg.out.trans_same (chg_set u1 g (k * 6 + 5) (.slice RM ms.length dm))) (fun _ => ?_)
     clear hK K
     try simp only [Act.put, sA, sB, sC]
     refine hdn ?_ _
     have hst := chg_set u1 g (k * 6 + 5) (.slice RM ms.length dm)
     have HU2 := Lh (HGV.out.then_non HU.out)
     have hsu := HU2.out.size
     have hvu := HU.out.size
     obtain ⟨w3, hw3⟩ : ∃ x, x = u1.setCell ⟨g, k * 6 + 5, none⟩ (.slice RM ms.length dm) := ⟨_, rfl⟩
     rw [← hw3] at hst ⊢
     have HOF : Hid (OwnL (fluxR (quT J (fun b => v0.heap.size ≤ b ∧ b < wo.heap.size)) (fun vs => vs = [.int .i64 x1, .int .i64 x2, .int .i64 x3, .int .i64 x4, .int .i64 x5, .slice RM ms.length dm])) (w.heap.size + 2) 110 6 w3 (.slice (some ⟨g, 0, none⟩) s.queues.length d2) (((tg k s.queues).map fun x => (x, false)).set k ((⟨⟨x1, x2, x3, x4, x5⟩, ms⟩, false), true))) := Lh (by
       rw [hw3] at hst ⊢
       refine OwnL.cell (R := fluxR (quT J (fun b => v0.heap.size ≤ b ∧ b < wo.heap.size)) (fun vs => vs = [.int .i64 x1, .int .i64 x2, .int .i64 x3, .int .i64 x4, .int .i64 x5, .slice RM ms.length dm])) (j := 5) (a := ((⟨⟨x1, x2, x3, x4, x5⟩, ms⟩, false), false)) (OwnL.non (flux_in _ (HO.out.mono (fun a vs h => h.bound.mono (fun b e => e)))) HU2.out ?_) (by rw [List.getElem?_map, tg_get, HA.out]; simp) (by omega) ?_ ?_
       · intro x vs h
         obtain ⟨x, t⟩ := x
         cases t with
         | true => exact h
         | false => exact quT.keep (show quT J _ wo x vs from h) HU2.out (fun _ _ e => e) (fun _ _ e => e)
       · intro x vs h
         obtain ⟨x, t⟩ := x
         cases t with
         | true => exact h
         | false => exact quT.keep (show quT J _ u1 x vs from h) hst (fun b e e2 => by have := hJb b e; omega) (fun b e e2 => by omega)
       · intro vs hvl h
         obtain ⟨m, rfl, _⟩ := (show quV J u1 ⟨⟨x1, x2, x3, x4, x5⟩, ms⟩ vs from h)
         rfl)
     have HM3 := Lh (HOM.out.keep hst (fun q e e2 => by have := (HOM.out.ge e).1; omega) (fun a vs h => h.keep hst (fun b e e2 => by have := hJb b e; omega)))
     have HB3 := Lh (blk_keep (blk_keep HBr.out HU2.out (fun e => e)) hst (fun e => hne e))
     have HB36 := Lh (blk_keep (blk_keep HV6.out HU.out (fun e => e)) hst (fun e => hne2 e))
     have HR3 := Lh ((HRm.out.non HU.out (fun a vs h => msgV_non _ _ _ _ HU.out h)).keep hst (fun b e e2 => by have := hJb b e; omega) (fun a vs _ h => h.keep hst (fun b e e2 => by have := hJb b e; omega)))
     have HG3 : Hid (Chg (fun b => b = g) wo w3) := Lh ((HU2.out.of_non : Chg (fun b => b = g) wo u1).trans_same hst)
     have hpq3 : w3.cell? ⟨g, k * 6 + 5, none⟩ = some (.slice RM ms.length dm) := by
      rw [hw3]
      exact blk_cell (blk_set (k * 6 + 5) _ (blk_keep HGB.out HU.out (fun e => e))) (k * 6 + 5) (by rw [Array.getElem?_setIfInBounds_self_of_lt]; have := hm6; rw [cell_of_row _ _ _ _ _ _ (blk_keep HGB.out HU.out (fun e => e))] at this; exact (Array.getElem?_eq_some_iff.1 this).1)
     have hp3 := blk_cell HB36.out 5 (v := .slice A ms.length c5) rfl
     have hw3s : u1.heap.size ≤ w3.heap.size := hst.size
     have HP3 := Lh hpq3
     clear hw3 hst HUg hm5 hm6 hf6 hbx hpm hpq3
     go_wp2_with fail
     go_loopw [51] (fun iv wr => ∃ j : Nat, j ≤ ms.length ∧ iv = .int .i64 j ∧ Hid (OwnL (msgT J (From w3.heap.size)) v.heap.size 29 1 wr (.slice RM ms.length dm) (tg j ms)) ∧ Hid (Chg (fun b => (Value.slice RM ms.length dm).ownBlock = some b) w3 wr)) (fun iv _ => ms.length - (intOf iv).toNat)
     case atStart => exact ⟨0, Nat.zero_le _, rfl, Lh (tg_zero HM3.out (fun a vs h => h)), Lh (Chg.refl _ _)⟩
     case round =>
      obtain ⟨j, hj, rfl, HOm, HGm⟩ := hrel
      have hgo : ∀ q, (Value.slice RM ms.length dm).ownBlock = some q → v.heap.size ≤ q ∧ q < w3.heap.size := fun q e => HM3.out.ge e
      have hs3 := HGm.out.size
      by_cases hlj : j < ms.length
      ·obtain ⟨gm, cap, cur, e1, hBm, hgbm, r1, r2, r3, hat⟩ := HOm.out.shape (by rw [tg_len]; omega)
       injection e1 with e1 e2 e3
       clear e2
       subst e1 e3
       have hgm := hgo gm rfl
       obtain ⟨l7, hl7⟩ : ∃ a, ms[j]? = some a := ⟨_, List.getElem?_eq_getElem hlj⟩
       have hltj : decide ((j : Int) < (ms.length : Int)) = true := by simpa using hlj
       obtain ⟨bm, om, vs7, rfl, hJm, hvl7, hrg7, h7, rfl, ⟨A7, c7, rfl, hc7, hcm7, hr7, _⟩, hlen7⟩ := (HR3.out.keep HGm.out (fun b e e2 => by have := hJb b e; have := (hgo b e2).1; omega) (fun a vs _ h => h.keep HGm.out (fun b e e2 => by have := hJb b e; have := (hgo b e2).1; omega))) j l7 hl7
       have hq7 : wr.cell? ⟨bm, om + j, none⟩ = some (.slice A7 l7.length c7) := by have := hrg7 0 _ rfl; simpa using this
       obtain ⟨vs8, hvl8, hrg8, hR8⟩ := hat j (l7, false) (by rw [tg_get, hl7]; simp)
       obtain ⟨h8, rfl, _⟩ := (show msgV J wr l7 vs8 from hR8)
       have hm7 : wr.cell? ⟨gm, j, none⟩ = some h8 := by have := hrg8 0 _ rfl; simpa using this
       have HTS := Lh (tg_set hl7)
       have HL7 := Lh hl7
       clear hat hR8 r1 r2 r3 hl7 hrg8 hrg7
       go_wp2_with fail
       obtain ⟨v', hv'⟩ : ∃ x, x = wr.drew := ⟨_, rfl⟩
       have hgv' : Chg Non wr v' := by rw [hv']; exact (Chg.refl _ _).drew
       have hbx : v'.cell? ⟨w.heap.size, 2, none⟩ = some (.slice (some ⟨g, 0, none⟩) s.queues.length d2) := blk_cell (blk_keep (blk_keep HB3.out HGm.out (fun e => by have := (hgo _ e).1; omega)) hgv' (fun e => e)) 2 rfl
       have hneb : ¬ (⟨w.heap.size, 2, none⟩ : Addr).block = gm := fun e => by simp only at e; omega
       have hneq : ¬ (⟨g, k * 6 + 5, none⟩ : Addr).block = gm := fun e => by simp only at e; omega
       have hpq : v'.cell? ⟨g, k * 6 + 5, none⟩ = some (.slice (some ⟨gm, 0, none⟩) ms.length dm) := hgv'.cell_some (HGm.out.cell_some HP3.out (fun e => by have := (hgo _ e).1; simp only at this; omega)) (fun e => e)
       have HGB7 := Lh (blk_keep hgbm hgv' (fun e => e))
       have HR7 := Lh (hr7.non hgv')
       have hm7 : v'.cell? ⟨gm, j, none⟩ = some h8 := hgv'.cell_some hm7 (fun e => e)
       have HGV7 := Lh hgv'
       have hv's := hgv'.size
       refine wp_region_held_drew (S := Chg (fun b => b = gm) wr.drew) (by kernel_rfl) (Chg.refl _ _) (fun hHeld => ?_)
       clear hHeld
       rw [← hv']
       clear hv' hgbm hr7 hgv' hq7
       refine hp 0 56 (.pointer (some ⟨w.heap.size, 2, none⟩)) rfl (Chg.refl _ _) ?_
       refine hp 1 57 (.slice (some ⟨g, 0, none⟩) s.queues.length d2) rfl (Chg.refl _ _) ?_ (he := (fun W hW => by have hc := hW.cell_some hbx hneb; go_simp))
       refine hp 2 58 (.int .i64 k) rfl (Chg.refl _ _) ?_
       refine hp 3 59 (.pointer (some ⟨g, k * 6, none⟩)) rfl (Chg.refl _ _) ?_
       refine hp 4 60 (.pointer (some ⟨g, k * 6 + 5, none⟩)) rfl (Chg.refl _ _) ?_
       refine hp 5 61 (.slice (some ⟨gm, 0, none⟩) ms.length dm) rfl (Chg.refl _ _) ?_ (he := (fun W hW => by have hc := hW.cell_some hpq hneq; go_simp))
       refine hp 6 62 (.int .i64 j) rfl (Chg.refl _ _) ?_
       refine hp 7 63 (.slice A7 l7.length c7) rfl (Chg.refl _ _) ?_
       refine h1o 8 rfl ?_
       intro K hK
       go_simp
       refine (SlClone_ok A7 l7 c7 v' HR7.out (by omega)).mono ?_
       rintro e u2 ⟨A8, c8, rfl, q1, q2, q3, q4⟩
       have HQ8 := Lh q3
       have HU8 := Lh q4
       have HUg8 := Lh (Chg.of_non q4 : Chg (fun b => b = gm) v' u2)
       have hm8 : u2.cell? ⟨gm, j, none⟩ = some h8 := q4.cell_some hm7 (fun e => e)
       have hf8 : u2.frozen? ⟨gm, j, none⟩ = false := by have h := blk_keep HGB7.out q4 (fun e => e); exact blk_free h _
       clear q3 q4
       refine hK.out _ _ HUg8.out (fun _ => ?_)
       clear hK K
       try simp only [Act.put, sA, sB, sC]
       refine hp 9 65 (.pointer (some ⟨gm, j, none⟩)) rfl HUg8.out ?_
       refine h1o 10 rfl ?_
       intro K hK
       go_simp
       refine hK.out _ _ (HUg8.out.trans_same (chg_set u2 gm j (.slice A8 l7.length c8))) (fun _ => ?_)
       clear hK K
       try simp only [Act.put, sA, sB, sC]
       refine hdn ?_ _
       have hst := chg_set u2 gm j (.slice A8 l7.length c8)
       have HU9 := Lh (HGV7.out.then_non HU8.out)
       have hsu := HU9.out.size
       have HOn : Hid (OwnL (msgT J (From w3.heap.size)) v.heap.size 29 1 (u2.setCell ⟨gm, j, none⟩ (.slice A8 l7.length c8)) (.slice (some ⟨gm, 0, none⟩) ms.length dm) (tg (j + 1) ms)) := Lh (by
         rw [← HTS.out]
         have ej : j * 1 + 0 = j := by omega
         have := OwnL.cell (R' := msgT J (From w3.heap.size)) (i := j) (j := 0) (a := (l7, false)) (a' := (l7, true)) (u := .slice A8 l7.length c8) (HOm.out.non HU9.out (fun a vs h => h.keep HU9.out (fun _ _ e => e) (fun _ _ e => e))) (by rw [tg_get, HL7.out]; simp) (by omega) (by
           rw [ej]
           exact fun a vs h => h.keep hst (fun b e e2 => by have := hJb b e; omega) (fun b e e2 => by have : w3.heap.size ≤ b := e; omega)) (by
           rw [ej]
           intro vs hvl h
           obtain ⟨m, rfl, _⟩ := (show msgV J u2 l7 vs from h)
           exact ⟨_, rfl, (own_bytes ((HQ8.out.mono (by omega)).keep hst (fun b o e1 e2 e3 e4 => by omega)) q1 q2 : BytesV (From w3.heap.size) _ _ _), hlen7⟩)
         rw [ej] at this
         exact this)
       have HGn : Hid (Chg (fun b => (Value.slice (some ⟨gm, 0, none⟩) ms.length dm).ownBlock = some b) w3 (u2.setCell ⟨gm, j, none⟩ (.slice A8 l7.length c8))) := Lh ((HGm.out.then_non HU9.out).trans_same (hst.mono (fun x e => by subst e; rfl)))
       clear HUg8 hst hm7 hm8 hf8 hbx hpq
       go_wp2_with fail
       exact ⟨⟨j + 1, by omega, by simp, HOn, HGn⟩, by simp [intOf]; omega⟩
      ·obtain rfl : j = ms.length := by omega
       have hltj : decide ((ms.length : Int) < (ms.length : Int)) = false := by simp
       have HOM9 := Lh (tg_all (R' := msgV (From w3.heap.size)) HOm.out (fun a vs h => h))
       have HOE : Hid (OwnL (quT J (From v0.heap.size)) (w.heap.size + 2) 110 6 wr (.slice (some ⟨g, 0, none⟩) s.queues.length d2) (tg (k + 1) s.queues)) := Lh (by
         refine flux_out HA.out (HOF.out.keep HGm.out (fun q e e2 => by
           have h1 := (hgo _ e2).1
           have : g = q := by simpa [Value.ownBlock] using e
           omega) ?_) (fun x vs h => h.mono (fun b e => e.1)) ?_
         · intro x vs h
           obtain ⟨x, t⟩ := x
           cases t with
           | true => exact h
           | false => exact quT.keep (show quT J _ w3 x vs from h) HGm.out (fun b e e2 => by have := hJb b e; have := (hgo b e2).1; omega) (fun b e e2 => by have := (hgo b e2).1; have := e.2; omega)
         · rintro vs rfl
           obtain ⟨A9, c9, e9, h91, h92, h93⟩ := HOM9.out.rd
           exact ⟨_, rfl, ⟨A9, c9, e9, h91, h92, h93.mono (fun b e => by have h1 := (hgo b e).1; exact Nat.le_trans (by omega) h1) (fun a vs _ h => h.mono (fun b e => by have : w3.heap.size ≤ b := e; exact Nat.le_trans (by omega) this))⟩, HBD.out, hl5⟩)
       have HGE : Hid (Chg (fun b => (Value.slice (some ⟨g, 0, none⟩) s.queues.length d2).ownBlock = some b) v0 wr) := Lh ((HGr.out.trans_same (HG3.out.mono (fun x e => by subst e; rfl))).then_new HGm.out (fun x e => by have := (hgo x e).1; omega))
       go_wp2_with fail
       exact ⟨⟨k + 1, by omega, by simp, HOE, HGE⟩, by simp [intOf]; omega⟩
    ·obtain rfl : k = s.queues.length := by omega
     have hltd : decide ((s.queues.length : Int) < (s.queues.length : Int)) = false := by simp
     have HBe := Lh (blk_keep HB1d.out HGr.out (fun e => by have := (HQ0.out.ge e).1; omega))
     have hgo2 : ∀ g, (Value.slice R2 s.queues.length d2).ownBlock = some g → w.heap.size + 2 ≤ g ∧ g < v0.heap.size := fun g e => HQ0.out.ge e
     have y0 := blk_cell HBr.out 0 (v := .int .i64 s.frames) rfl
     have y1 := blk_cell HBr.out 1 (v := .slice R1 s.parts.length d1) rfl
     have y2 := blk_cell HBr.out 2 (v := .slice R2 s.queues.length d2) rfl
     go_wp2_with (refine sel none (.store 25 (.tmp 2) (.tmp 68)) ?_
                  refine wpList_store_rowA rfl 25 (.tmp 2) (.tmp 68) rfl (w.heap.size + 1) #[.int .i64 s.frames, .slice R1 s.parts.length d1, .slice R2 s.queues.length d2] rfl rfl 25 _ HBe.out (by kernel_rfl) rfl (by simp [Value.oneCell']) ?_
                  intro W hgW hbW)
     have hA : Chg (fun b => b = w.heap.size + 1 ∨ (Value.slice R2 s.queues.length d2).ownBlock = some b) v0 W := (HGr.out.mono (fun x e => .inr e)).trans_same (hgW.mono (fun x e => .inl e))
     refine bodyPost_ret (res_c Tryz.results149 _ _ (w.heap.size + 1) 25 _ (0, 0) _ rfl hbW Tryz.underlying25 rfl (by kernel_rfl)) (by kernel_rfl) ⟨_, _, rfl, ⟨?_, ?_⟩, ⟨wp0, hwp1, hR1, ?_⟩, HG4.out.then_new hA (fun x e => ?_)⟩
     ·refine OwnL.mono ((HP9.out.keep hA (fun g e e2 => ?_) (fun a vs h => h.keep hA (fun b e e2 => ?_))).base (by omega)) (fun a vs h => h.mono (fun b e => e.1))
      ·have h1 := HP9.out.ge e
       have h2 := hR1 g e
       rcases e2 with e2 | e2
       ·omega
       ·have := hR2 g e2; omega
      ·rcases e2 with e2 | e2
       ·have := e.2.1; omega
       ·have := hR2 b e2; have := e.2.2; omega
     ·refine OwnL.mono (R := quV (From v0.heap.size)) ((OwnL.keep (tg_all HO.out (fun a vs h => h)) hgW (fun g e e2 => by have := (hgo2 g e).1; omega) (fun a vs h => h.keep hgW (fun b e e2 => by have : v0.heap.size ≤ b := e; omega))).base (by omega)) (fun a vs h => h.mono (fun b e => ⟨?_, fun e2 => ?_⟩))
      ·have : v0.heap.size ≤ b := e
       omega
      ·have : v0.heap.size ≤ b := e
       have := (hgo2 b e2).2
       omega
     ·have hOq := OwnL.keep (tg_all (R' := quV (From v0.heap.size)) HO.out (fun a vs h => h)) hgW (fun g e e2 => by have := (hgo2 g e).1; omega) (fun a vs h => h.keep hgW (fun b e e2 => by have : v0.heap.size ≤ b := e; omega))
      obtain ⟨Aq, cq, eq, eq1, eq2, eq3⟩ := hOq.rd
      exact ⟨Aq, cq, eq, eq1, eq2, eq3.mono (fun b e => hR2 b e) (fun a vs _ h => h.mono (fun b e => by have : v0.heap.size ≤ b := e; show wp0 ≤ b; omega))⟩
     ·rcases e with e | e
      ·omega
      ·have := (hgo2 x e).1; omega
end
end Go.Proofs.YtkgnlobabknkcaaGreat
