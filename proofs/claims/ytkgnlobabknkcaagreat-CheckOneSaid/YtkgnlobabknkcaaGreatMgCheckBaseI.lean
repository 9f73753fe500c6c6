/- CheckBase, part 9 of 21: contracts of the functions that it reaches, and the laws that they need, merged and shortened (from my texts XCkD, XCkP, XWrN, XEqA, XEqf, XStL). -/
import Derived.Test.YtkgnlobabknkcaaGreatMgCheckBaseA
import Derived.Test.YtkgnlobabknkcaaGreatMgCheckBaseB
import Derived.Test.YtkgnlobabknkcaaGreatMgCheckBaseC
import Derived.Test.YtkgnlobabknkcaaGreatMgCheckBaseH
import Derived.DeepKeys
import Derived.ChangeSlices
import Derived.Laws.StructEq
import Derived.OpenShut
namespace Go.Proofs.YtkgnlobabknkcaaGreat
set_option linter.unusedVariables false
set_option linter.unusedSimpArgs false
set_option maxHeartbeats 8000000
section
theorem dirty_mem {m : List (Nat × List UInt8)} {i : Nat} : i ∈ dirty m ↔ ∃ p ∈ m, p.1 = i := by
 unfold dirty
 rw [(List.mergeSort_perm _ _).mem_iff, List.mem_map]
theorem dirty_len (m : List (Nat × List UInt8)) : (dirty m).length = m.length := by
 unfold dirty
 rw [(List.mergeSort_perm _ _).length_eq, List.length_map]
theorem lookN {m : List (Nat × List UInt8)} {i : Nat} (h : ∀ p ∈ m, p.1 ≠ i) : look m i = none := by
 unfold look
 rw [List.find?_eq_none.2 (fun p hp => by simpa using h p hp)]
 rfl
theorem look_key {m : List (Nat × List UInt8)} {i : Nat} (h : ∃ p ∈ m, p.1 = i) : ∃ l, look m i = some l := by
 obtain ⟨p, hp, e⟩ := h
 unfold look
 cases hf : m.find? (fun p => p.1 == i) with
 | none => exact absurd (List.find?_eq_none.1 hf p hp) (by simp [e])
 | some q => exact ⟨q.2, rfl⟩
theorem upd_key {m : List (Nat × List UInt8)} {i : Nat} {l : List UInt8} {p : Nat × List UInt8} (h : p ∈ upd m i l) : p.1 = i ∨ p ∈ m := by
 unfold upd at h
 split at h
 ·obtain ⟨q, hq, e⟩ := List.mem_map.1 h
  by_cases hi : (q.1 == i) = true
  ·rw [if_pos hi] at e
   left; rw [← e]
  ·rw [if_neg hi] at e
   right; rw [← e]; exact hq
 ·rcases List.mem_append.1 h with h | h
  ·exact .inr h
  ·left; simp at h; rw [h]
theorem look_upd (m : List (Nat × List UInt8)) (i j : Nat) (l : List UInt8) : look (upd m i l) j = if j = i then some l else look m j := by
 unfold upd
 split
 ·rename_i hs
  unfold look
  rw [List.find?_map]
  by_cases hj : j = i
  ·subst hj
   rw [if_pos rfl]
   have he : ((fun p : Nat × List UInt8 => p.1 == j) ∘ fun p : Nat × List UInt8 => if (p.1 == j) = true then (j, l) else p) = fun p => p.1 == j := by
    funext p
    simp only [Function.comp]
    by_cases hp : (p.1 == j) = true
    ·rw [if_pos hp]; simp [hp]
    ·rw [if_neg hp]
   rw [he]
   obtain ⟨q, hq⟩ := Option.isSome_iff_exists.1 hs
   have hqj := List.find?_some hq
   rw [hq]
   simp only [Option.map_some, hqj, if_true]
  ·rw [if_neg hj]
   have he : ((fun p : Nat × List UInt8 => p.1 == j) ∘ fun p : Nat × List UInt8 => if (p.1 == i) = true then (i, l) else p) = fun p => p.1 == j := by
    funext p
    simp only [Function.comp]
    by_cases hp : (p.1 == i) = true
    ·rw [if_pos hp]
     have : p.1 = i := by simpa using hp
     rw [this]
    ·rw [if_neg hp]
   rw [he]
   cases hf : m.find? (fun p => p.1 == j) with
   | none => rfl
   | some q =>
    have hqj : q.1 = j := by simpa using List.find?_some hf
    simp only [Option.map_some]
    rw [if_neg (by rw [hqj]; simpa using hj)]
 ·rename_i hs
  have hn : m.find? (fun p => p.1 == i) = none := by
   cases hq : m.find? (fun p => p.1 == i) with
   | none => rfl
   | some q => rw [hq] at hs; simp at hs
  unfold look
  rw [List.find?_append]
  by_cases hj : j = i
  ·subst hj
   rw [hn, if_pos rfl]
   simp
  ·rw [if_neg hj]
   have : [(i, l)].find? (fun p => p.1 == j) = none := by simp; omega
   rw [this, Option.or_none]
namespace Dk
theorem spillTo_len (D : Dk) (st : Nat → Bool) : ∀ n, (D.spillTo st n).length = D.sec.length
 | 0 => rfl
 | n + 1 => by
  unfold spillTo
  split
  ·split
   ·rw [List.length_set, spillTo_len D st n]
   ·exact spillTo_len D st n
  ·exact spillTo_len D st n
theorem spillTo_or (D : Dk) (st : Nat → Bool) (i : Nat) : ∀ n, (D.spillTo st n).getD i [] = D.sec.getD i [] ∨ ((∃ p ∈ D.cache, p.1 = i) ∧ (D.spillTo st n).getD i [] = (look D.cache i).getD [])
 | 0 => .inl rfl
 | n + 1 => by
  have ih := spillTo_or D st i n
  unfold spillTo
  split
  ·rename_i k hk
   split
   ·by_cases hki : k = i
    ·subst hki
     have hm : ∃ p ∈ D.cache, p.1 = k := dirty_mem.1 (List.mem_of_getElem? hk)
     by_cases hl : k < (D.spillTo st n).length
     ·refine .inr ⟨hm, ?_⟩
      simp [List.getD, List.getElem?_set, hl]
     ·refine .inl ?_
      rw [spillTo_len] at hl
      rw [List.getD, List.getD, List.getElem?_eq_none (by rw [List.length_set, spillTo_len]; omega), List.getElem?_eq_none (by omega)]
    ·have e : ((D.spillTo st n).set k ((look D.cache k).getD [])).getD i [] = (D.spillTo st n).getD i [] := by
      simp only [List.getD, List.getElem?_set, if_neg hki]
     rw [e]; exact ih
   ·exact ih
  ·exact ih
theorem spillTo_not (D : Dk) (st : Nat → Bool) (i n : Nat) (h : ∀ p ∈ D.cache, p.1 ≠ i) : (D.spillTo st n).getD i [] = D.sec.getD i [] := by
 rcases D.spillTo_or st i n with h1 | ⟨⟨p, hp, e⟩, _⟩
 ·exact h1
 ·exact absurd e (h p hp)
theorem spillTo_all (D : Dk) (i : Nat) (hi : i < D.sec.length) : ∀ n, (∃ m, m < n ∧ (dirty D.cache)[m]? = some i) → (D.spillTo (fun _ => true) n).getD i [] = (look D.cache i).getD []
 | 0, h => by obtain ⟨m, h, _⟩ := h; omega
 | n + 1, ⟨m, hm, hk⟩ => by
  unfold spillTo
  by_cases hmn : m = n
  ·subst hmn
   rw [hk]
   simp only [if_true]
   simp [List.getD, List.getElem?_set, spillTo_len, hi]
  ·have ih := spillTo_all D i hi n ⟨m, by omega, hk⟩
   split
   ·rename_i k hk2
    simp only [if_true]
    by_cases hki : k = i
    ·subst hki
     simp [List.getD, List.getElem?_set, spillTo_len, hi]
    ·have e : ((D.spillTo (fun _ => true) n).set k ((look D.cache k).getD [])).getD i [] = (D.spillTo (fun _ => true) n).getD i [] := by
      simp only [List.getD, List.getElem?_set, if_neg hki]
     rw [e]; exact ih
   ·exact ih
theorem spill_at (D : Dk) (i : Nat) (hi : i < D.sec.length) : (D.spill fun _ => true).sec.getD i [] = D.at_ i := by
 show (D.spillTo (fun _ => true) D.cache.length).getD i [] = _
 unfold at_
 by_cases h : ∃ p ∈ D.cache, p.1 = i
 ·obtain ⟨m, hm⟩ := List.getElem?_of_mem (dirty_mem.2 h)
  have hl := (List.getElem?_eq_some_iff.1 hm).1
  rw [dirty_len] at hl
  rw [D.spillTo_all i hi _ ⟨m, hl, hm⟩]
  obtain ⟨l, hl⟩ := look_key h
  rw [hl]; rfl
 ·have h' : ∀ p ∈ D.cache, p.1 ≠ i := fun p hp e => h ⟨p, hp, e⟩
  rw [spillTo_not _ _ _ _ h', lookN h']; rfl
theorem at_nil {D : Dk} (h : D.cache = []) (i : Nat) : D.at_ i = D.sec.getD i [] := by
 unfold at_; rw [h]; rfl
end Dk
def ckC (c : List (Nat × List UInt8)) (s : Nat) (blk : Nat → List UInt8) : Nat → List (Nat × List UInt8)
 | 0 => c
 | k + 1 => upd (ckC c s blk k) (s + k) (blk k)
theorem ckC_key {s : Nat} {blk : Nat → List UInt8} : ∀ {k : Nat} {p}, p ∈ ckC [] s blk k → s ≤ p.1 ∧ p.1 < s + k
 | 0, p, h => by simp [ckC] at h
 | k + 1, p, h => by
  rcases upd_key h with h | h
  ·omega
  ·have := ckC_key h; omega
theorem ckC_look (s : Nat) (blk : Nat → List UInt8) (i : Nat) : ∀ k, look (ckC [] s blk k) i = if s ≤ i ∧ i < s + k then some (blk (i - s)) else none
 | 0 => by
  rw [if_neg (by omega)]; rfl
 | k + 1 => by
  unfold ckC
  rw [look_upd, ckC_look s blk i k]
  by_cases h : i = s + k
  ·subst h
   rw [if_pos rfl, if_pos (by omega)]
   congr 2; omega
  ·rw [if_neg h]
   by_cases h2 : s ≤ i ∧ i < s + k
   ·rw [if_pos h2, if_pos (by omega)]
   ·rw [if_neg h2, if_neg (by omega)]
def ckW (s : Nat) (blk : Nat → List UInt8) (D : Dk) : Nat → Dk × Int
 | 0 => (D, 0)
 | k + 1 => if (ckW s blk D k).2 = 0 then (ckW s blk D k).1.write ((s + k : Nat) : Int) (blk k) else ckW s blk D k
def ckPut (p : Nat) (blk : Nat → List UInt8) (h : List UInt8) (D : Dk) : Dk × Int :=
 let a := ckW (132 + 96 * p) blk D 95
 if a.2 ≠ 0 then a else
 let b := a.1.flush
 if b.2 ≠ 0 then b else
 let c := b.1.write ((131 + 96 * p : Nat) : Int) h
 if c.2 ≠ 0 then c else c.1.flush
theorem ckW_goes {s : Nat} {blk : Nat → List UInt8} {D : Dk} (hup : D.up = true) (hb : ∀ k, (blk k).length = 64) (hc : D.cache = []) : ∀ k, s + k ≤ D.sec.length → (D.left = 0 ∨ (k : Int) < D.left) →
  ckW s blk D k = ({ D with cache := ckC [] s blk k, left := max (D.left - k) 0 }, 0)
 | 0, _, h => by
  unfold ckW ckC
  have : max (D.left - ((0 : Nat) : Int)) 0 = D.left := by omega
  rw [this]
  obtain ⟨u, sc, ca, lf, sy⟩ := D
  simp only at hc
  subst hc
  rfl
 | k + 1, hs, h => by
  have ih := ckW_goes (s := s) hup hb hc k (by omega) (by omega)
  unfold ckW
  rw [ih]
  simp only [if_true]
  unfold Dk.write
  simp only [hup]
  have hs' : ¬ ¬ (0 ≤ ((s + k : Nat) : Int) ∧ ((s + k : Nat) : Int) < (D.sec.length : Int)) := by omega
  rw [if_neg (by simp), if_neg hs', if_neg (by simpa using hb k)]
  unfold Dk.operate
  simp only
  rw [if_neg (by omega)]
  have e : max (max (D.left - (k : Int)) 0 - 1) 0 = max (D.left - ((k + 1 : Nat) : Int)) 0 := by omega
  simp only [e, Int.toNat_natCast]
  rfl
structure Fell (D F : Dk) (s n : Nat) : Prop where
 up : F.up = false
 cache : F.cache = []
 left : F.left = 0
 stay : F.stay = []
 len : F.sec.length = D.sec.length
 secs : ∀ i, ¬ (s ≤ i ∧ i < s + n) → F.sec.getD i [] = D.sec.getD i []
theorem ckW_falls {s : Nat} {blk : Nat → List UInt8} {D : Dk} (hup : D.up = true) (hb : ∀ k, (blk k).length = 64) (hc : D.cache = []) (k : Nat) (hs : s + k ≤ D.sec.length) (h1 : 1 ≤ D.left) (hk : D.left ≤ k) (n : Nat) (hn : k ≤ n) :
  (ckW s blk D k).2 = 60 ∧ Fell D (ckW s blk D k).1 s n := by
 induction k with
 | zero => omega
 | succ k ih =>
  by_cases hk' : D.left ≤ k
  ·have ih := ih (by omega) hk' (by omega)
   unfold ckW
   rw [if_neg (by rw [ih.1]; omega)]
   exact ih
  ·have hg := ckW_goes (s := s) hup hb hc k (by omega) (by omega)
   unfold ckW
   rw [hg]
   simp only [if_true]
   unfold Dk.write
   simp only [hup]
   have hs' : ¬ ¬ (0 ≤ ((s + k : Nat) : Int) ∧ ((s + k : Nat) : Int) < (D.sec.length : Int)) := by omega
   rw [if_neg (by simp), if_neg hs', if_neg (by simpa using hb k)]
   unfold Dk.operate
   simp only
   rw [if_pos (by omega)]
   refine ⟨rfl, rfl, rfl, rfl, rfl, Dk.spillTo_len _ _ _, fun i hi => ?_⟩
   exact Dk.spillTo_not _ _ i _ (fun p hp => by have := ckC_key hp; omega)
structure Done (D F : Dk) (p : Nat) (blk : Nat → List UInt8) (h : List UInt8) : Prop where
 up : F.up = true
 cache : F.cache = []
 left : F.left = max (D.left - 98) 0
 stay : F.stay = D.stay
 len : F.sec.length = D.sec.length
 head : F.sec.getD (131 + 96 * p) [] = h
 body : ∀ k, k < 95 → F.sec.getD (132 + 96 * p + k) [] = blk k
 secs : ∀ i, ¬ (131 + 96 * p ≤ i ∧ i < 227 + 96 * p) → F.sec.getD i [] = D.sec.getD i []
theorem ckPut_all {p : Nat} {blk : Nat → List UInt8} {h : List UInt8} {D : Dk} (hup : D.up = true) (hb : ∀ k, (blk k).length = 64) (hh : h.length = 64) (hc : D.cache = []) (hs : 227 + 96 * p ≤ D.sec.length) (h0 : 0 ≤ D.left) :
  (1 ≤ D.left ∧ D.left ≤ 97 ∧ (ckPut p blk h D).2 = 60 ∧ Fell D (ckPut p blk h D).1 (132 + 96 * p) 95) ∨
  (D.left = 98 ∧ (ckPut p blk h D).2 = 60 ∧ Fell D (ckPut p blk h D).1 (131 + 96 * p) 96 ∧ (∀ k, k < 95 → (ckPut p blk h D).1.sec.getD (132 + 96 * p + k) [] = blk k) ∧
    ((ckPut p blk h D).1.sec.getD (131 + 96 * p) [] = D.sec.getD (131 + 96 * p) [] ∨ (ckPut p blk h D).1.sec.getD (131 + 96 * p) [] = h)) ∨
  ((D.left = 0 ∨ 99 ≤ D.left) ∧ (ckPut p blk h D).2 = 0 ∧ Done D (ckPut p blk h D).1 p blk h) := by
 by_cases h95 : 1 ≤ D.left ∧ D.left ≤ 95
 ·have hf := ckW_falls (s := 132 + 96 * p) (blk := blk) hup hb hc 95 (by omega) h95.1 (by omega) 95 (by omega)
  refine .inl ⟨h95.1, by omega, ?_⟩
  have e : ckPut p blk h D = ckW (132 + 96 * p) blk D 95 := by
   unfold ckPut
   rw [if_pos (by rw [hf.1]; omega)]
  rw [e]; exact hf
 have hg := ckW_goes (s := 132 + 96 * p) hup hb hc 95 (by omega) (by omega)
 -- the first flush
 obtain ⟨C, hC⟩ : ∃ C, ckC [] (132 + 96 * p) blk 95 = C := ⟨_, rfl⟩
 have hCk : ∀ q ∈ C, 132 + 96 * p ≤ q.1 ∧ q.1 < 132 + 96 * p + 95 := by rw [← hC]; exact fun q hq => ckC_key hq
 have hCl : ∀ i, look C i = if 132 + 96 * p ≤ i ∧ i < 132 + 96 * p + 95 then some (blk (i - (132 + 96 * p))) else none := by rw [← hC]; exact fun i => ckC_look _ _ i 95
 rw [hC] at hg
 by_cases h96 : D.left = 96
 ·have e : ckPut p blk h D = (({ D with cache := C, left := 1 } : Dk).fall D.stay, 60) := by
   have hfl : ({ D with cache := C, left := max (D.left - ((95 : Nat) : Int)) 0 } : Dk).flush = (({ D with cache := C, left := 1 } : Dk).fall D.stay, 60) := by
    unfold Dk.flush Dk.operate
    simp only [hup]
    rw [if_neg (by simp), if_pos (by omega), h96]
    rfl
   unfold ckPut
   rw [hg]
   simp only [ne_eq, not_true, if_false]
   rw [hfl]
   rfl
  refine .inl ⟨by omega, by omega, by rw [e], ?_⟩
  rw [e]
  exact ⟨rfl, rfl, rfl, rfl, Dk.spillTo_len _ _ _, fun i hi => Dk.spillTo_not _ _ i _ (fun q hq => by have := hCk q hq; omega)⟩
 -- behind it
 obtain ⟨E, hE⟩ : ∃ E : Dk, ({ D with cache := C, left := max (D.left - 96) 0 } : Dk).spill (fun _ => true) = E := ⟨_, rfl⟩
 have hEup : E.up = true := by rw [← hE]; exact hup
 have hEc : E.cache = [] := by rw [← hE]; rfl
 have hEl : E.left = max (D.left - 96) 0 := by rw [← hE]; rfl
 have hEs : E.stay = D.stay := by rw [← hE]; rfl
 have hElen : E.sec.length = D.sec.length := by rw [← hE]; exact Dk.spillTo_len _ _ _
 have hEb : ∀ k, k < 95 → E.sec.getD (132 + 96 * p + k) [] = blk k := fun k hk => by
  rw [← hE, Dk.spill_at _ _ (by show 132 + 96 * p + k < D.sec.length; omega)]
  unfold Dk.at_
  simp only [hCl, if_pos (show 132 + 96 * p ≤ 132 + 96 * p + k ∧ 132 + 96 * p + k < 132 + 96 * p + 95 by omega), Option.getD_some, Nat.add_sub_cancel_left]
 have hEo : ∀ i, ¬ (132 + 96 * p ≤ i ∧ i < 132 + 96 * p + 95) → E.sec.getD i [] = D.sec.getD i [] := fun i hi => by
  rw [← hE]
  exact Dk.spillTo_not _ _ i _ (fun q hq => by have := hCk q hq; omega)
 have e2 : ckPut p blk h D = (let c := E.write ((131 + 96 * p : Nat) : Int) h; if c.2 ≠ 0 then c else c.1.flush) := by
  unfold ckPut
  rw [hg]
  simp only [ne_eq, not_true, if_false]
  have hfl : ({ D with cache := C, left := max (D.left - ((95 : Nat) : Int)) 0 } : Dk).flush = (E, 0) := by
   unfold Dk.flush Dk.operate
   simp only [hup]
   rw [if_neg (by simp), if_neg (by omega), ← hE]
   have : max (max (D.left - ((95 : Nat) : Int)) 0 - 1) 0 = max (D.left - 96) 0 := by omega
   rw [this, hup]
  rw [hfl]
  simp only [ne_eq, not_true, if_false]
 clear hE hg hC hCk hCl
 have hw : E.write ((131 + 96 * p : Nat) : Int) h = E.operate fun D => { D with cache := upd D.cache (131 + 96 * p) h } := by
  unfold Dk.write
  simp only [hEup]
  have hs' : ¬ ¬ (0 ≤ ((131 + 96 * p : Nat) : Int) ∧ ((131 + 96 * p : Nat) : Int) < (E.sec.length : Int)) := by omega
  rw [if_neg (by simp), if_neg hs', if_neg (by simpa using hh)]
  rfl
 by_cases h97 : D.left = 97
 ·have e : ckPut p blk h D = (E.fall E.stay, 60) := by
   have hw2 : E.write ((131 + 96 * p : Nat) : Int) h = (E.fall E.stay, 60) := by
    rw [hw]
    unfold Dk.operate
    rw [if_pos (by omega)]
   rw [e2, hw2]
   rfl
  refine .inl ⟨by omega, by omega, by rw [e], ?_⟩
  rw [e]
  refine ⟨rfl, rfl, rfl, rfl, (Dk.spillTo_len _ _ _).trans hElen, fun i hi => ?_⟩
  have : (E.spillTo (Dk.bit E.stay) E.cache.length).getD i [] = E.sec.getD i [] := Dk.spillTo_not _ _ i _ (fun q hq => by rw [hEc] at hq; simp at hq)
  exact this.trans (hEo i hi)
 obtain ⟨G, hG⟩ : ∃ G : Dk, ({ E with left := max (E.left - 1) 0, cache := upd E.cache (131 + 96 * p) h } : Dk) = G := ⟨_, rfl⟩
 have hGc : G.cache = [(131 + 96 * p, h)] := by rw [← hG, hEc]; rfl
 have hGs : G.sec = E.sec := by rw [← hG]
 have hGl : G.left = max (D.left - 97) 0 := by rw [← hG, hEl]; show max (max (D.left - 96) 0 - 1) 0 = _; omega
 have hGu : G.up = true := by rw [← hG]; exact hEup
 have hGy : G.stay = D.stay := by rw [← hG]; exact hEs
 have e3 : ckPut p blk h D = G.operate fun D => D.spill fun _ => true := by
  have hw2 : E.write ((131 + 96 * p : Nat) : Int) h = (G, 0) := by
   rw [hw]
   unfold Dk.operate
   rw [if_neg (by omega), ← hG]
  rw [e2, hw2]
  simp only [ne_eq, not_true, if_false]
  unfold Dk.flush
  rw [hGu, if_neg (by simp)]
 have hGk : ∀ i, i ≠ 131 + 96 * p → ∀ q ∈ G.cache, q.1 ≠ i := fun i hi q hq => by
  rw [hGc] at hq
  simp at hq
  rw [hq]; exact fun e => hi e.symm
 have hEh : E.sec.getD (131 + 96 * p) [] = D.sec.getD (131 + 96 * p) [] := hEo _ (by omega)
 have hGlook : (look G.cache (131 + 96 * p)).getD [] = h := by rw [hGc]; simp [look]
 clear hw e2 hG
 by_cases h98 : D.left = 98
 ·have e : ckPut p blk h D = (G.fall G.stay, 60) := by
   rw [e3]
   unfold Dk.operate
   rw [if_pos (by omega)]
  refine .inr (.inl ⟨h98, by rw [e], ?_, ?_, ?_⟩)
  ·rw [e]
   refine ⟨rfl, rfl, rfl, rfl, (Dk.spillTo_len _ _ _).trans (by rw [hGs, hElen]), fun i hi => ?_⟩
   have : (G.spillTo (Dk.bit G.stay) G.cache.length).getD i [] = G.sec.getD i [] := Dk.spillTo_not _ _ i _ (hGk i (by omega))
   exact this.trans (by rw [hGs]; exact hEo i (by omega))
  ·intro k hk
   rw [e]
   have : (G.spillTo (Dk.bit G.stay) G.cache.length).getD (132 + 96 * p + k) [] = G.sec.getD (132 + 96 * p + k) [] := Dk.spillTo_not _ _ _ _ (hGk _ (by omega))
   exact this.trans (by rw [hGs]; exact hEb k hk)
  ·rw [e]
   rcases G.spillTo_or (Dk.bit G.stay) (131 + 96 * p) G.cache.length with h1 | ⟨_, h1⟩
   ·exact .inl (h1.trans (by rw [hGs]; exact hEh))
   ·exact .inr (h1.trans hGlook)
 ·have e : ckPut p blk h D = (({ G with left := max (G.left - 1) 0 } : Dk).spill (fun _ => true), 0) := by
   rw [e3]
   unfold Dk.operate
   rw [if_neg (by omega)]
  have hsec : ∀ i, i ≠ 131 + 96 * p → (ckPut p blk h D).1.sec.getD i [] = E.sec.getD i [] := fun i hi => by
   rw [e]
   have : (({ G with left := max (G.left - 1) 0 } : Dk).spillTo (fun _ => true) G.cache.length).getD i [] = G.sec.getD i [] := Dk.spillTo_not _ _ i _ (hGk i hi)
   exact this.trans (by rw [hGs])
  refine .inr (.inr ⟨by omega, by rw [e], ?_, ?_, ?_, ?_, ?_, ?_, ?_, ?_⟩)
  ·rw [e]; exact hGu
  ·rw [e]; rfl
  ·rw [e]
   show max (G.left - 1) 0 = _
   rw [hGl]; omega
  ·rw [e]; exact hGy
  ·rw [e]; exact (Dk.spillTo_len _ _ _).trans (by show G.sec.length = _; rw [hGs, hElen])
  ·rw [e, Dk.spill_at _ _ (by show _ < G.sec.length; rw [hGs, hElen]; omega)]
   show (look G.cache (131 + 96 * p)).getD _ = h
   rw [hGc]; simp [look]
  ·intro k hk
   rw [hsec _ (by omega)]
   exact hEb k hk
  ·intro i hi
   rw [hsec _ (by omega)]
   exact hEo i (by omega)
end
section
open Go.RowKit
structure Ti where
 n : Int
 size : Int
 hash : List UInt8
 sum : Nat
def Ti.form (t : Ti) : List UInt8 := wInt t.n ++ (wInt t.size ++ (t.hash ++ wInt (t.sum : Int)))
def tiFields (m : List UInt8) : Int × Int × List UInt8 × Int × List UInt8 × Int :=
 let a := rdInt m 0
 let b := rdInt a.2.1 a.2.2
 let c := rdTag b.2.1 b.2.2
 let d := rdInt c.2.1 c.2.2
 (a.1, b.1, c.1, d.1, d.2.1, d.2.2)
def sum32 (x : Int) : Nat := (x % 4294967296).toNat
def tiRd (s : List UInt8) : Ti × Bool :=
 let f := tiFields ((openL 3 s).getD [])
 (⟨f.1, f.2.1, f.2.2.1, sum32 f.2.2.2.1⟩, (openL 3 s).isSome && (decide (f.2.2.2.2.2 = 0) && decide (f.2.2.2.2.1 = [])) && decide ((sum32 f.2.2.2.1 : Int) = f.2.2.2.1) && decide (1 ≤ f.1) && decide (1 ≤ f.2.1) && decide (f.2.1 ≤ 6080))
theorem tiFields_split (m : List UInt8) : ∃ x1 l1 e1 x2 l2 e2 x3 l3 e3 x4 l4 e4, rdInt m 0 = (x1, l1, e1) ∧ rdInt l1 e1 = (x2, l2, e2) ∧ rdTag l2 e2 = (x3, l3, e3) ∧ rdInt l3 e3 = (x4, l4, e4) ∧ tiFields m = (x1, x2, x3, x4, l4, e4) :=
 ⟨_, _, _, _, _, _, _, _, _, _, _, _, rfl, rfl, rfl, rfl, rfl⟩
theorem Ti.form_len (t : Ti) (h : t.hash.length = 32) : t.form.length = 56 := by
 unfold Ti.form; simp only [List.length_append, wInt_len, h]
theorem tiRd_seal (t : Ti) (hh : t.hash.length = 32) (h1 : 1 ≤ t.n) (h2 : t.n ≤ 9223372036854775807) (h3 : 1 ≤ t.size) (h4 : t.size ≤ 6080) (h5 : t.sum < 4294967296) : tiRd (sealL 3 t.form) = (t, true) := by
 have hl := t.form_len hh
 have ho : openL 3 (sealL 3 t.form) = some t.form := open_seal 3 _ (by omega)
 obtain ⟨n, size, hash, sum⟩ := t
 simp only at hh h1 h2 h3 h4 h5
 have hf : tiFields (Ti.form ⟨n, size, hash, sum⟩) = (n, size, hash, (sum : Int), [], 0) := by
  have e0 : Ti.form ⟨n, size, hash, sum⟩ = be (u64 n) 8 ++ (be (u64 size) 8 ++ (hash ++ (be (u64 (sum : Int)) 8 ++ []))) := by
   unfold Ti.form; simp only [wInt, List.append_nil]
  have k1 := rdInt_be n (be (u64 size) 8 ++ (hash ++ (be (u64 (sum : Int)) 8 ++ []))) (by omega) h2
  have k2 := rdInt_be size (hash ++ (be (u64 (sum : Int)) 8 ++ [])) (by omega) (by omega)
  have k3 := rdTag_app hash (be (u64 (sum : Int)) 8 ++ []) hh
  have k4 := rdInt_be (sum : Int) [] (by omega) (by omega)
  rw [e0]
  unfold tiFields
  simp only [k1, k2, k3, k4]
 have hs : sum32 (sum : Int) = sum := by unfold sum32; omega
 unfold tiRd
 rw [ho]
 simp only [Option.getD_some, hf, hs, Option.isSome_some, decide_true, Bool.and_self, Bool.true_and, Bool.and_true, h1, h3, h4]
theorem tiRd_zero : (tiRd (List.replicate 64 0)).2 = false := by decide +kernel
theorem flat_congr {α β : Type} {l : List α} {f g : α → List β} (h : ∀ a ∈ l, f a = g a) : l.flatMap f = l.flatMap g := by
 induction l with
 | nil => rfl
 | cons a l ih => rw [List.flatMap_cons, List.flatMap_cons, h a (List.mem_cons_self ..), ih (fun b hb => h b (List.mem_cons_of_mem _ hb))]
def kAll (D : Dk) (p : Nat) : List UInt8 := (List.range 95).flatMap fun k => D.at_ (132 + 96 * p + k)
def kAt (D : Dk) (p : Nat) : Option (Int × List UInt8 × Sta) :=
 let t := tiRd (D.at_ (131 + 96 * p))
 if t.2 = true ∧ t.1.n % 2 = (p : Int) ∧ crcSum ((kAll D p).take t.1.size.toNat) = t.1.sum then (parseS ((kAll D p).take t.1.size.toNat)).map fun s => (t.1.n, t.1.hash, s) else none
def kNum : Option (Int × List UInt8 × Sta) → Int
 | some x => x.1
 | none => 0
def kMax (a b : Option (Int × List UInt8 × Sta)) : Option (Int × List UInt8 × Sta) := if kNum a < kNum b then b else a
def kGet (D : Dk) : Option (Int × List UInt8 × Sta) := kMax (if 0 < kNum (kAt D 0) then kAt D 0 else none) (kAt D 1)
theorem kAt_num {D : Dk} {p : Nat} {x : Int × List UInt8 × Sta} (h : kAt D p = some x) : (tiRd (D.at_ (131 + 96 * p))).2 = true ∧ x.1 = (tiRd (D.at_ (131 + 96 * p))).1.n ∧ x.1 % 2 = (p : Int) ∧ 1 ≤ x.1 := by
 unfold kAt at h
 simp only at h
 split at h
 ·rename_i hc
  obtain ⟨s, _, rfl⟩ := Option.map_eq_some_iff.1 h
  refine ⟨hc.1, rfl, hc.2.1, ?_⟩
  have h1 := hc.1
  unfold tiRd at h1 ⊢
  simp only [Bool.and_eq_true, decide_eq_true_eq] at h1
  exact h1.1.1.2
 ·cases h
theorem kAt_same {D E : Dk} {p : Nat} (h : ∀ i, 131 + 96 * p ≤ i → i < 227 + 96 * p → D.at_ i = E.at_ i) : kAt D p = kAt E p := by
 have h1 : D.at_ (131 + 96 * p) = E.at_ (131 + 96 * p) := h _ (by omega) (by omega)
 have h2 : kAll D p = kAll E p := by
  unfold kAll
  refine flat_congr (fun k hk => ?_)
  have := List.mem_range.1 hk
  exact h _ (by omega) (by omega)
 unfold kAt
 rw [h1, h2]
theorem kAt_zero {D : Dk} {p : Nat} (h : D.at_ (131 + 96 * p) = List.replicate 64 0) : kAt D p = none := by
 unfold kAt
 rw [h]
 simp only [tiRd_zero]
 rw [if_neg (by simp)]
def kWhole (f : List UInt8) : List UInt8 := f ++ List.replicate (6080 - f.length) 0
def kBlk (f : List UInt8) (k : Nat) : List UInt8 := ((kWhole f).drop (64 * k)).take 64
def kBlkN (f : List UInt8) (k : Nat) : List UInt8 := if k < 95 then kBlk f k else List.replicate 64 0
theorem kWhole_len {f : List UInt8} (h : f.length ≤ 6080) : (kWhole f).length = 6080 := by unfold kWhole; rw [List.length_append, List.length_replicate]; omega
theorem kBlk_len {f : List UInt8} (h : f.length ≤ 6080) {k : Nat} (hk : k < 95) : (kBlk f k).length = 64 := by
 unfold kBlk; rw [List.length_take, List.length_drop, kWhole_len h]; omega
theorem kBlkN_len {f : List UInt8} (h : f.length ≤ 6080) (k : Nat) : (kBlkN f k).length = 64 := by
 unfold kBlkN
 split
 ·exact kBlk_len h (by assumption)
 ·simp
theorem chunksB (l : List UInt8) (n : Nat) : ∀ m, l.length = n * m → ((List.range m).flatMap fun k => (l.drop (n * k)).take n) = l := by
 intro m h
 have key : ∀ j, j ≤ m → ((List.range j).flatMap fun k => (l.drop (n * k)).take n) = l.take (n * j) := by
  intro j
  induction j with
  | zero => simp
  | succ j ih =>
   intro hj
   rw [List.range_succ, List.flatMap_append, ih (by omega)]
   simp only [List.flatMap_cons, List.flatMap_nil, List.append_nil]
   rw [Nat.mul_succ, List.take_add]
 rw [key m (Nat.le_refl _), ← h, List.take_length]
def tiOf (n : Int) (hash f : List UInt8) : Ti := ⟨n, f.length, hash, crcSum f⟩
theorem kAt_done {D : Dk} {p : Nat} {n : Int} {hash : List UInt8} {s : Sta} (hs : StBd s) (hm : mayS s = true) (hh : hash.length = 32) (h1 : 1 ≤ n) (h2 : n ≤ 9223372036854775807) (hp : n % 2 = (p : Int))
  (hd : D.at_ (131 + 96 * p) = sealL 3 (tiOf n hash (formS s)).form) (hb : ∀ k, k < 95 → D.at_ (132 + 96 * p + k) = kBlkN (formS s) k) : kAt D p = some (n, hash, s) := by
 obtain ⟨hl1, hl2⟩ := formS_len hs
 have ht := tiRd_seal (tiOf n hash (formS s)) hh h1 h2 (by show (1 : Int) ≤ ((formS s).length : Int); omega) (by show ((formS s).length : Int) ≤ 6080; omega) (crcSum_lt _)
 have ha : kAll D p = kWhole (formS s) := by
  unfold kAll
  rw [← chunksB (kWhole (formS s)) 64 95 (by rw [kWhole_len (by omega)])]
  refine flat_congr (fun k hk => ?_)
  have hk := List.mem_range.1 hk
  rw [hb k hk, kBlkN, if_pos hk, kBlk]
 have hk : (kAll D p).take (formS s).length = formS s := by rw [ha]; unfold kWhole; rw [List.take_left]
 have e1 : (tiOf n hash (formS s)).size.toNat = (formS s).length := Int.toNat_natCast _
 unfold kAt
 rw [hd, ht]
 simp only [e1, hk]
 rw [if_pos ⟨trivial, hp, rfl⟩, parseS_form hs hm]
 rfl
end
section
open Go.RowKit
def IsWN (N : Nat → Prop) (w : World) (p : Nat) (l : List UInt8) (er : Int) : Prop :=
 (∀ k, N k → k < w.heap.size) ∧ ¬ N p ∧ ∃ v, w.heap[p]? = some (.cells #[v, .bool true, .int .i64 er] 175 (0, 0)) ∧ w.ownsRow 0 5 1 v l.length (l.map bv) ∧ ∀ g, v.ownBlock = some g → ¬ N g
def Nt (N : Nat → Prop) : Nat → Prop := fun k => ¬ N k
theorem isWN_chg {N : Nat → Prop} {p : Nat} {l : List UInt8} {er : Int} {w w' : World} (h : IsWN N w p l er) (hg : Chg Non w w') : IsWN N w' p l er := by
 obtain ⟨hN, hp, v, hb, ho, hg2⟩ := h
 exact ⟨fun k hk => by have := hN k hk; have := hg.size; omega, hp, v, (hg.block p (Array.getElem?_eq_some_iff.1 hb).1 (fun e => e)).trans hb, own_chg ho hg, hg2⟩
theorem IsWN.lt {N : Nat → Prop} {p : Nat} {l : List UInt8} {er : Int} {w : World} (h : IsWN N w p l er) : p < w.heap.size := by
 obtain ⟨_, _, v, hb, _⟩ := h
 exact (Array.getElem?_eq_some_iff.1 hb).1
theorem IsWN.more {N M : Nat → Prop} {p : Nat} {l : List UInt8} {er : Int} {w w' : World} (h : IsWN N w p l er) (hg : Chg Non w w') (hM : ∀ k, M k → N k ∨ (w.heap.size ≤ k ∧ k < w'.heap.size)) : IsWN M w' p l er := by
 have hl := h.lt
 obtain ⟨hN, hp, v, hb, ho, hg2⟩ := isWN_chg h hg
 refine ⟨fun k hk => ?_, fun hk => ?_, v, hb, ho, fun g e hk => ?_⟩
 ·rcases hM k hk with h1 | h1
  ·exact hN k h1
  ·exact h1.2
 ·rcases hM p hk with h1 | h1
  ·exact hp h1
  ·omega
 ·rcases hM g hk with h1 | h1
  ·exact hg2 g e h1
  ·obtain ⟨_, _, v0, hb0, ho0, _⟩ := h
   have e0 : v0 = v := by
    have e1 := (hg.block p hl (fun e => e)).trans hb0
    rw [hb] at e1
    simp only [Option.some.injEq, Obj.cells.injEq, Array.mk.injEq, List.cons.injEq] at e1
    exact e1.1.1.symm
   subst e0
   have := (ho0.lt g e).2
   omega
theorem isWN_after {N : Nat → Prop} {p gg cap : Nat} {l m : List UInt8} {v : Value} {w w1 w2 : World} (hN : ∀ k, N k → k < w.heap.size) (hNp : ¬ N p) (hb : w.heap[p]? = some (.cells #[v, .bool true, .int .i64 0] 175 (0, 0))) (hg1 : Chg Non w w1) (hown : w.ownsRow 0 5 1 v l.length (l.map bv))
  (hNg : ∀ g, v.ownBlock = some g → ¬ N g) (hown2 : w2.ownsRow 0 5 1 (.slice (some ⟨gg, 0, none⟩) (l.length + m.length) cap) (l.length + m.length) (l.map bv ++ m.map bv)) (hgrow : w1.grownBy w2 v.ownBlock)
  (hat : v.ownBlock = some gg ∨ gg = w1.heap.size) (hnp : v.ownBlock ≠ some p) :
  IsWN N (w2.setCell ⟨p, 0, none⟩ (.slice (some ⟨gg, 0, none⟩) (l.length + m.length) cap)) p (l ++ m) 0 ∧ Chg (Nt N) w (w2.setCell ⟨p, 0, none⟩ (.slice (some ⟨gg, 0, none⟩) (l.length + m.length) cap)) := by
 have hlp : p < w.heap.size := (Array.getElem?_eq_some_iff.1 hb).1
 have hb2 : w2.heap[p]? = some (.cells #[v, .bool true, .int .i64 0] 175 (0, 0)) :=
  (hgrow.block p (Nat.lt_of_lt_of_le hlp hg1.size) (fun e => hnp e.symm)).trans ((hg1.block p hlp (fun e => e)).trans hb)
 have hgp : gg ≠ p := by
  rintro rfl
  rcases hat with h | h
  ·exact hnp h
  ·have := hg1.size; omega
 have hgN : ¬ N gg := by
  rcases hat with h | h
  ·exact hNg gg h
  ·intro hn
   have h1 := hN gg hn
   have h2 := hg1.size
   omega
 have hchg : Chg (Nt N) w (w2.setCell ⟨p, 0, none⟩ (.slice (some ⟨gg, 0, none⟩) (l.length + m.length) cap)) :=
  ((hg1.of_non (S := Nt N)).grown hgrow (fun g e => .inl (hNg g e))).setCell (p := ⟨p, 0, none⟩) (.inl hNp) _
 refine ⟨⟨fun k hk => by have := hN k hk; have := hchg.size; omega, hNp, .slice (some ⟨gg, 0, none⟩) (l.length + m.length) cap, ?_, ?_, ?_⟩, hchg⟩
 ·rw [heap_setCell_same _ _ _ _ _ _ hb2]; rfl
 ·have h2 := ownsRow_setCell_other hown2 (a := ⟨p, 0, none⟩) (by simp [Value.ownBlock, hgp]) (.slice (some ⟨gg, 0, none⟩) (l.length + m.length) cap)
  simpa using h2
 ·intro g e
  simp only [Value.ownBlock, Option.some.injEq] at e
  rw [← e]; exact hgN
set_option maxRecDepth 100000 in
theorem add_N (N : Nat → Prop) (p b n c : Nat) (l : List UInt8) (ps : List (Option Addr × List UInt8 × Nat)) (w : World) (hW : IsWN N w p l 0) (hP : Parts w b 0 ps) (hn : ps.length = n) (hcap : n ≤ c)
  (h0 : 0 < (cat ps).length) (hroom : l.length + (cat ps).length ≤ 65536) (hn1 : n ≤ 1000) :
  Calls Tryz.prog 111 #[.pointer (some ⟨p, 0, none⟩), .slice (some ⟨b, 0, none⟩) n c] w fun e w' => e = .returned (.pointer (some ⟨p, 0, none⟩)) ∧ IsWN N w' p (l ++ cat ps) 0 ∧ Chg (Nt N) w w' := by
 subst hn
 obtain ⟨hN, hNp, v, hb, hown, hNg⟩ := hW
 have HNN := Lib.hid (And.intro hN (And.intro hNp hNg))
 clear hN hNp hNg
 have HB := Lib.hid hb
 have c0 : w.cell? ⟨p, 0, none⟩ = some v := by rw [cell_of_row _ _ _ _ _ _ hb]; rfl
 have c2 : w.cell? ⟨p, 2, none⟩ = some (.int .i64 0) := by rw [cell_of_row _ _ _ _ _ _ hb]; rfl
 clear hb
 obtain ⟨A, cv, rfl⟩ : ∃ A cv, v = .slice A l.length cv := by
  rcases hown.2 with ⟨rfl, h⟩ | ⟨g, cap, cur, rfl, _⟩
  ·exact ⟨none, 0, by rw [h]⟩
  ·exact ⟨_, _, rfl⟩
 go_enter Tryz.func111, Tryz.ntmps111
 go_wp2_with fail
 refine (wnone_any p _ _ w HB.out).mono ?_
 rintro e w' ⟨rfl, rfl⟩
 go_wp2_with fail
 go_loop [5, 26] (fun r i => ∃ k : Nat, k ≤ ps.length ∧ i = .int .i64 k ∧ r = .int .i64 (65536 - (l.length : Int) - ((cat (ps.take k)).length : Nat))) (fun _ i => ps.length - (intOf i).toNat)
 case atStart => exact ⟨0, by omega, rfl, by simp [cat]⟩
 case round =>
  obtain ⟨k, hk, rfl, rfl⟩ := hrel
  by_cases hlt : k < ps.length
  ·have hpk := (hP k _ (List.getElem?_eq_getElem hlt)).1
   rw [Nat.zero_add] at hpk
   have hs := cat_take_len ps k hlt
   have hle := cat_take_le ps (k + 1)
   obtain ⟨⟨A1, l1, c1⟩, hq⟩ : ∃ q, ps[k]'hlt = q := ⟨_, rfl⟩
   rw [hq] at hpk hs
   clear hq
   simp only at hpk hs
   obtain ⟨n1, hn1'⟩ : ∃ n, l1.length = n := ⟨_, rfl⟩
   rw [hn1'] at hpk hs
   clear hn1'
   obtain ⟨t, ht⟩ : ∃ t, (cat (ps.take k)).length = t := ⟨_, rfl⟩
   rw [ht] at hs ⊢
   clear ht
   have hb1 : t + n1 ≤ 65536 := by omega
   have hb2 : l.length + t + n1 ≤ 65536 := by omega
   have HS := Lib.hid hs
   clear hs hle
   have hmin : min (n1 : Int) 65537 = n1 := by omega
   go_wp2
   go_round
   case rel => exact ⟨k + 1, by omega, by go_num, by rw [HS.out]; exact intEq (by omega)⟩
   case measure => simp [intOf]; omega
  ·obtain rfl : k = ps.length := by omega
   rw [List.take_length]
   have hdr : decide (65536 - (l.length : Int) - ((cat ps).length : Nat) < 0) = false := by simp; omega
   obtain ⟨i0, hi0, hz0, hz1, hz2⟩ := info_parts info_u8
   have hlp : p < w.heap.size := lt_of_cell c0
   have hnp : (Value.slice A l.length cv).ownBlock ≠ some p := own_ne hown HB.out (by decide)
   have HNP := Lib.hid hnp
   have HOwn := Lib.hid hown
   clear hown hnp
   obtain ⟨m, hm⟩ : ∃ m, cat ps = m := ⟨_, rfl⟩
   rw [hm] at h0 hroom hdr
   have HM := Lib.hid hm
   have hcat := fun W h => Cat_any b 0 ps.length c ps W rfl h hcap (by rw [hm]; omega) (by omega)
   rw [hm] at hcat ⊢
   clear hm
   have HCat := Lib.hid hcat
   clear hcat
   have HPt := Lib.hid hP
   clear hP
   have c0' : w.drew.cell? ⟨p, 0, none⟩ = some (.slice A l.length cv) := c0
   go_wp2_with fail
   have f0 : w.frozen? ⟨p, 0, none⟩ = false := frozen_of_row _ _ _ _ _ HB.out
   have f0' : w.drew.frozen? ⟨p, 0, none⟩ = false := f0
   go_region_law (first
       | (refine step_append_lies _ (by rfl) _ _ _ (by rfl) 0 5 i0 _ 1 1 Tryz.underlying29 hi0 hz0 hz1 hz2 rfl (by omega) (.slice A l.length cv) l.length (l.map bv) (by rfl) (own_chg HOwn.out hg1')
           ⟨b1, o1, none⟩ m.length c1 (m.map bv) (by rfl) (by simp) HN1.out (bv_one m) h0 (by unfold maxLen; omega) (by omega) (Nat.zero_le _) w1.heap.size rfl ?_
          intro gg cap w2 hown2 hgrow hat hlt2
          have c2' : w2.cell? ⟨p, 0, none⟩ = some (.slice A l.length cv) := (World.cell?_of_block (a := ⟨p, 0, none⟩) (hgrow.block p (Nat.lt_of_lt_of_le hlp hg1'.size) (fun e => HNP.out e.symm))).trans c1'
          have f2' : w2.frozen? ⟨p, 0, none⟩ = false := (World.frozen?_of_block (a := ⟨p, 0, none⟩) (hgrow.block p (Nat.lt_of_lt_of_le hlp hg1'.size) (fun e => HNP.out e.symm))).trans f1')
       | (go_simp
          go_at_call 33
          refine (HCat.out _ (by exact HPt.out)).mono ?_
          rintro e w1 ⟨A1, c1, rfl, hc1, hm1, ho1, hg1⟩
          obtain ⟨b1, o1, rfl, hb1, hcell1⟩ := ho1.rd.at_ h0
          have HN1 := Lib.hid (news_of hcell1)
          have hg1' : Chg Non w w1 := ((Chg.refl Non w).drew).then_non hg1
          have c1' : w1.cell? ⟨p, 0, none⟩ = some (.slice A l.length cv) := hg1'.cell_some c0 (fun e => e)
          have f1' : w1.frozen? ⟨p, 0, none⟩ = false := (hg1'.frozen (p := ⟨p, 0, none⟩) hlp (fun e => e)).trans f0
          clear hcell1))
   all_goals
    go_wp2
    go_ret
    rw [HM.out]
    exact ⟨rfl, isWN_after HNN.out.1 HNN.out.2.1 HB.out hg1' HOwn.out HNN.out.2.2 hown2 hgrow hat HNP.out⟩
theorem add1_N (N : Nat → Prop) (p cm : Nat) (l m : List UInt8) (A : Option Addr) (t : TypeId) (w w1 : World) (hW : IsWN N w p l 0) (hg : Chg Non w w1) (hr : Rd w1 A m) (h0 : 0 < m.length) (hroom : l.length + m.length ≤ 65536) :
  Calls Tryz.prog 111 #[.pointer (some ⟨p, 0, none⟩), .slice (some ⟨w1.heap.size, 0, none⟩) 1 1] (w1.alloc (.cells #[.slice A m.length cm] t)) fun e w' => e = .returned (.pointer (some ⟨p, 0, none⟩)) ∧ IsWN N w' p (l ++ m) 0 ∧ Chg (Nt N) w w' := by
 have hW1 : IsWN N (w1.alloc (.cells #[.slice A m.length cm] t)) p l 0 := isWN_chg hW (hg.alloc _)
 have hP1 := parts_new w1 t [(A, m, cm)] (by simpa using hr)
 have hcat : cat [(A, m, cm)] = m := by simp [cat]
 refine (add_N N p w1.heap.size 1 1 l [(A, m, cm)] _ hW1 hP1 rfl (by omega) (by rw [hcat]; omega) (by rw [hcat]; omega) (by omega)).mono ?_
 rw [hcat]
 rintro e w2 ⟨rfl, hW2, hB2⟩
 exact ⟨rfl, hW2, (hg.alloc _).non_then hB2⟩
set_option maxRecDepth 100000 in
theorem WInt_N (N : Nat → Prop) (p : Nat) (l : List UInt8) (n : Int) (w : World) (hW : IsWN N w p l 0) (hroom : l.length + 8 ≤ 65536) :
  Calls Tryz.prog 67 #[.pointer (some ⟨p, 0, none⟩), .int .i64 n] w fun e w' => e = .returned (.pointer (some ⟨p, 0, none⟩)) ∧ IsWN N w' p (l ++ be (u64 n) 8) 0 ∧ Chg (Nt N) w w' := by
 have hp := Put64 (u64 n) w (u64_lt n)
 rw [u64_cast] at hp
 have hlen : (be (u64 n) 8).length = 8 := be_length _ _
 obtain ⟨m, hm⟩ : ∃ m, be (u64 n) 8 = m := ⟨_, rfl⟩
 rw [hm] at hp hlen ⊢
 clear hm
 have HA := Lib.hid (fun (w1 : World) (A : Option Addr) (c : Nat) (hg : Chg Non w w1) (ho : Rd w1 A m) => add1_N N p c l m A 29 w w1 hW hg ho (by omega) (by omega))
 have HP := Lib.hid hp
 clear hp hlen hW hroom
 go_enter Tryz.func67, Tryz.ntmps67
 go_wp2_with fail
 refine HP.out.mono ?_
 rintro e w1 ⟨A, c, rfl, hc, hm, ho, hg⟩
 have HG := Lib.hid hg
 have HO := Lib.hid ho.rd
 clear hg ho
 go_wp2_with fail
 refine (HA.out w1 A c HG.out HO.out).mono ?_
 rintro e w2 ⟨rfl, h⟩
 go_wp2
 go_ret
 exact ⟨rfl, h⟩
set_option maxRecDepth 100000 in
theorem WByte_N (N : Nat → Prop) (p : Nat) (l : List UInt8) (x : UInt8) (w : World) (hW : IsWN N w p l 0) (hroom : l.length + 1 ≤ 65536) :
  Calls Tryz.prog 71 #[.pointer (some ⟨p, 0, none⟩), .int .u8 (x.toNat : Int)] w fun e w' => e = .returned (.pointer (some ⟨p, 0, none⟩)) ∧ IsWN N w' p (l ++ [x]) 0 ∧ Chg (Nt N) w w' := by
 have hr : Rd (w.alloc (.cells #[.int .u8 (x.toNat : Int)] 5)) (some ⟨w.heap.size, 0, none⟩) [x] := (own_new w 5 #[.int .u8 (x.toNat : Int)] [x] rfl).rd
 have hA := add1_N N p 1 l [x] (some ⟨w.heap.size, 0, none⟩) 29 w _ hW ((Chg.refl _ _).alloc _) hr (by simp) (by simpa using hroom)
 rw [show (w.alloc (.cells #[.int .u8 (x.toNat : Int)] 5)).heap.size = w.heap.size + 1 by simp] at hA
 have HA := Lib.hid hA
 clear hA hr hW hroom
 go_enter Tryz.func71, Tryz.ntmps71
 go_wp2_with fail
 refine HA.out.mono ?_
 rintro e w' ⟨rfl, h⟩
 go_wp2
 go_ret
 exact ⟨rfl, h⟩
set_option maxRecDepth 100000 in
theorem WFlag_N (N : Nat → Prop) (p : Nat) (l : List UInt8) (b : Bool) (w : World) (hW : IsWN N w p l 0) (hroom : l.length + 1 ≤ 65536) :
  Calls Tryz.prog 70 #[.pointer (some ⟨p, 0, none⟩), .bool b] w fun e w' => e = .returned (.pointer (some ⟨p, 0, none⟩)) ∧ IsWN N w' p (l ++ [flagB b]) 0 ∧ Chg (Nt N) w w' := by
 have HA := Lib.hid (WByte_N N p l (flagB b) w hW hroom)
 clear hW hroom
 cases b
 all_goals
  go_enter Tryz.func70, Tryz.ntmps70
  go_wp2_with fail
  refine HA.out.mono ?_
  rintro e w' ⟨rfl, h⟩
  go_wp2
  go_ret
  exact ⟨rfl, h⟩
set_option maxRecDepth 100000 in
theorem WTag_N (N : Nat → Prop) (p : Nat) (l : List UInt8) (h : List UInt8) (w : World) (hh : h.length = 32) (hW : IsWN N w p l 0) (hroom : l.length + 32 ≤ 65536) :
  Calls Tryz.prog 85 #[.pointer (some ⟨p, 0, none⟩), .agg (h.map bv).toArray] w fun e w' => e = .returned (.pointer (some ⟨p, 0, none⟩)) ∧ IsWN N w' p (l ++ h) 0 ∧ Chg (Nt N) w w' := by
 have hr : Rd (w.alloc (.cells (h.map bv).toArray 28)) (some ⟨w.heap.size, 0, none⟩) h := (own_new w 28 (h.map bv).toArray h rfl).rd
 have hA := add1_N N p 32 l h (some ⟨w.heap.size, 0, none⟩) 29 w _ hW ((Chg.refl _ _).alloc _) hr (by omega) (by omega)
 rw [show (w.alloc (.cells (h.map bv).toArray 28)).heap.size = w.heap.size + 1 by simp, hh] at hA
 have HA := Lib.hid hA
 clear hA hr hW hroom
 go_enter Tryz.func85, Tryz.ntmps85
 go_wp2_with fail
 refine HA.out.mono ?_
 rintro e w' ⟨rfl, h⟩
 go_wp2
 go_ret
 exact ⟨rfl, h⟩
set_option maxRecDepth 100000 in
theorem WBytes_N (N : Nat → Prop) (p c : Nat) (l m : List UInt8) (A : Option Addr) (w : World) (hW : IsWN N w p l 0) (hr : Rd w A m) (hroom : l.length + 4 + m.length ≤ 65536) :
  Calls Tryz.prog 72 #[.pointer (some ⟨p, 0, none⟩), .slice A m.length c] w fun e w' => e = .returned (.pointer (some ⟨p, 0, none⟩)) ∧ IsWN N w' p (l ++ (be m.length 4 ++ m)) 0 ∧ Chg (Nt N) w w' := by
 have hp := Put32 m.length w (by omega)
 have hlen : (be m.length 4).length = 4 := be_length _ _
 obtain ⟨x, hx⟩ : ∃ x, be m.length 4 = x := ⟨_, rfl⟩
 rw [hx] at hp hlen ⊢
 clear hx
 have HA := Lib.hid (fun (w1 : World) (A1 : Option Addr) (c1 : Nat) (hg : Chg Non w w1) (ho : Rd w1 A1 x) => (show Calls Tryz.prog 111 #[.pointer (some ⟨p, 0, none⟩), .slice (some ⟨w1.heap.size, 0, none⟩) 2 2] (w1.alloc (.cells #[.slice A1 x.length c1, .slice A m.length c] 29)) fun e w' => e = .returned (.pointer (some ⟨p, 0, none⟩)) ∧ IsWN N w' p (l ++ (x ++ m)) 0 ∧ Chg (Nt N) w w' from by
   have hW1 : IsWN N (w1.alloc (.cells #[.slice A1 x.length c1, .slice A m.length c] 29)) p l 0 := isWN_chg hW (hg.alloc _)
   have hP1 := parts_new w1 29 [(A1, x, c1), (A, m, c)] (by
     intro q hq
     simp at hq
     rcases hq with rfl | rfl
     · exact ho
     · exact hr.non hg)
   have hcat : cat [(A1, x, c1), (A, m, c)] = x ++ m := by simp [cat]
   refine (add_N N p w1.heap.size 2 2 l [(A1, x, c1), (A, m, c)] _ hW1 hP1 rfl (by omega) (by rw [hcat, List.length_append]; omega) (by rw [hcat, List.length_append]; omega) (by omega)).mono ?_
   rw [hcat]
   rintro e w2 ⟨rfl, hW2, hB2⟩
   exact ⟨rfl, hW2, (hg.alloc _).non_then hB2⟩))
 have HP := Lib.hid hp
 have HL := Lib.hid hlen
 have hm1 : (m.length : Int) < 4294967296 := by omega
 clear hp hW hr hlen hroom
 go_enter Tryz.func72, Tryz.ntmps72
 go_wp2_with fail
 refine HP.out.mono ?_
 rintro e w1 ⟨A1, c1, rfl, hc, hmx, ho, hg⟩
 have HG := Lib.hid hg
 have HO := Lib.hid ho.rd
 clear hg ho
 go_wp2_with fail
 refine (HA.out w1 A1 c1 HG.out HO.out).mono ?_
 rintro e w2 ⟨rfl, h⟩
 go_wp2
 go_ret
 exact ⟨rfl, h⟩
set_option maxRecDepth 100000 in
theorem WDone_N (N : Nat → Prop) (p : Nat) (l : List UInt8) (w : World) (hW : IsWN N w p l 0) (hl : l.length ≤ 65536) :
  Calls Tryz.prog 77 #[.pointer (some ⟨p, 0, none⟩)] w fun e w' => ∃ A c, e = .returned (.tuple #[.slice A l.length c, .int .i64 0]) ∧ l.length ≤ c ∧ c ≤ maxLen ∧ Own w.heap.size w' A l ∧ Chg Non w w' := by
 obtain ⟨_, _, v, hb, hown, _⟩ := hW
 have HB := Lib.hid hb
 have c0 : w.cell? ⟨p, 0, none⟩ = some v := by rw [cell_of_row _ _ _ _ _ _ hb]; rfl
 have c2 : w.cell? ⟨p, 2, none⟩ = some (.int .i64 0) := by rw [cell_of_row _ _ _ _ _ _ hb]; rfl
 clear hb
 obtain ⟨A, cv, rfl, hrd⟩ := own_reads hown
 go_enter Tryz.func77, Tryz.ntmps77
 go_wp2_with fail
 refine (wnone_any p _ _ w HB.out).mono ?_
 rintro e w' ⟨rfl, rfl⟩
 go_wp2_with fail
 refine (Cat1 A l cv _ w _ rfl hrd (by omega)).mono ?_
 rintro e w1 ⟨A1, c1, rfl, hc1, hm1, ho1, hg1⟩
 go_wp2
 go_ret2
 exact ⟨A1, c1, rfl, hc1, hm1, ho1, hg1⟩
theorem NewWriter_N (N : Nat → Prop) (w : World) (hN : ∀ k, N k → k < w.heap.size) :
  Calls Tryz.prog 66 #[] w fun e w' => e = .returned (.pointer (some ⟨w.heap.size, 0, none⟩)) ∧ IsWN N w' w.heap.size [] 0 ∧ Chg Non w w' := by
 refine (NewWriter_any w).mono ?_
 rintro e w' ⟨rfl, ⟨_, v, hb, ho⟩, hg⟩
 refine ⟨rfl, ⟨fun k hk => by have := hN k hk; have := hg.size; omega, fun hk => by have := hN _ hk; omega, v, hb, ?_, fun g e hk => ?_⟩, hg⟩
 ·exact ⟨ho.1, ho.2.imp id (fun ⟨g, cap, cur, e, h1, h2⟩ => ⟨g, cap, cur, e, Nat.zero_le _, h2⟩)⟩
 ·have h1 := (ho.lt g e).1
  have h2 := hN g hk
  omega
end
section
open Go.RowKit
theorem keyLits_i64 {P : Program} {e : TypeId} {D : Nat} (he : P.underlying e = some (.int .i64)) (n : Int) (h : -9223372036854775808 ≤ n ∧ n ≤ 9223372036854775807) : P.keyLits (D + 1) e [.int .i64 n] = some [.int .i64 n] := by
 unfold Program.keyLits
 rw [he]
 have hw : (Lit.int .i64 n).wf = true := WalkArith.wf_i64 (by omega)
 simp only [true_and, hw, if_true]
theorem eq_agg {P : Program} {t : TypeId} {xs ys : Array Value} {la lb : List Lit} {p : Prop} [Decidable p] (hp : la = lb ↔ p) (m : Nat) (hm : m ≤ 10000) (hk : P.keyTypeAt m t = true) (hx : (Value.agg xs).formed P t = true) (hy : (Value.agg ys).formed P t = true)
  (ka : P.keyLits m t xs.toList = some la) (kb : P.keyLits m t ys.toList = some lb) (w : World) :
  (binOp .eql t (.agg xs) (.agg ys)).run P w = .ok (.bool (decide p)) w ∧ (binOp .neq t (.agg xs) (.agg ys)).run P w = .ok (.bool (!decide p)) w := by
 have key := run_equalIn_deep (10000 - m) m t hk w m m _ _ _ _ hx hy ka kb
 rw [show 10000 - m + m = 10000 by omega] at key
 obtain ⟨q, hq, hqi⟩ := key
 have e : q = decide p := by
  rw [Bool.eq_iff_iff, hqi, hp]; simp
 subst e
 rw [run_eql_struct, run_neq_struct, hq]
 exact ⟨rfl, rfl⟩
end
section
open Go.RowKit
section
variable {α β : Type} {p : α → β → Bool} {l : List α} {m : List β}
end
theorem sz_of {vs : List Value} {o : Array Value} {n : Nat} (h : vs.length = n) (ho : o.size = n) : o.size = vs.toArray.size := by simp [h, ho]
theorem all_one {vs : List Value} (h : ∀ u ∈ vs, u.oneCell' = true) : vs.toArray.all (·.oneCell') = true := by
 rw [List.all_toArray, List.all_eq_true]
 exact h
end
section
open Go.RowKit
def Puts {α : Type} (R : World → α → List Value → Prop) (V : List Value → Value) (l : List α) (wt : α → List UInt8) (N : Nat → Prop) (p bx : Nat) (K : FuncId) : Prop :=
 ∀ (W : World) (a : α) (vs : List Value) (f : List UInt8), a ∈ l → R W a vs → IsWN N W p f 0 → W.cell? ⟨bx, 0, none⟩ = some (.pointer (some ⟨p, 0, none⟩)) → f.length + (wt a).length ≤ 65536 →
  Calls Tryz.prog K #[V vs, .pointer (some ⟨bx, 0, none⟩)] W fun e W' => e = .returned (.tuple #[]) ∧ IsWN N W' p (f ++ wt a) 0 ∧ Chg (Nt N) W W'
theorem flat_snoc {α : Type} {wt : α → List UInt8} {l : List α} {k : Nat} {a : α} (h : l[k]? = some a) : (l.take (k + 1)).flatMap wt = (l.take k).flatMap wt ++ wt a := by
 obtain ⟨hk, rfl⟩ := List.getElem?_eq_some_iff.1 h
 rw [List.take_succ_eq_append_getElem hk, List.flatMap_append]
 simp
theorem flat_take_le {α : Type} (wt : α → List UInt8) (l : List α) (k : Nat) : ((l.take k).flatMap wt).length ≤ (l.flatMap wt).length := by
 have h : l.flatMap wt = (l.take k).flatMap wt ++ (l.drop k).flatMap wt := by rw [← List.flatMap_append, List.take_append_drop]
 rw [h, List.length_append]; omega
theorem wInt_len8 (n : Int) : (wInt n).length = 8 := be_length _ _
set_option maxRecDepth 100000 in
theorem listMsg {α : Type} (R : World → α → List Value → Prop) (I N : Nat → Prop) (hk : ∀ (S : Nat → Prop) (W W' : World) (a : α) (vs : List Value), Chg S W W' → (∀ b, I b → ¬ S b) → R W a vs → R W' a vs)
  (ho : ∀ W a vs, R W a vs → ∀ u ∈ vs, u.oneCell' = true) (wt : α → List UInt8) (p bx : Nat) (A : Option Addr) (l : List α) (c : Nat) (f : List UInt8) (w : World) (hI : ∀ b, I b → N b) (hbN : N bx)
  (hr : RdL R I 1 w A l) (hf : Puts R oneV l wt N p bx 76) (hc : l.length ≤ c) (hcm : c ≤ maxLen) (h1000 : l.length ≤ 1000) (hbx : w.cell? ⟨bx, 0, none⟩ = some (.pointer (some ⟨p, 0, none⟩)))
  (hW : IsWN N w p f 0) (hroom : f.length + 8 + (l.flatMap wt).length ≤ 65536) :
  Calls Tryz.prog 75 #[.pointer (some ⟨p, 0, none⟩), .slice A l.length c, .func (.func 76) #[] #[.pointer (some ⟨bx, 0, none⟩)]] w fun e w' =>
   e = .returned (.tuple #[]) ∧ IsWN N w' p (f ++ (wInt (l.length : Int) ++ l.flatMap wt)) 0 ∧ Chg (Nt N) w w' := by
 unfold maxLen at hcm
 have HW := Lib.hid (WInt_N N p f (l.length : Int) w hW (by omega))
 have HR := Lib.hid hr
 have HF := Lib.hid hf
 have HRM := Lib.hid hroom
 have HBX := Lib.hid hbx
 have HE : Hid (be (u64 (l.length : Int)) 8 = wInt (l.length : Int)) := Lib.hid rfl
 clear hr hf hroom hW hbx
 go_enter Tryz.func75, Tryz.ntmps75
 go_wp2_with fail
 refine HW.out.mono ?_
 rintro e w1 ⟨rfl, hW1, hg1⟩
 rw [HE.out] at hW1
 have HW1 := Lib.hid hW1
 have HG1 := Lib.hid hg1
 clear hW1 hg1
 go_wp2_with fail
 go_loopw [14] (fun iv wr => ∃ k : Nat, k ≤ l.length ∧ iv = .int .i64 k ∧ Hid (IsWN N wr p (f ++ (wInt (l.length : Int) ++ (l.take k).flatMap wt)) 0) ∧ Hid (Chg (Nt N) w wr)) (fun iv _ => l.length - (intOf iv).toNat)
 case atStart => exact ⟨0, Nat.zero_le _, rfl, Lib.hid (by simpa using HW1.out), HG1⟩
 case round =>
  obtain ⟨k, hk2, rfl, HX, HG⟩ := hrel
  have hnN : ∀ b, I b → ¬ Nt N b := fun b hb h => h (hI b hb)
  by_cases hlt : k < l.length
  ·obtain ⟨a, ha⟩ : ∃ a, l[k]? = some a := ⟨_, List.getElem?_eq_getElem hlt⟩
   obtain ⟨b, o, vs, rfl, hIb, hlen, hcell0, hR⟩ := HR.out k a ha
   have hcell := range_keepS hcell0 HG.out (hnN b hIb)
   have hR2 := hk _ _ _ _ _ HG.out hnN hR
   have hbx := HG.out.cell_some HBX.out (fun h => h hbN)
   have hbl := lt_of_cell hbx
   have hroom2 : (f ++ (wInt (l.length : Int) ++ (l.take k).flatMap wt)).length + (wt a).length ≤ 65536 := by
    have h1 := flat_take_le wt l (k + 1)
    rw [flat_snoc ha, List.length_append] at h1
    have h2 := HRM.out
    rw [List.length_append, List.length_append, wInt_len8]
    omega
   have HK := Lib.hid (fun W (hg : Chg Non wr W) => HF.out W a vs _ (List.mem_of_getElem? ha) (hk _ _ _ _ _ hg (fun _ _ e => e) hR2) (isWN_chg HX.out hg) (hg.cell_some hbx (fun e => e)) hroom2)
   have hltd : decide ((k : Int) < (l.length : Int)) = true := by simpa using hlt
   have HS := Lib.hid (flat_snoc (wt := wt) ha)
   have HO1 := Lib.hid (all_one (ho _ _ _ hR))
   have HL := Lib.hid hlen
   clear ha hR hR2 hcell0 hroom2 hbx
   simp only [Nat.mul_one] at hcell
   obtain ⟨v, rfl⟩ : ∃ v, vs = [v] := by
    match vs, hlen with
    | [v], _ => exact ⟨v, rfl⟩
   have k0 : wr.cell? ⟨b, o + k, none⟩ = some v := by have := hcell 0 v rfl; simpa using this
   clear hcell hlen
   go_wp2_with fail
   refine (HK.out _ (Chg.refl _ _)).mono ?_
   rintro e u ⟨rfl, hWu, hgu⟩
   have HWu := Lib.hid (show IsWN N u p (f ++ (wInt (l.length : Int) ++ (l.take (k + 1)).flatMap wt)) 0 by rw [HS.out]; simpa [List.append_assoc] using hWu)
   have HGu := Lib.hid (HG.out.trans_same hgu)
   clear hWu hgu
   go_wp2_with fail
   exact ⟨⟨k + 1, by omega, by simp, HWu, HGu⟩, by simp [intOf]; omega⟩
  ·obtain rfl : k = l.length := by omega
   have hltd : decide ((l.length : Int) < (l.length : Int)) = false := by simp
   have HXe := Lib.hid (show IsWN N wr p (f ++ (wInt (l.length : Int) ++ l.flatMap wt)) 0 by have := HX.out; rwa [List.take_length] at this)
   clear HX
   go_wp2_with fail
   go_end0
   exact ⟨rfl, HXe.out, HG.out⟩
set_option maxRecDepth 100000 in
theorem listPart {α : Type} (R : World → α → List Value → Prop) (I N : Nat → Prop) (hk : ∀ (S : Nat → Prop) (W W' : World) (a : α) (vs : List Value), Chg S W W' → (∀ b, I b → ¬ S b) → R W a vs → R W' a vs)
  (ho : ∀ W a vs, R W a vs → ∀ u ∈ vs, u.oneCell' = true) (wt : α → List UInt8) (p bx : Nat) (A : Option Addr) (l : List α) (c : Nat) (f : List UInt8) (w : World) (hI : ∀ b, I b → N b) (hbN : N bx)
  (hr : RdL R I 14 w A l) (hf : Puts R aggV l wt N p bx 69) (hc : l.length ≤ c) (hcm : c ≤ maxLen) (h1000 : l.length ≤ 1000) (hbx : w.cell? ⟨bx, 0, none⟩ = some (.pointer (some ⟨p, 0, none⟩)))
  (hW : IsWN N w p f 0) (hroom : f.length + 8 + (l.flatMap wt).length ≤ 65536) :
  Calls Tryz.prog 68 #[.pointer (some ⟨p, 0, none⟩), .slice A l.length c, .func (.func 69) #[] #[.pointer (some ⟨bx, 0, none⟩)]] w fun e w' =>
   e = .returned (.tuple #[]) ∧ IsWN N w' p (f ++ (wInt (l.length : Int) ++ l.flatMap wt)) 0 ∧ Chg (Nt N) w w' := by
 unfold maxLen at hcm
 have HW := Lib.hid (WInt_N N p f (l.length : Int) w hW (by omega))
 have HR := Lib.hid hr
 have HF := Lib.hid hf
 have HRM := Lib.hid hroom
 have HBX := Lib.hid hbx
 have HE : Hid (be (u64 (l.length : Int)) 8 = wInt (l.length : Int)) := Lib.hid rfl
 clear hr hf hroom hW hbx
 go_enter Tryz.func68, Tryz.ntmps68
 go_wp2_with fail
 refine HW.out.mono ?_
 rintro e w1 ⟨rfl, hW1, hg1⟩
 rw [HE.out] at hW1
 have HW1 := Lib.hid hW1
 have HG1 := Lib.hid hg1
 clear hW1 hg1
 go_wp2_with fail
 go_loopw [14] (fun iv wr => ∃ k : Nat, k ≤ l.length ∧ iv = .int .i64 k ∧ Hid (IsWN N wr p (f ++ (wInt (l.length : Int) ++ (l.take k).flatMap wt)) 0) ∧ Hid (Chg (Nt N) w wr)) (fun iv _ => l.length - (intOf iv).toNat)
 case atStart => exact ⟨0, Nat.zero_le _, rfl, Lib.hid (by simpa using HW1.out), HG1⟩
 case round =>
  obtain ⟨k, hk2, rfl, HX, HG⟩ := hrel
  have hnN : ∀ b, I b → ¬ Nt N b := fun b hb h => h (hI b hb)
  by_cases hlt : k < l.length
  ·obtain ⟨a, ha⟩ : ∃ a, l[k]? = some a := ⟨_, List.getElem?_eq_getElem hlt⟩
   obtain ⟨b, o, vs, rfl, hIb, hlen, hcell0, hR⟩ := HR.out k a ha
   have hcell := range_keepS hcell0 HG.out (hnN b hIb)
   have hR2 := hk _ _ _ _ _ HG.out hnN hR
   have hbx := HG.out.cell_some HBX.out (fun h => h hbN)
   have hbl := lt_of_cell hbx
   have hroom2 : (f ++ (wInt (l.length : Int) ++ (l.take k).flatMap wt)).length + (wt a).length ≤ 65536 := by
    have h1 := flat_take_le wt l (k + 1)
    rw [flat_snoc ha, List.length_append] at h1
    have h2 := HRM.out
    rw [List.length_append, List.length_append, wInt_len8]
    omega
   have HK := Lib.hid (fun W (hg : Chg Non wr W) => HF.out W a vs _ (List.mem_of_getElem? ha) (hk _ _ _ _ _ hg (fun _ _ e => e) hR2) (isWN_chg HX.out hg) (hg.cell_some hbx (fun e => e)) hroom2)
   have hltd : decide ((k : Int) < (l.length : Int)) = true := by simpa using hlt
   have HS := Lib.hid (flat_snoc (wt := wt) ha)
   have HO1 := Lib.hid (all_one (ho _ _ _ hR))
   have HL := Lib.hid hlen
   clear ha hR hR2 hcell0 hroom2 hbx
   have HC := Lib.hid hcell
   clear hcell hlen
   go_wp2_with (first
     | (refine sel (some 17) (.load 104 (.tmp 16)) ?_; refine wpList_load_mid rfl 104 (.tmp 16) rfl b (o + k * 14) rfl vs _ HC.out Tryz.underlying104 rfl (by rw [HL.out]; kernel_rfl) ?_)
     | (refine sel none (.store 104 (.tmp 7) (.tmp 17)) ?_
        refine wpList_store_rowA rfl 104 (.tmp 7) (.tmp 17) rfl wr.heap.size vs.toArray rfl rfl 104 _ (blk_new _ _) (by rw [List.size_toArray, HL.out]; kernel_rfl) (sz_of HL.out rfl) HO1.out ?_
        intro W1 hgW1 hbW1)
     | (refine sel (some 19) (.load 104 (.tmp 7)) ?_; refine wpList_load_row rfl 104 (.tmp 7) rfl wr.heap.size rfl 104 vs.toArray (0, 0) _ hbW1 Tryz.underlying104 rfl (by rw [List.size_toArray, HL.out]; kernel_rfl) ?_))
   have hgw : Chg Non wr W1 := ((Chg.refl Non wr).alloc _).then_new hgW1 (fun x e => by omega)
   refine (HK.out W1 hgw).mono ?_
   rintro e u ⟨rfl, hWu, hgu⟩
   have HWu := Lib.hid (show IsWN N u p (f ++ (wInt (l.length : Int) ++ (l.take (k + 1)).flatMap wt)) 0 by rw [HS.out]; simpa [List.append_assoc] using hWu)
   have HGu := Lib.hid (HG.out.trans_same (hgw.non_then hgu))
   clear hWu hgu hgw hgW1 hbW1
   go_wp2_with fail
   exact ⟨⟨k + 1, by omega, by simp, HWu, HGu⟩, by simp [intOf]; omega⟩
  ·obtain rfl : k = l.length := by omega
   have hltd : decide ((l.length : Int) < (l.length : Int)) = false := by simp
   have HXe := Lib.hid (show IsWN N wr p (f ++ (wInt (l.length : Int) ++ l.flatMap wt)) 0 by have := HX.out; rwa [List.take_length] at this)
   clear HX
   go_wp2_with fail
   go_end0
   exact ⟨rfl, HXe.out, HG.out⟩
set_option maxRecDepth 100000 in
theorem listQueue {α : Type} (R : World → α → List Value → Prop) (I N : Nat → Prop) (hk : ∀ (S : Nat → Prop) (W W' : World) (a : α) (vs : List Value), Chg S W W' → (∀ b, I b → ¬ S b) → R W a vs → R W' a vs)
  (ho : ∀ W a vs, R W a vs → ∀ u ∈ vs, u.oneCell' = true) (wt : α → List UInt8) (p bx : Nat) (A : Option Addr) (l : List α) (c : Nat) (f : List UInt8) (w : World) (hI : ∀ b, I b → N b) (hbN : N bx)
  (hr : RdL R I 6 w A l) (hf : Puts R aggV l wt N p bx 74) (hc : l.length ≤ c) (hcm : c ≤ maxLen) (h1000 : l.length ≤ 1000) (hbx : w.cell? ⟨bx, 0, none⟩ = some (.pointer (some ⟨p, 0, none⟩)))
  (hW : IsWN N w p f 0) (hroom : f.length + 8 + (l.flatMap wt).length ≤ 65536) :
  Calls Tryz.prog 73 #[.pointer (some ⟨p, 0, none⟩), .slice A l.length c, .func (.func 74) #[] #[.pointer (some ⟨bx, 0, none⟩)]] w fun e w' =>
   e = .returned (.tuple #[]) ∧ IsWN N w' p (f ++ (wInt (l.length : Int) ++ l.flatMap wt)) 0 ∧ Chg (Nt N) w w' := by
 unfold maxLen at hcm
 have HW := Lib.hid (WInt_N N p f (l.length : Int) w hW (by omega))
 have HR := Lib.hid hr
 have HF := Lib.hid hf
 have HRM := Lib.hid hroom
 have HBX := Lib.hid hbx
 have HE : Hid (be (u64 (l.length : Int)) 8 = wInt (l.length : Int)) := Lib.hid rfl
 clear hr hf hroom hW hbx
 go_enter Tryz.func73, Tryz.ntmps73
 go_wp2_with fail
 refine HW.out.mono ?_
 rintro e w1 ⟨rfl, hW1, hg1⟩
 rw [HE.out] at hW1
 have HW1 := Lib.hid hW1
 have HG1 := Lib.hid hg1
 clear hW1 hg1
 go_wp2_with fail
 go_loopw [14] (fun iv wr => ∃ k : Nat, k ≤ l.length ∧ iv = .int .i64 k ∧ Hid (IsWN N wr p (f ++ (wInt (l.length : Int) ++ (l.take k).flatMap wt)) 0) ∧ Hid (Chg (Nt N) w wr)) (fun iv _ => l.length - (intOf iv).toNat)
 case atStart => exact ⟨0, Nat.zero_le _, rfl, Lib.hid (by simpa using HW1.out), HG1⟩
 case round =>
  obtain ⟨k, hk2, rfl, HX, HG⟩ := hrel
  have hnN : ∀ b, I b → ¬ Nt N b := fun b hb h => h (hI b hb)
  by_cases hlt : k < l.length
  ·obtain ⟨a, ha⟩ : ∃ a, l[k]? = some a := ⟨_, List.getElem?_eq_getElem hlt⟩
   obtain ⟨b, o, vs, rfl, hIb, hlen, hcell0, hR⟩ := HR.out k a ha
   have hcell := range_keepS hcell0 HG.out (hnN b hIb)
   have hR2 := hk _ _ _ _ _ HG.out hnN hR
   have hbx := HG.out.cell_some HBX.out (fun h => h hbN)
   have hbl := lt_of_cell hbx
   have hroom2 : (f ++ (wInt (l.length : Int) ++ (l.take k).flatMap wt)).length + (wt a).length ≤ 65536 := by
    have h1 := flat_take_le wt l (k + 1)
    rw [flat_snoc ha, List.length_append] at h1
    have h2 := HRM.out
    rw [List.length_append, List.length_append, wInt_len8]
    omega
   have HK := Lib.hid (fun W (hg : Chg Non wr W) => HF.out W a vs _ (List.mem_of_getElem? ha) (hk _ _ _ _ _ hg (fun _ _ e => e) hR2) (isWN_chg HX.out hg) (hg.cell_some hbx (fun e => e)) hroom2)
   have hltd : decide ((k : Int) < (l.length : Int)) = true := by simpa using hlt
   have HS := Lib.hid (flat_snoc (wt := wt) ha)
   have HO1 := Lib.hid (all_one (ho _ _ _ hR))
   have HL := Lib.hid hlen
   clear ha hR hR2 hcell0 hroom2 hbx
   have HC := Lib.hid hcell
   clear hcell hlen
   go_wp2_with (first
     | (refine sel (some 17) (.load 110 (.tmp 16)) ?_; refine wpList_load_mid rfl 110 (.tmp 16) rfl b (o + k * 6) rfl vs _ HC.out Tryz.underlying110 rfl (by rw [HL.out]; kernel_rfl) ?_)
     | (refine sel none (.store 110 (.tmp 7) (.tmp 17)) ?_
        refine wpList_store_rowA rfl 110 (.tmp 7) (.tmp 17) rfl wr.heap.size vs.toArray rfl rfl 110 _ (blk_new _ _) (by rw [List.size_toArray, HL.out]; kernel_rfl) (sz_of HL.out rfl) HO1.out ?_
        intro W1 hgW1 hbW1)
     | (refine sel (some 19) (.load 110 (.tmp 7)) ?_; refine wpList_load_row rfl 110 (.tmp 7) rfl wr.heap.size rfl 110 vs.toArray (0, 0) _ hbW1 Tryz.underlying110 rfl (by rw [List.size_toArray, HL.out]; kernel_rfl) ?_))
   have hgw : Chg Non wr W1 := ((Chg.refl Non wr).alloc _).then_new hgW1 (fun x e => by omega)
   refine (HK.out W1 hgw).mono ?_
   rintro e u ⟨rfl, hWu, hgu⟩
   have HWu := Lib.hid (show IsWN N u p (f ++ (wInt (l.length : Int) ++ (l.take (k + 1)).flatMap wt)) 0 by rw [HS.out]; simpa [List.append_assoc] using hWu)
   have HGu := Lib.hid (HG.out.trans_same (hgw.non_then hgu))
   clear hWu hgu hgw hgW1 hbW1
   go_wp2_with fail
   exact ⟨⟨k + 1, by omega, by simp, HWu, HGu⟩, by simp [intOf]; omega⟩
  ·obtain rfl : k = l.length := by omega
   have hltd : decide ((l.length : Int) < (l.length : Int)) = false := by simp
   have HXe := Lib.hid (show IsWN N wr p (f ++ (wInt (l.length : Int) ++ l.flatMap wt)) 0 by have := HX.out; rwa [List.take_length] at this)
   clear HX
   go_wp2_with fail
   go_end0
   exact ⟨rfl, HXe.out, HG.out⟩
end
end Go.Proofs.YtkgnlobabknkcaaGreat
