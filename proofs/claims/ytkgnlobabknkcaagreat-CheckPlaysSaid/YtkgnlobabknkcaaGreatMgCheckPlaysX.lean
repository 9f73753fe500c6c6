/- CheckPlays, part 24 of 27: contracts of the functions that it reaches, and the laws that they need, merged and shortened (from my texts XRef06n, XPk, XWt, XPkA). -/
import Derived.Test.YtkgnlobabknkcaaGreatMgCheckPlaysA
import Derived.Test.YtkgnlobabknkcaaGreatMgCheckPlaysF
import Derived.Test.YtkgnlobabknkcaaGreatMgCheckPlaysJ
import Derived.Test.YtkgnlobabknkcaaGreatMgCheckPlaysK
import Derived.Test.YtkgnlobabknkcaaGreatMgCheckPlaysL
import Derived.Test.YtkgnlobabknkcaaGreatMgCheckPlaysM
import Derived.Test.YtkgnlobabknkcaaGreatMgCheckPlaysS
import Derived.Test.YtkgnlobabknkcaaGreatMgCheckPlaysT
import Derived.Test.YtkgnlobabknkcaaGreatMgCheckPlaysU
import Derived.Test.YtkgnlobabknkcaaGreatMgCheckPlaysW
namespace Go.Proofs.YtkgnlobabknkcaaGreat
set_option linter.unusedVariables false
set_option linter.unusedSimpArgs false
set_option maxHeartbeats 8000000
set_option maxRecDepth 100000
section
open Go.RowKit
section
variable {P : Program} {md : Region.Mode} {ops : Array Oper} {Q : Exit → Act → World → Prop} {S S' : World → Prop}
theorem h_twoN {fuel : Nat} {listed : Array Bool} {a : Act} {w : World} (i j : Nat) {oi oj : Oper} (hr : Region.ready md ops listed = [i, j]) (hi : ops[i]? = some oi) (hwi : Region.wanted oi (yielded ops a.tmps) = true) (hj : ops[j]? = some oj) (hwj : Region.wanted oj (yielded ops a.tmps) = true)
  (h : ∀ K : Act → World → Prop, Shut (∀ a w, S w → (S w → wpAnyH P md ops Q S fuel (listed.setIfInBounds i true) a w) → K a w) → Oper.wp P oi a w K Q)
  (h' : ∀ K : Act → World → Prop, Shut (∀ a w, S w → (S w → wpAnyH P md ops Q S fuel (listed.setIfInBounds j true) a w) → K a w) → Oper.wp P oj a w K Q) : wpAnyH P md ops Q S (fuel + 1) listed a w :=
 wpAnyH_ready hr (by simp) (AllReadyH.cons hi (fun K hK => by rw [if_pos hwi]; exact h K hK) (AllReadyH.cons hj (fun K hK => by rw [if_pos hwj]; exact h' K hK) AllReadyH.nil))
theorem h_mono (hS : ∀ w, S' w → S w) : ∀ (fuel : Nat) (listed : Array Bool) (a : Act) (w : World), wpAnyH P md ops Q S' fuel listed a w → wpAnyH P md ops Q S fuel listed a w
 | 0, _, _, _, h => h
 | fuel + 1, _, _, _, h => ⟨h.1, fun i hi => wpOp_mono (fun a' w' h' => ⟨hS _ h'.1, h_mono hS fuel _ a' w' h'.2⟩) (h.2 i hi)⟩
end
theorem own_keepN {S : Nat → Prop} {w w' : World} {B : Nat} {e : TypeId} {size : Nat} {v : Value} {n : Nat} {xs : List Value} (h : w.ownsRow B e size v n xs) (hg : Chg S w w') (hn : ∀ g, v.ownBlock = some g → ¬ S g) : w'.ownsRow B e size v n xs := by
 refine ⟨h.1, ?_⟩
 rcases h.2 with h0 | ⟨g, cap, cur, rfl, hb, hh, h4⟩
 ·exact .inl h0
 ·exact .inr ⟨g, cap, cur, rfl, hb, (hg.block g (Array.getElem?_eq_some_iff.1 hh).1 (hn g rfl)).trans hh, h4⟩
theorem own_geN {w : World} {B : Nat} {e : TypeId} {size : Nat} {v : Value} {n : Nat} {xs : List Value} {x : Nat} (h : w.ownsRow B e size v n xs) (hx : v.ownBlock = some x) : B ≤ x ∧ x < w.heap.size := by
 rcases h.2 with h0 | ⟨g, cap, cur, rfl, hb, hh, h4⟩
 ·exact absurd hx (by simp [h0, Value.ownBlock])
 ·obtain rfl : g = x := by simpa [Value.ownBlock] using hx
  exact ⟨hb, (Array.getElem?_eq_some_iff.1 hh).1⟩
def z64 : List UInt8 := List.replicate 64 0
def NRow (B : Nat) (vr : Value) (W : World) (xs : List Value) (k : Nat) : Prop :=
 ∀ i, i < k → (∃ b c, xs[i * 2]? = some (.slice (some ⟨b, 0, none⟩) 64 c) ∧ 64 ≤ c ∧ c ≤ maxLen ∧ Own B W (some ⟨b, 0, none⟩) z64 ∧ vr.ownBlock ≠ some b) ∧ xs[i * 2 + 1]? = some (.slice none 0 0)
structure NInv (w : World) (v : Value) (xs : List Value) (k : Nat) (W : World) : Prop where
 dsk : W.heap[w.heap.size]? = some (.cells #[v, .bool false, .int .i64 0, .slice none 0 0] 52 (0, 0))
 own : W.ownsRow (w.heap.size + 1) 63 2 v k xs
 row : NRow (w.heap.size + 1) v W xs k
 chg : Chg Non w W
theorem info_one : (Tryz.prog.info? 63).map (fun i => (i.zero, i.size, i.bytes)) = some (some (.agg #[.slice none 0 0, .slice none 0 0]), 2, 48) := by kernel_rfl
theorem NInv.next {w W W2 : World} {v : Value} {xs : List Value} {k b g cap : Nat} (h : NInv w v xs k W) (hb : W.heap.size = b) (hw : w.heap.size < W.heap.size)
  (hg : Chg (fun x => v.ownBlock = some x) W W2) (hbb : Own b W2 (some ⟨b, 0, none⟩) z64) (hgw : v.ownBlock = some g ∨ b < g)
  (ho : W2.ownsRow (w.heap.size + 1) 63 2 (.slice (some ⟨g, 0, none⟩) (k + 1) cap) (k + 1) (xs ++ [.slice (some ⟨b, 0, none⟩) 64 64, .slice none 0 0])) :
  NInv w (.slice (some ⟨g, 0, none⟩) (k + 1) cap) (xs ++ [.slice (some ⟨b, 0, none⟩) 64 64, .slice none 0 0]) (k + 1) (W2.setCell ⟨w.heap.size, 0, none⟩ (.slice (some ⟨g, 0, none⟩) (k + 1) cap)) := by
 obtain ⟨h1, h2, h3, h4⟩ := h
 have hgs : Chg (fun x => x = w.heap.size) W2 (W2.setCell ⟨w.heap.size, 0, none⟩ (.slice (some ⟨g, 0, none⟩) (k + 1) cap)) := (Chg.refl (fun x => x = w.heap.size) _).setCell (p := ⟨w.heap.size, 0, none⟩) (.inl rfl) _
 have hvge : ∀ x, v.ownBlock = some x → w.heap.size + 1 ≤ x ∧ x < W.heap.size := fun x e => own_geN h2 e
 have hgge : w.heap.size + 1 ≤ g := (own_geN ho rfl).1
 have hgb : g ≠ b := by
  rcases hgw with e | e
  ·have := (hvge g e).2; omega
  ·omega
 refine ⟨?_, own_keepN ho hgs (fun x e he => ?_), ?_, (h4.then_new hg (fun x e => by have := (hvge x e).1; omega)).then_new hgs (fun x e => by omega)⟩
 ·have hd : W2.heap[w.heap.size]? = _ := (hg.block _ (Array.getElem?_eq_some_iff.1 h1).1 (fun e => by have := (hvge _ e).1; omega)).trans h1
  exact r5_setI _ hd
 ·have : g = x := by simpa [Value.ownBlock] using e
  omega
 ·have hxl : xs.length = k * 2 := h2.1
  intro i hi
  by_cases hik : i < k
  ·obtain ⟨⟨b', c, a1, a2, a3, a4, a5⟩, a6⟩ := h3 i hik
   refine ⟨⟨b', c, by rw [List.getElem?_append_left (by omega)]; exact a1, a2, a3, ?_, ?_⟩, by rw [List.getElem?_append_left (by omega)]; exact a6⟩
   ·refine (a4.keep hg (fun b o e hB _ hs => ?_)).keep hgs (fun b o e hB _ hs => by omega)
    injection e with e
    injection e with e _ _
    subst e
    exact a5 hs
   ·intro e
    have e : g = b' := by simpa [Value.ownBlock] using e
    subst e
    rcases hgw with e | e
    ·exact a5 e
    ·obtain ⟨b2, o2, e2, hlt, _⟩ := a4.rd.at_ (by simp [z64])
     injection e2 with e2
     injection e2 with e2 _ _
     omega
  ·obtain rfl : i = k := by omega
   refine ⟨⟨b, 64, by rw [List.getElem?_append_right (by omega), hxl, Nat.sub_self]; rfl, Nat.le_refl _, by unfold maxLen; omega, ?_, ?_⟩, by rw [List.getElem?_append_right (by omega), hxl, Nat.add_sub_cancel_left]; rfl⟩
   ·exact (hbb.keep hgs (fun x o e hB _ hs => by omega)).mono (by omega)
   ·intro e
    have e : g = b := by simpa [Value.ownBlock] using e
    exact hgb e
theorem NInv.rk {w W : World} {v : Value} {xs : List Value} {n : Nat} (h : NInv w v xs n W) (hn : 1 ≤ n) : ∃ q, IsRk w.heap.size w.heap.size q W (Rk.new n) := by
 obtain ⟨h1, h2, h3, h4⟩ := h
 rcases h2.2 with ⟨_, h0⟩ | ⟨g, cap, cur, rfl, hb, hh, c1, c2, c3, c4⟩
 ·omega
 ·have hl : (Rk.new n).l.length = n := by simp [Rk.new]
  refine ⟨g, cap, none, 0, cur, ?_, hh, ?_, trivial, by rw [hl]; exact c1, c2, Own.nil _ _ _, Nat.le_refl _, by simp, Nat.le_refl _, by omega⟩
  ·rw [h1]
   simp only [rkCells, hl]
   rfl
  ·intro i f c hi
   have hin : i < n := by have := (List.getElem?_eq_some_iff.1 hi).1; omega
   have hfc : (f, c) = (z64, none) := by
    have : (Rk.new n).l[i]? = some (z64, none) := by simp only [Rk.new, z64]; rw [List.getElem?_replicate, if_pos hin]
    rw [this] at hi
    injection hi with hi
    exact hi.symm
   injection hfc with hf hc
   subst hf hc
   obtain ⟨⟨b, c, a1, a2, a3, a4, a5⟩, a6⟩ := h3 i hin
   have at_ : ∀ j x, j < n * 2 → xs[j]? = some x → cur[j]? = some x := by
    intro j x hj hx
    rw [← c4, List.getElem?_take_of_lt hj, Array.getElem?_toList] at hx
    exact hx
   exact ⟨⟨_, at_ _ _ (by omega) a1, ⟨b, 0, c, rfl, a2, a3, a4.mono (by omega), by simp [z64]⟩⟩, ⟨_, at_ _ _ (by omega) a6, rfl⟩⟩
theorem rNewD (n : Nat) (w : World) (h1 : 1 ≤ n) (h2 : n ≤ 1000) :
  Calls Tryz.prog 12 #[.int .i64 (n : Int)] w fun e w' => ∃ p q, e = .returned (.pointer (some ⟨p, 0, none⟩)) ∧ IsRk w.heap.size p q w' (Rk.new n) ∧ Chg Non w w' := by
 obtain ⟨i0, hi0, hz0, hs0, hb0⟩ := info_parts info_one
 have HI0 := Lh (And.intro hi0 (And.intro hz0 (And.intro hs0 hb0)))
 clear hi0 hz0 hs0 hb0
 go_enter Tryz.func12, Tryz.ntmps12
 go_wp2_with fail
 go_loopw [4] (fun iv wr => ∃ k : Nat, ∃ v xs, k ≤ n ∧ iv = .int .i64 k ∧ NInv w v xs k wr) (fun iv _ => n - (intOf iv).toNat)
 case atStart =>
  refine ⟨0, .slice none 0 0, [], by omega, rfl, heap_alloc_new _ _, World.ownsRow_nil _ _ _ _, fun i h => by omega, (Chg.refl Non w).alloc _⟩
 case round =>
  obtain ⟨k, v, xs, hk, rfl, hI⟩ := hrel
  have HI := Lh hI
  have hw : w.heap.size < wr.heap.size := (Array.getElem?_eq_some_iff.1 hI.dsk).1
  have k0 : wr.cell? ⟨w.heap.size, 0, none⟩ = some v := by rw [cell_of_row _ _ _ _ _ _ hI.dsk]; rfl
  have f0 : wr.frozen? ⟨w.heap.size, 0, none⟩ = false := frozen_of_row _ _ _ _ _ hI.dsk
  clear hI
  by_cases hlt : k < n
  ·have hltd : decide ((k : Int) < (n : Int)) = true := by simpa using hlt
   go_wp2_with fail
   refine wp_region_held_drew (S := fun W => True) (by kernel_rfl) trivial (fun hHeld => ?_)
   clear hHeld
   have HI := Lh (show NInv w v xs k wr.drew from ⟨HI.out.dsk, HI.out.own, HI.out.row, HI.out.chg.drew⟩)
   have k0 : wr.drew.cell? ⟨w.heap.size, 0, none⟩ = some v := k0
   have f0 : wr.drew.frozen? ⟨w.heap.size, 0, none⟩ = false := f0
   have hw : w.heap.size < wr.drew.heap.size := hw
   generalize wr.drew = u at *
   have HU1 : Hid (Chg Non u (u.alloc (.cells (Array.replicate 64 (.int .u8 0)) 5))) := Lh ((Chg.refl Non u).alloc _)
   have hmk := mk_bytes 64 (by omega) (by omega) u
   simp only [Int.reduceToNat] at hmk
   have HU2 : Hid (Chg Non u ((u.alloc (.cells (Array.replicate 64 (.int .u8 0)) 5)).alloc (.cells #[.slice (some ⟨u.heap.size, 0, none⟩) 64 64, .slice none 0 0] 63))) := Lh (((Chg.refl Non u).alloc _).alloc _)
   have HOwn : Hid (Own u.heap.size (u.alloc (.cells (Array.replicate 64 (.int .u8 0)) 5)) (some ⟨u.heap.size, 0, none⟩) z64) := Lh (own_new u 5 _ z64 (by simp [z64, bv]))
   have HOwn2 : Hid (Own u.heap.size ((u.alloc (.cells (Array.replicate 64 (.int .u8 0)) 5)).alloc (.cells #[.slice (some ⟨u.heap.size, 0, none⟩) 64 64, .slice none 0 0] 63)) (some ⟨u.heap.size, 0, none⟩) z64) := Lh (HOwn.out.non ((Chg.refl Non _).alloc _))
   have HZ2 : Hid (((u.alloc (.cells (Array.replicate 64 (.int .u8 0)) 5)).alloc (.cells #[.slice (some ⟨u.heap.size, 0, none⟩) 64 64, .slice none 0 0] 63)).heap.size = u.heap.size + 2) := Lh (by simp)
   have HN2 : Hid (∀ (j : Nat) (x : Value), [(.slice (some ⟨u.heap.size, 0, none⟩) 64 64 : Value), .slice none 0 0][j]? = some x → ((u.alloc (.cells (Array.replicate 64 (.int .u8 0)) 5)).alloc (.cells #[.slice (some ⟨u.heap.size, 0, none⟩) 64 64, .slice none 0 0] 63)).cell? ((⟨u.heap.size + 1, 0, none⟩ : Addr).add j) = some x) := Lh (fun j x hx => by
     rw [add_plain, cell_of_row _ _ _ _ _ _ (heap_alloc2_new u _ _), Nat.zero_add]
     simpa using hx)
   refine hp 0 12 (.pointer (some ⟨w.heap.size, 0, none⟩)) rfl trivial ?_
   refine hp 1 13 (.pointer (some ⟨w.heap.size, 0, none⟩)) rfl trivial ?_
   refine hp 2 14 (.pointer (some ⟨w.heap.size, 0, none⟩)) rfl trivial ?_
   refine hp 3 15 (.pointer (some ⟨w.heap.size, 0, none⟩)) rfl trivial ?_
   refine h_twoN 4 5 (by kernel_rfl) rfl (by kernel_rfl) rfl (by kernel_rfl) ?_ ?_
   ·intro K hK
    go_simp
    refine hK.out _ _ trivial (fun _ => ?_)
    clear hK K
    try simp only [Act.put, sA, sB, sC]
    refine h1o 5 rfl ?_
    intro K hK
    go_simp
    refine hK.out _ _ trivial (fun _ => ?_)
    clear hK K
    try simp only [Act.put, sA, sB, sC]
    refine hp 6 18 (.agg #[.slice (some ⟨u.heap.size, 0, none⟩) 64 64, .slice none 0 0]) rfl trivial ?_
    refine h1o 7 rfl ?_
    intro K hK
    go_simp
    refine hK.out _ _ trivial (fun _ => ?_)
    clear hK K
    try simp only [Act.put, sA, sB, sC]
    clear k0 hmk
    refine h1o 8 rfl ?_
    intro K hK
    refine wp_append_lies _ (.tmp 16) (.tmp 19) 50 rfl (w.heap.size + 1) 63 i0 _ 2 48 Tryz.underlying50 HI0.out.1 HI0.out.2.1 HI0.out.2.2.1 HI0.out.2.2.2 rfl (by omega) v k xs rfl (own_keepN HI.out.own HU2.out (fun _ _ e => e)) ⟨u.heap.size + 1, 0, none⟩ 1 1 [.slice (some ⟨u.heap.size, 0, none⟩) 64 64, .slice none 0 0] rfl rfl HN2.out (by simp [Value.oneCell']) (by omega) (by unfold maxLen; omega) (by omega) (by have := HU2.out.size; omega) _ rfl ?_
    intro g cap u3 h2 hgrow hat hlt3
    have HG3 : Hid (Chg (fun x => v.ownBlock = some x) u u3) := Lh (Chg.grown (HU2.out.of_non) hgrow (fun g' hg' => .inl hg'))
    have HO3 : Hid (Own u.heap.size u3 (some ⟨u.heap.size, 0, none⟩) z64) := Lh (HOwn2.out.keep (S := fun x => v.ownBlock = some x) (Chg.grown (Chg.refl _ _) hgrow (fun g' hg' => .inl hg')) (fun b o e _ _ hs => by injection e with e; injection e with e _ _; subst e; have := (own_geN HI.out.own hs).2; omega))
    have HNx := Lh (HI.out.next rfl hw HG3.out HO3.out (hat.imp id (fun e => by rw [e, HZ2.out]; omega)) h2)
    have HD3 := Lh ((HG3.out.block w.heap.size hw (fun e => by have := (own_geN HI.out.own e).1; omega)).trans HI.out.dsk)
    have k0 : u3.cell? ⟨w.heap.size, 0, none⟩ = some v := by rw [cell_of_row _ _ _ _ _ _ HD3.out]; rfl
    have f0 : u3.frozen? ⟨w.heap.size, 0, none⟩ = false := frozen_of_row _ _ _ _ _ HD3.out
    clear h2 hgrow hat
    refine hK.out _ _ trivial (fun _ => ?_)
    clear hK K
    try simp only [Act.put, sA, sB, sC]
    refine hp 9 21 (.pointer (some ⟨w.heap.size, 0, none⟩)) rfl trivial ?_
    refine hp 10 22 (.pointer (some ⟨w.heap.size, 0, none⟩)) rfl trivial ?_
    refine h1o 11 rfl ?_
    intro K hK
    go_simp
    refine hK.out _ _ trivial (fun _ => ?_)
    clear hK K
    refine hdn ?_ _
    go_wp2_with fail
    case roundEnd =>
     exact ⟨⟨k + 1, _, _, by omega, by simp, HNx.out⟩, by simp [intOf]; omega⟩
   ·intro K hK
    go_simp
    refine hK.out _ _ trivial (fun _ => ?_)
    clear hK K
    try simp only [Act.put, sA, sB, sC]
    refine hp 6 18 (.agg #[.slice (some ⟨u.heap.size, 0, none⟩) 64 64, .slice none 0 0]) rfl trivial ?_
    refine h_twoN 4 7 (by kernel_rfl) rfl (by kernel_rfl) rfl (by kernel_rfl) ?_ ?_
    ·intro K hK
     go_simp
     refine hK.out _ _ trivial (fun _ => ?_)
     clear hK K
     try simp only [Act.put, sA, sB, sC]
     refine h1o 7 rfl ?_
     intro K hK
     go_simp
     refine hK.out _ _ trivial (fun _ => ?_)
     clear hK K
     try simp only [Act.put, sA, sB, sC]
     clear k0 hmk
     refine h1o 8 rfl ?_
     intro K hK
     refine wp_append_lies _ (.tmp 16) (.tmp 19) 50 rfl (w.heap.size + 1) 63 i0 _ 2 48 Tryz.underlying50 HI0.out.1 HI0.out.2.1 HI0.out.2.2.1 HI0.out.2.2.2 rfl (by omega) v k xs rfl (own_keepN HI.out.own HU2.out (fun _ _ e => e)) ⟨u.heap.size + 1, 0, none⟩ 1 1 [.slice (some ⟨u.heap.size, 0, none⟩) 64 64, .slice none 0 0] rfl rfl HN2.out (by simp [Value.oneCell']) (by omega) (by unfold maxLen; omega) (by omega) (by have := HU2.out.size; omega) _ rfl ?_
     intro g cap u3 h2 hgrow hat hlt3
     have HG3 : Hid (Chg (fun x => v.ownBlock = some x) u u3) := Lh (Chg.grown (HU2.out.of_non) hgrow (fun g' hg' => .inl hg'))
     have HO3 : Hid (Own u.heap.size u3 (some ⟨u.heap.size, 0, none⟩) z64) := Lh (HOwn2.out.keep (S := fun x => v.ownBlock = some x) (Chg.grown (Chg.refl _ _) hgrow (fun g' hg' => .inl hg')) (fun b o e _ _ hs => by injection e with e; injection e with e _ _; subst e; have := (own_geN HI.out.own hs).2; omega))
     have HNx := Lh (HI.out.next rfl hw HG3.out HO3.out (hat.imp id (fun e => by rw [e, HZ2.out]; omega)) h2)
     have HD3 := Lh ((HG3.out.block w.heap.size hw (fun e => by have := (own_geN HI.out.own e).1; omega)).trans HI.out.dsk)
     have k0 : u3.cell? ⟨w.heap.size, 0, none⟩ = some v := by rw [cell_of_row _ _ _ _ _ _ HD3.out]; rfl
     have f0 : u3.frozen? ⟨w.heap.size, 0, none⟩ = false := frozen_of_row _ _ _ _ _ HD3.out
     clear h2 hgrow hat
     refine hK.out _ _ trivial (fun _ => ?_)
     clear hK K
     try simp only [Act.put, sA, sB, sC]
     refine hp 9 21 (.pointer (some ⟨w.heap.size, 0, none⟩)) rfl trivial ?_
     refine hp 10 22 (.pointer (some ⟨w.heap.size, 0, none⟩)) rfl trivial ?_
     refine h1o 11 rfl ?_
     intro K hK
     go_simp
     refine hK.out _ _ trivial (fun _ => ?_)
     clear hK K
     refine hdn ?_ _
     go_wp2_with fail
     case roundEnd =>
      exact ⟨⟨k + 1, _, _, by omega, by simp, HNx.out⟩, by simp [intOf]; omega⟩
    ·intro K hK
     go_simp
     refine hK.out _ _ trivial (fun _ => ?_)
     clear hK K
     try simp only [Act.put, sA, sB, sC]
     refine h1o 4 rfl ?_
     intro K hK
     go_simp
     refine hK.out _ _ trivial (fun _ => ?_)
     clear hK K
     try simp only [Act.put, sA, sB, sC]
     clear k0 hmk
     refine h1o 8 rfl ?_
     intro K hK
     refine wp_append_lies _ (.tmp 16) (.tmp 19) 50 rfl (w.heap.size + 1) 63 i0 _ 2 48 Tryz.underlying50 HI0.out.1 HI0.out.2.1 HI0.out.2.2.1 HI0.out.2.2.2 rfl (by omega) v k xs rfl (own_keepN HI.out.own HU2.out (fun _ _ e => e)) ⟨u.heap.size + 1, 0, none⟩ 1 1 [.slice (some ⟨u.heap.size, 0, none⟩) 64 64, .slice none 0 0] rfl rfl HN2.out (by simp [Value.oneCell']) (by omega) (by unfold maxLen; omega) (by omega) (by have := HU2.out.size; omega) _ rfl ?_
     intro g cap u3 h2 hgrow hat hlt3
     have HG3 : Hid (Chg (fun x => v.ownBlock = some x) u u3) := Lh (Chg.grown (HU2.out.of_non) hgrow (fun g' hg' => .inl hg'))
     have HO3 : Hid (Own u.heap.size u3 (some ⟨u.heap.size, 0, none⟩) z64) := Lh (HOwn2.out.keep (S := fun x => v.ownBlock = some x) (Chg.grown (Chg.refl _ _) hgrow (fun g' hg' => .inl hg')) (fun b o e _ _ hs => by injection e with e; injection e with e _ _; subst e; have := (own_geN HI.out.own hs).2; omega))
     have HNx := Lh (HI.out.next rfl hw HG3.out HO3.out (hat.imp id (fun e => by rw [e, HZ2.out]; omega)) h2)
     have HD3 := Lh ((HG3.out.block w.heap.size hw (fun e => by have := (own_geN HI.out.own e).1; omega)).trans HI.out.dsk)
     have k0 : u3.cell? ⟨w.heap.size, 0, none⟩ = some v := by rw [cell_of_row _ _ _ _ _ _ HD3.out]; rfl
     have f0 : u3.frozen? ⟨w.heap.size, 0, none⟩ = false := frozen_of_row _ _ _ _ _ HD3.out
     clear h2 hgrow hat
     refine hK.out _ _ trivial (fun _ => ?_)
     clear hK K
     try simp only [Act.put, sA, sB, sC]
     refine hp 9 21 (.pointer (some ⟨w.heap.size, 0, none⟩)) rfl trivial ?_
     refine hp 10 22 (.pointer (some ⟨w.heap.size, 0, none⟩)) rfl trivial ?_
     refine h1o 11 rfl ?_
     intro K hK
     go_simp
     refine hK.out _ _ trivial (fun _ => ?_)
     clear hK K
     refine hdn ?_ _
     go_wp2_with fail
     case roundEnd =>
      exact ⟨⟨k + 1, _, _, by omega, by simp, HNx.out⟩, by simp [intOf]; omega⟩
  ·obtain rfl : k = n := by omega
   have hltd : decide ((k : Int) < (k : Int)) = false := by simp
   obtain ⟨q, hq⟩ := HI.out.rk h1
   have HQ := Lh hq
   clear hq
   go_wp2_with fail
   go_ret
   exact ⟨_, q, rfl, HQ.out, HI.out.chg⟩
end
section
open Go.RowKit
theorem ok_flush {D : Dk} (h : D.Ok) : D.flush.1.Ok := by
 unfold Dk.flush
 split
 ·exact h
 unfold Dk.operate
 split
 ·exact ok_fall h _
 ·have h' : ({ D with left := max (D.left - 1) 0 } : Dk).Ok := ⟨h.secs, h.keys, h.nodup, h.most, by show 0 ≤ max (D.left - 1) 0; omega⟩
  obtain ⟨h1, h2⟩ := spillTo_ok h' (fun _ => true) D.cache.length
  exact ⟨h2, by simp [Dk.spill], by simp [Dk.spill], by show (Dk.spillTo _ _ _).length ≤ 1024; rw [h1]; exact h.most, h'.left0⟩
theorem Twin.write {n : Nat} {D : Dk} {E : Rk} (h : Twin n D E) (i : Int) (b : List UInt8) : Twin n (D.write i b).1 (E.write i b).1 ∧ (D.write i b).2 = (E.write i b).2 :=
 ⟨⟨ok_write h.ok i b, Dk.write_sz h.sz h.ok.left0 i b, (write_same h.ok h.same i b).1, by rw [rlen_write]; exact h.len⟩, (write_same h.ok h.same i b).2⟩
theorem Twin.flush {n : Nat} {D : Dk} {E : Rk} (h : Twin n D E) : Twin n D.flush.1 E.flush.1 ∧ D.flush.2 = E.flush.2 :=
 ⟨⟨ok_flush h.ok, Dk.flush_sz h.sz, (flush_same h.ok h.same).1, by rw [rlen_flush]; exact h.len⟩, (flush_same h.ok h.same).2⟩
theorem Twin.ckW {n : Nat} {D : Dk} {E : Rk} (h : Twin n D E) (s : Nat) (blk : Nat → List UInt8) : ∀ k, Twin n (ckW s blk D k).1 (rkW s blk E k).1 ∧ (_root_.Go.Proofs.YtkgnlobabknkcaaGreat.ckW s blk D k).2 = (rkW s blk E k).2
 | 0 => ⟨h, rfl⟩
 | k + 1 => by
  obtain ⟨h1, h2⟩ := Twin.ckW h s blk k
  unfold _root_.Go.Proofs.YtkgnlobabknkcaaGreat.ckW rkW
  rw [h2]
  split
  ·exact h1.write _ _
  ·exact ⟨h1, h2⟩
theorem Twin.ckPut {n : Nat} {D : Dk} {E : Rk} (h : Twin n D E) (p : Nat) (blk : Nat → List UInt8) (hd : List UInt8) : Twin n (ckPut p blk hd D).1 (rkPut p blk hd E).1 ∧ (_root_.Go.Proofs.YtkgnlobabknkcaaGreat.ckPut p blk hd D).2 = (rkPut p blk hd E).2 := by
 obtain ⟨h1, h2⟩ := Twin.ckW h (132 + 96 * p) blk 95
 unfold _root_.Go.Proofs.YtkgnlobabknkcaaGreat.ckPut rkPut
 simp only
 rw [h2]
 split
 ·exact ⟨h1, h2⟩
 obtain ⟨h3, h4⟩ := h1.flush
 rw [h4]
 split
 ·exact ⟨h3, h4⟩
 obtain ⟨h5, h6⟩ := h3.write ((131 + 96 * p : Nat) : Int) hd
 rw [h6]
 split
 ·exact ⟨h5, h6⟩
 exact h5.flush
theorem Twin.putR {n : Nat} {D : Dk} {E : Rk} (h : Twin n D E) (m : Int) (hash : List UInt8) (s : Sta) : Twin n (kPutR D m hash s).1 (rPutR E m hash s).1 ∧ (kPutR D m hash s).2 = (rPutR E m hash s).2 := by
 unfold kPutR rPutR
 split
 ·exact ⟨h, rfl⟩
 ·exact h.ckPut _ _ _
theorem cat_len (D : Dk) (hok : D.Ok) (i : Nat) (hi : i < D.sec.length) : (D.at_ i).length = 64 := by
 unfold Dk.at_
 cases hl : look D.cache i with
 | some l =>
  unfold look at hl
  obtain ⟨p, hp, rfl⟩ := Option.map_eq_some_iff.1 hl
  exact (hok.keys p (List.mem_of_find?_eq_some hp)).2
 | none =>
  simp only [Option.getD_none, List.getD, List.getElem?_eq_getElem hi, Option.getD_some]
  exact hok.secs _ (List.getElem_mem hi)
theorem keyLits_u8 {P : Program} {e : TypeId} {D : Nat} (he : P.underlying e = some (.int .u8)) (b : UInt8) : P.keyLits (D + 1) e [bv b] = some [.int .u8 (b.toNat : Int)] := by
 unfold Program.keyLits bv
 rw [he]
 have hw : (Lit.int .u8 (b.toNat : Int)).wf = true := WalkArith.wf_u8 (by have := b.toNat_lt; omega)
 simp only [true_and, hw, if_true]
theorem drop_take_one {α : Type} (l : List α) (i : Nat) (h : i < l.length) : (l.drop i).take 1 = [l[i]] := by
 rw [List.drop_eq_getElem_cons h]; rfl
theorem keyLits_u8s {P : Program} {t e : TypeId} {n D : Nat} (ht : P.underlying t = some (.array n e)) (he : P.underlying e = some (.int .u8)) (hc : P.cellsOf e = 1) (hn : P.cellsOf t = n) (l : List UInt8) (hl : l.length = n) :
  P.keyLits (D + 2) t (l.map bv) = some (l.map fun b => Lit.int .u8 (b.toNat : Int)) := by
 unfold Program.keyLits
 rw [ht]
 simp only [List.length_map, hl, hn, if_true, hc, Nat.mul_one]
 have hm := Go.ChangeShapes.mapM_range_of (f := fun i => P.keyLits (D + 1) e (((l.map bv).drop i).take 1)) (g := fun i => [Lit.int .u8 ((l.getD i 0).toNat : Int)]) n (by
   intro i hi
   rw [drop_take_one _ i (by rw [List.length_map]; omega), List.getElem_map, keyLits_u8 he]
   simp [List.getD, List.getElem?_eq_getElem (show i < l.length by omega)])
 rw [hm]
 simp only [Option.map_some, Option.some.injEq]
 subst hl
 apply List.ext_getElem?
 intro i
 have hf : ((List.range l.length).map fun i => [Lit.int .u8 ((l.getD i 0).toNat : Int)]).flatten = (List.range l.length).map fun i => Lit.int .u8 ((l.getD i 0).toNat : Int) := by
  generalize List.range l.length = is
  induction is with
  | nil => rfl
  | cons j r ih => simp only [List.map_cons, List.flatten_cons, ih]; rfl
 rw [hf, List.getElem?_map, List.getElem?_map]
 by_cases hi : i < l.length
 ·rw [List.getElem?_range hi, List.getElem?_eq_getElem hi]
  simp [List.getD, List.getElem?_eq_getElem hi]
 ·rw [List.getElem?_eq_none (by simp; omega), List.getElem?_eq_none (by omega)]
  rfl
theorem StaO.from {B : Nat} {w : World} {s : Sta} {b d : Value} (h : StaO B w s b d) : StaV (From B) w s b d := ⟨OwnL.slV relPt h.ps (Nat.le_refl _), OwnL.slV relQu h.qs (Nat.le_refl _)⟩
theorem tag_neq (hash : List UInt8) (hh : hash.length = 32) (W : World) : (binOp .neq 28 (.agg (tagA hash)) (.agg (tagA hash))).run Tryz.prog W = .ok (.bool false) W := by
 have c32 : Tryz.prog.cellsOf 28 = 32 := by kernel_rfl
 have hf : (Value.agg (tagA hash)).formed Tryz.prog 28 = true := by
  unfold Value.formed
  rw [Tryz.underlying28]
  simp only [c32, tagA_size hash hh, beq_self_eq_true]
 have hk := keyLits_u8s (D := 0) Tryz.underlying28 Tryz.underlying5 (by kernel_rfl) c32 hash hh
 have h := eq_agg (P := Tryz.prog) (t := 28) (xs := tagA hash) (ys := tagA hash) (p := True) (by simp) 2 (by omega) (by kernel_rfl) hf hf hk hk W
 simpa using h.2
def BS (pd ps pm p q : Nat) : Nat → Prop := fun k => DS pd ps pm k ∨ RS p q k
structure Hf (w0 : World) (pd ps pm p q B : Nat) (D : Dk) (E : Rk) (W : World) : Prop where
 dk : IsD W pd ps pm D
 rk : IsRk B p q W E
 lo : w0.heap.size ≤ pd ∧ w0.heap.size ≤ ps ∧ w0.heap.size ≤ pm
 lt : pd < B ∧ ps < B ∧ pm < B
 chg : Chg Non w0 W
namespace Hf
variable {w0 W W' : World} {pd ps pm p q B : Nat} {D D' : Dk} {E E' : Rk}
theorem non (h : Hf w0 pd ps pm p q B D E W) (hg : Chg Non W W') : Hf w0 pd ps pm p q B D E W' := ⟨h.dk.non hg, h.rk.non hg, h.lo, h.lt, h.chg.then_non hg⟩
theorem dstep (h : Hf w0 pd ps pm p q B D E W) (hd : IsD W' pd ps pm D') (hg : Chg (DS pd ps pm) W W') : Hf w0 pd ps pm p q B D' E W' := by
 obtain ⟨h1, h2, h3, h4, h5⟩ := h
 refine ⟨hd, h2.keep hg ?_, h3, h4, h5.then_new hg ?_⟩
 ·rintro x (rfl | rfl | rfl)
  ·exact h4.1
  ·exact h4.2.1
  ·exact h4.2.2
 ·rintro x (rfl | rfl | rfl)
  ·exact h3.1
  ·exact h3.2.1
  ·exact h3.2.2
theorem rstep (h : Hf w0 pd ps pm p q B D E W) (hr : IsRk B p q W' E') (hg : RChg p q W W') : Hf w0 pd ps pm p q B D E' W' := by
 obtain ⟨h1, h2, h3, h4, h5⟩ := h
 have hge := h2.ge
 refine ⟨?_, hr, h3, h4, h5.then_new hg.chg ?_⟩
 ·obtain ⟨hok, A, c, a1, a2, a3, a4, a5⟩ := h1
  have l1 := (Array.getElem?_eq_some_iff.1 a1).1
  have l2 := (Array.getElem?_eq_some_iff.1 a2).1
  have off : ∀ k, k < B → ¬ RS p q k := by
   rintro k hk (rfl | rfl)
   ·omega
   ·omega
  exact ⟨hok, A, c, (hg.chg.block pd l1 (off _ h4.1)).trans a1, (hg.chg.block ps l2 (off _ h4.2.1)).trans a2, a3.keep hg.chg (off _ h4.2.2), a4.ref hg, a5⟩
 ·rintro x (rfl | rfl)
  ·omega
  ·omega
theorem ltd (h : Hf w0 pd ps pm p q B D E W) : ∀ k, BS pd ps pm p q k → k < W.heap.size := by
 have h1 := h.dk.lt
 have h2 := h.rk.lt
 rintro k ((rfl | rfl | rfl) | (rfl | rfl))
 ·exact h1.1
 ·exact h1.2.1
 ·exact h1.2.2
 ·exact h2.1
 ·exact h2.2
theorem off (h : Hf w0 pd ps pm p q B D E W) {A : Option Addr} {l : List UInt8} (hr : Rd w0 A l) : ∀ b o, A = some ⟨b, o, none⟩ → l ≠ [] → b < w0.heap.size := by
 rintro b o rfl hl
 obtain ⟨b', o', e, hlt, _⟩ := hr.at_ (List.length_pos_iff.2 hl)
 injection e with e
 injection e with e _ _
 omega
end Hf
section
variable {w0 W : World} {pd ps pm p q B n : Nat} {D : Dk} {E : Rk}
theorem hf_rwrite (h : Hf w0 pd ps pm p q B D E W) (hz : E.Sz) (i : Int) (A : Option Addr) (b : List UInt8) (c : Nat) (hr : Rd W A b) (hb : b.length ≤ 140737488351232) :
  Calls Tryz.prog 46 #[.pointer (some ⟨p, 0, none⟩), .int .i64 i, .slice A b.length c] W fun e W' => e = .returned (.int .i64 (E.write i b).2) ∧ Hf w0 pd ps pm p q B D (E.write i b).1 W' ∧ Chg (BS pd ps pm p q) W W' := by
 refine (rWrite B p q E i A b c W h.rk hz hr hb).mono ?_
 rintro e u ⟨rfl, hd, hg⟩
 exact ⟨rfl, h.rstep hd hg, hg.chg.mono (fun x e => .inr e)⟩
theorem hf_dflush (h : Hf w0 pd ps pm p q B D E W) (hz : D.Sz) :
  Calls Tryz.prog 35 #[.pointer (some ⟨pd, 0, none⟩)] W fun e W' => e = .returned (.int .i64 D.flush.2) ∧ Hf w0 pd ps pm p q B D.flush.1 E W' ∧ Chg (BS pd ps pm p q) W W' := by
 refine (Flush_any pd ps pm D W h.dk hz).mono ?_
 rintro e u ⟨rfl, hd, hg⟩
 exact ⟨rfl, h.dstep hd hg, hg.mono (fun x e => .inl e)⟩
theorem hf_rflush (h : Hf w0 pd ps pm p q B D E W) (hz : E.Sz) :
  Calls Tryz.prog 47 #[.pointer (some ⟨p, 0, none⟩)] W fun e W' => e = .returned (.int .i64 E.flush.2) ∧ Hf w0 pd ps pm p q B D E.flush.1 W' ∧ Chg (BS pd ps pm p q) W W' := by
 refine (rFlush B p q E W h.rk hz).mono ?_
 rintro e u ⟨rfl, hd, hg⟩
 exact ⟨rfl, h.rstep hd hg, hg.chg.mono (fun x e => .inr e)⟩
theorem hf_dcrash (h : Hf w0 pd ps pm p q B D E W) (A : Option Addr) (b : List UInt8) (c : Nat) (hr : Rd w0 A b) (hb : b.length ≤ 140737488351232) :
  Calls Tryz.prog 41 #[.pointer (some ⟨pd, 0, none⟩), .slice A b.length c] W fun e W' => e = .returned (.int .i64 (D.crash b).2) ∧ Hf w0 pd ps pm p q B (D.crash b).1 E W' ∧ Chg (BS pd ps pm p q) W W' := by
 have hlo := h.lo
 refine (Crash_any pd ps pm D A b c W h.dk (hr.non h.chg) (fun x o e hl hs => by have := h.off hr x o e hl; rcases hs with rfl | rfl | rfl <;> omega) hb).mono ?_
 rintro e u ⟨rfl, hd, hg⟩
 exact ⟨rfl, h.dstep hd hg, hg.mono (fun x e => .inl e)⟩
theorem hf_rcrash (h : Hf w0 pd ps pm p q B D E W) (hz : E.Sz) (A : Option Addr) (b : List UInt8) (c : Nat) (hr : Rd w0 A b) (hb : b.length ≤ 140737488351232) :
  Calls Tryz.prog 42 #[.pointer (some ⟨p, 0, none⟩), .slice A b.length c] W fun e W' => e = .returned (.int .i64 (E.crash b).2) ∧ Hf w0 pd ps pm p q B D (E.crash b).1 W' ∧ Chg (BS pd ps pm p q) W W' := by
 refine (rCrash B p q E A b c W h.rk hz (hr.non h.chg) hb).mono ?_
 rintro e u ⟨rfl, hd, hg⟩
 exact ⟨rfl, h.rstep hd hg, hg.chg.mono (fun x e => .inr e)⟩
theorem hf_dstart (h : Hf w0 pd ps pm p q B D E W) :
  Calls Tryz.prog 27 #[.pointer (some ⟨pd, 0, none⟩)] W fun e W' => e = .returned (.int .i64 D.start.2) ∧ Hf w0 pd ps pm p q B D.start.1 E W' ∧ Chg (BS pd ps pm p q) W W' := by
 refine (Start_any pd ps pm D W h.dk).mono ?_
 rintro e u ⟨rfl, hd, hg⟩
 exact ⟨rfl, h.dstep hd hg, hg.mono (fun x e => .inl e)⟩
theorem hf_rstart (h : Hf w0 pd ps pm p q B D E W) :
  Calls Tryz.prog 43 #[.pointer (some ⟨p, 0, none⟩)] W fun e W' => e = .returned (.int .i64 E.start.2) ∧ Hf w0 pd ps pm p q B D E.start.1 W' ∧ Chg (BS pd ps pm p q) W W' := by
 refine (rStart B p q E W h.rk).mono ?_
 rintro e u ⟨rfl, hd, hg⟩
 exact ⟨rfl, h.rstep hd hg, hg.chg.mono (fun x e => .inr e)⟩
end
theorem Arm_any (pd ps pm : Nat) (D : Dk) (n : Int) (B : Option Addr) (l : List UInt8) (cb : Nat) (w : World) (h : IsD w pd ps pm D) (hr : Rd w B l) (hl : l.length ≤ 140737488351232) :
  Calls Tryz.prog 26 #[.pointer (some ⟨pd, 0, none⟩), .int .i64 n, .slice B l.length cb] w fun e w' => e = .returned (.int .i64 (D.arm n l).2) ∧ IsD w' pd ps pm (D.arm n l).1 ∧ Chg (DS pd ps pm) w w' := by
 have hrd := ready_ok pd ps pm D w h
 unfold Dk.arm
 by_cases hup : D.up = false
 ·rw [if_pos hup]
  have hr1 : D.ready = 60 := by unfold Dk.ready; rw [hup]; rfl
  rw [hr1] at hrd
  have HR := Lh hrd
  have HD := Lh h
  clear hrd hr1 hup h hr
  go_enter Tryz.func26, Tryz.ntmps26
  go_wp2_with fail
  refine HR.out.mono ?_
  rintro e w' ⟨rfl, rfl⟩
  go_wp2
  go_ret
  exact ⟨rfl, HD.out, Chg.refl _ _⟩
 ·rw [if_neg hup]
  have hup : D.up = true := by simpa using hup
  by_cases hn : n < 1
  ·rw [if_pos hn]
   have hr1 : D.ready = 0 := by unfold Dk.ready; rw [hup]; rfl
   rw [hr1] at hrd
   have HR := Lh hrd
   have HD := Lh h
   have hb : decide (n < 1) = true := decide_eq_true hn
   clear hrd hr1 hup h hr hn
   go_enter Tryz.func26, Tryz.ntmps26
   go_wp2_with fail
   refine HR.out.mono ?_
   rintro e w' ⟨rfl, rfl⟩
   go_wp2
   go_ret
   exact ⟨rfl, HD.out, Chg.refl _ _⟩
  ·rw [if_neg hn]
   exact Arm_up pd ps pm D n B l cb w h hup hr hl (by omega)
section
variable {w0 W : World} {pd ps pm p q B n : Nat} {D : Dk} {E : Rk}
theorem hf_darm (h : Hf w0 pd ps pm p q B D E W) (i : Int) (A : Option Addr) (b : List UInt8) (c : Nat) (hr : Rd w0 A b) (hb : b.length ≤ 140737488351232) :
  Calls Tryz.prog 26 #[.pointer (some ⟨pd, 0, none⟩), .int .i64 i, .slice A b.length c] W fun e W' => e = .returned (.int .i64 (D.arm i b).2) ∧ Hf w0 pd ps pm p q B (D.arm i b).1 E W' ∧ Chg (BS pd ps pm p q) W W' := by
 refine (Arm_any pd ps pm D i A b c W h.dk (hr.non h.chg) hb).mono ?_
 rintro e u ⟨rfl, hd, hg⟩
 exact ⟨rfl, h.dstep hd hg, hg.mono (fun x e => .inl e)⟩
theorem hf_rarm (h : Hf w0 pd ps pm p q B D E W) (i : Int) (A : Option Addr) (b : List UInt8) (c : Nat) (hr : Rd w0 A b) (hb : b.length ≤ 140737488351232) :
  Calls Tryz.prog 44 #[.pointer (some ⟨p, 0, none⟩), .int .i64 i, .slice A b.length c] W fun e W' => e = .returned (.int .i64 (E.arm i b).2) ∧ Hf w0 pd ps pm p q B D (E.arm i b).1 W' ∧ Chg (BS pd ps pm p q) W W' := by
 refine (rArm B p q E i A b c W h.rk (hr.non h.chg) hb).mono ?_
 rintro e u ⟨rfl, hd, hg⟩
 exact ⟨rfl, h.rstep hd hg, hg.chg.mono (fun x e => .inr e)⟩
end
theorem Flushed_ok (pd ps pm : Nat) (D : Dk) (i : Nat) (w : World) (h : IsD w pd ps pm D) (hi : i < D.sec.length) :
  Calls Tryz.prog 20 #[.pointer (some ⟨pd, 0, none⟩), .int .i64 (i : Int)] w (RetB w (D.sec.getD i [])) := by
 obtain ⟨A, c, _, h1, h2, _⟩ := h.cells
 have hok := h.1
 have hhas := has_ok pd ps pm D i w h
 rw [decide_eq_true (show (0 : Int) ≤ i ∧ (i : Int) < D.sec.length from ⟨by omega, by omega⟩)] at hhas
 have HH := Lh hhas
 clear hhas
 have hlen : D.sec.length ≤ 1024 := hok.most
 have hrg := sec_range h.2.choose_spec.choose_spec.2.1 hok.secs i hi
 have hsl := hok.secs _ (List.getElem_mem hi)
 have hgd : D.sec.getD i [] = D.sec[i]'hi := by simp [List.getD, List.getElem?_eq_getElem hi]
 rw [hgd]
 obtain ⟨s, hs⟩ : ∃ s, D.sec[i]'hi = s := ⟨_, rfl⟩
 rw [hs] at hrg hsl ⊢
 have hrd : Rd w (some ⟨ps, i * 64, none⟩) s := by
  refine Rd.of_at (fun j hj => hrg j _ ?_)
  simp [bv, hj]
 have HC := Lh (Clone_any (some ⟨ps, i * 64, none⟩) s 64 w hrd (by omega))
 rw [hsl] at HC
 have HS := Lh hsl
 clear hs hgd hrg hsl hrd hok h h2
 go_enter Tryz.func20, Tryz.ntmps20
 go_wp2_with fail
 refine HH.out.mono ?_
 rintro e w' ⟨rfl, rfl⟩
 go_wp2_with fail
 refine HC.out.mono ?_
 rintro e u ⟨A2, c2, rfl, g1, g2, g3, g4⟩
 have HG3 := Lh g3
 have HG4 := Lh g4
 clear g3 g4
 go_wp2_with fail
 go_ret
 exact ⟨A2, c2, rfl, g1, g2, HG3.out, HG4.out⟩
def dAt (D : Dk) (i : Nat) : List UInt8 := if D.up = false then [] else D.at_ i
def RdE (W0 : World) (l : List UInt8) (e : Ending) (W : World) : Prop := ∃ A c er, e = .returned (.tuple #[.slice A l.length c, er]) ∧ l.length ≤ c ∧ c ≤ maxLen ∧ Rd W A l ∧ Chg Non W0 W
section
variable {w0 W : World} {pd ps pm p q B n : Nat} {D : Dk} {E : Rk}
theorem hf_up (h : Hf w0 pd ps pm p q B D E W) : Calls Tryz.prog 14 #[.pointer (some ⟨pd, 0, none⟩)] W fun e W' => e = .returned (.bool D.up) ∧ W = W' := Up_ok pd ps pm D W h.dk
theorem dAt_len (h : D.Ok) {i : Nat} (hi : i < D.sec.length) : (dAt D i).length ≤ 64 := by
 unfold dAt
 split
 ·simp
 ·rw [cat_len D h i hi]; exact Nat.le_refl _
theorem hf_read (h : Hf w0 pd ps pm p q B D E W) (tw : Twin n D E) (k : Nat) (hk : k < n) :
  Calls Tryz.prog 17 #[.pointer (some ⟨pd, 0, none⟩), .int .i64 (k : Int)] W (RdE W (dAt D k)) := by
 unfold dAt
 cases hup : D.up with
 | false =>
  refine (Read_down pd ps pm D k W h.dk hup).mono ?_
  rintro e u ⟨rfl, rfl⟩
  exact ⟨none, 0, _, rfl, Nat.le_refl _, by simp, Rd.nil _ _, Chg.refl _ _⟩
 | true =>
  rw [if_neg (by simp)]
  refine (Read_any pd ps pm D k W h.dk hup (by rw [tw.dlen]; exact hk)).mono ?_
  rintro e u ⟨A, c, rfl, h1, h2, h3, h4⟩
  exact ⟨A, c, _, rfl, h1, h2, h3.rd, h4⟩
theorem hf_rread (h : Hf w0 pd ps pm p q B D E W) (tw : Twin n D E) (k : Nat) (hk : k < n) :
  Calls Tryz.prog 18 #[.pointer (some ⟨p, 0, none⟩), .int .i64 (k : Int)] W (RdE W (dAt D k)) := by
 unfold dAt
 have hud := up_iff tw.same
 by_cases hup : D.up = false
 ·rw [if_pos hup]
  refine (rRead_down B p q E k W h.rk (by rw [← hud]; exact hup)).mono ?_
  rintro e u ⟨rfl, rfl⟩
  exact ⟨none, 0, _, rfl, Nat.le_refl _, by simp, Rd.nil _ _, Chg.refl _ _⟩
 ·rw [if_neg hup]
  obtain ⟨⟨f, c⟩, hx⟩ : ∃ x, E.l[k]? = some x := ⟨_, List.getElem?_eq_getElem (by rw [tw.len]; exact hk)⟩
  have hs := at_same tw.same k f c hx
  refine (rRead_ok B p q E k f c W h.rk (by rw [hud] at hup; simpa using hup) hx).mono ?_
  rintro e u ⟨A, c2, rfl, h1, h2, h3, h4, h5⟩
  rw [hs.1]
  exact ⟨A, c2, _, by rw [h3], by rw [h3]; exact h1, h2, h4.rd, h5⟩
theorem hf_flushed (h : Hf w0 pd ps pm p q B D E W) (tw : Twin n D E) (k : Nat) (hk : k < n) :
  Calls Tryz.prog 20 #[.pointer (some ⟨pd, 0, none⟩), .int .i64 (k : Int)] W (RetB W (D.sec.getD k [])) :=
 Flushed_ok pd ps pm D k W h.dk (by rw [tw.dlen]; exact hk)
theorem hf_rflushed (h : Hf w0 pd ps pm p q B D E W) (tw : Twin n D E) (k : Nat) (hk : k < n) :
  (∃ cap, W.cell? ⟨p, 0, none⟩ = some (.slice (some ⟨q, 0, none⟩) n cap) ∧ n ≤ cap ∧ cap ≤ maxLen) ∧ ∃ b o kk, W.cell? ⟨q, k * 2, none⟩ = some (.slice (some ⟨b, o, none⟩) 64 kk) ∧ Rd W (some ⟨b, o, none⟩) (D.sec.getD k []) ∧ (D.sec.getD k []).length = 64 := by
 obtain ⟨cap, A3, c3, k0, k1, k2, k3, fp, fq, z1, z2, _⟩ := h.rk.cells
 rw [tw.len] at k0 z1
 obtain ⟨⟨f, c⟩, hx⟩ : ∃ x, E.l[k]? = some x := ⟨_, List.getElem?_eq_getElem (by rw [tw.len]; exact hk)⟩
 have hs := at_same tw.same k f c hx
 obtain ⟨⟨v1, r1, b, o, kk, rfl, g1, g2, g3, g4⟩, _⟩ := h.rk.row hx
 rw [hs.2]
 exact ⟨⟨cap, k0, z1, z2⟩, b, o, kk, r1, g3.rd, g4⟩
end
def PS (w0 : World) (pd ps pm p q B n : Nat) (W : World) : Prop := ∃ D E, Hf w0 pd ps pm p q B D E W ∧ Twin n D E
theorem PS.non {w0 W W' : World} {pd ps pm p q B n : Nat} (h : PS w0 pd ps pm p q B n W) (hg : Chg Non W W') : PS w0 pd ps pm p q B n W' := by
 obtain ⟨D, E, h1, h2⟩ := h
 exact ⟨D, E, h1.non hg, h2⟩
theorem PS.chg {w0 W : World} {pd ps pm p q B n : Nat} (h : PS w0 pd ps pm p q B n W) : Chg Non w0 W := by
 obtain ⟨D, E, h1, h2⟩ := h
 exact h1.chg
def gRes (D : Dk) : Option (Int × List UInt8 × Sta) := if D.up = true then kGet D else none
def gEr (D : Dk) : Int := if D.up = true then 250 else 60
def TelG (r : Option (Int × List UInt8 × Sta)) (er : Int) (w : World) (e : Ending) (w' : World) : Prop :=
 ∃ n X F A1 n1 c1 A2 n2 c2 er', e = .returned (.tuple #[.int .i64 n, .agg X, .agg #[.int .i64 F, .slice A1 n1 c1, .slice A2 n2 c2], .int .i64 er']) ∧ (n, X, F, er') = (match r with | none => (0, tagA zTag, 0, er) | some x => (x.1, tagA x.2.1, x.2.2.frames, 0)) ∧ (∃ hash, X = tagA hash ∧ hash.length = 32) ∧ Chg Non w w' ∧
  StaV (From w.heap.size) w' (match r with | none => ⟨0, [], []⟩ | some x => x.2.2) (.slice A1 n1 c1) (.slice A2 n2 c2)
theorem staV_nil (I : Nat → Prop) (w : World) : StaV I w ⟨0, [], []⟩ (.slice none 0 0) (.slice none 0 0) :=
 ⟨⟨none, 0, rfl, Nat.le_refl _, by simp, RdL.nil _ _ _ _ _⟩, ⟨none, 0, rfl, Nat.le_refl _, by simp, RdL.nil _ _ _ _ _⟩⟩
theorem TelG.no {r : Option (Int × List UInt8 × Sta)} {er : Int} {w w' : World} (hr : r = none) (hg : Chg Non w w') : TelG r er w (.returned (.tuple #[.int .i64 0, .agg (tagA zTag), .agg zStC, .int .i64 er])) w' := by
 subst hr
 exact ⟨0, tagA zTag, 0, none, 0, 0, none, 0, 0, er, rfl, rfl, ⟨zTag, rfl, by decide⟩, hg, staV_nil _ _⟩
theorem TelG.yes {r : Option (Int × List UInt8 × Sta)} {er n : Int} {hash : List UInt8} {s : Sta} {b d : Value} {w w' : World} (hr : r = some (n, hash, s)) (hh : hash.length = 32) (hg : Chg Non w w') (hs : StaV (From w.heap.size) w' s b d) : TelG r er w (.returned (.tuple #[.int .i64 n, .agg (tagA hash), .agg #[.int .i64 s.frames, b, d], .int .i64 0])) w' := by
 subst hr
 have hs' := hs
 obtain ⟨⟨A, c, rfl, _⟩, ⟨A2, c2, rfl, _⟩⟩ := hs
 exact ⟨n, tagA hash, s.frames, A, _, c, A2, _, c2, 0, rfl, rfl, ⟨hash, rfl, hh⟩, hg, hs'⟩
section
variable {w0 W : World} {pd ps pm p q B n : Nat} {D : Dk} {E : Rk}
theorem hf_dput25 (I : Nat → Prop) (h : Hf w0 pd ps pm p q B D E W) (tw : Twin 323 D E) (m : Int) (hash : List UInt8) (s : Sta) (vb vd : Value) (hs : StaV I w0 s vb vd) (hI : ∀ b, I b → b < w0.heap.size) (hh : hash.length = 32) (hm : I64 m) :
  Calls Tryz.prog 11 #[.pointer (some ⟨pd, 0, none⟩), .int .i64 m, .agg (tagA hash), .agg #[.int .i64 s.frames, vb, vd]] W fun e W' => e = .returned (.int .i64 (kPutR D m hash s).2) ∧ Hf w0 pd ps pm p q B (kPutR D m hash s).1 E W' ∧ Chg (BS pd ps pm p q) W W' := by
 refine (kPut_in I pd ps pm D m hash s vb vd W h.dk tw.sz (by rw [tw.dlen]; omega) (hs.non h.chg) (fun b hb => Nat.lt_of_lt_of_le (hI b hb) h.chg.size) hh hm).mono ?_
 rintro e u ⟨rfl, hd, hg⟩
 exact ⟨rfl, h.dstep hd hg, hg.mono (fun x e => .inl e)⟩
theorem hf_rput25 (I : Nat → Prop) (h : Hf w0 pd ps pm p q B D E W) (hz : E.Sz) (m : Int) (hash : List UInt8) (s : Sta) (vb vd : Value) (hs : StaV I w0 s vb vd) (hI : ∀ b, I b → b < w0.heap.size) (hh : hash.length = 32) (hm : I64 m) :
  Calls Tryz.prog 40 #[.pointer (some ⟨p, 0, none⟩), .int .i64 m, .agg (tagA hash), .agg #[.int .i64 s.frames, vb, vd]] W fun e W' => e = .returned (.int .i64 (rPutR E m hash s).2) ∧ Hf w0 pd ps pm p q B D (rPutR E m hash s).1 W' ∧ Chg (BS pd ps pm p q) W W' := by
 refine (r25Put I B p q E m hash s vb vd W h.rk hz (hs.non h.chg) (fun b hb => Nat.lt_of_lt_of_le (hI b hb) h.chg.size) hh hm).mono ?_
 rintro e u ⟨rfl, hd, hg⟩
 exact ⟨rfl, h.rstep hd hg, hg.chg.mono (fun x e => .inr e)⟩
theorem hf_dget25 (h : Hf w0 pd ps pm p q B D E W) (tw : Twin 323 D E) :
  Calls Tryz.prog 10 #[.pointer (some ⟨pd, 0, none⟩)] W (TelG (gRes D) (gEr D) W) := by
 refine (Get_in pd ps pm D W h.dk (by rw [tw.dlen]; omega)).mono ?_
 rintro e u ⟨⟨hu, rfl⟩ | ⟨hu, hl, _⟩ | ⟨hu, hl, hk, rfl⟩ | ⟨hu, hl, m, hash, s, vb, vd, hk, hh, rfl, hs⟩, hg⟩
 ·have e1 : gEr D = 60 := by unfold gEr; rw [hu]; rfl
  rw [e1]
  exact TelG.no (by unfold gRes; rw [hu]; rfl) hg
 ·rw [tw.dlen] at hl; omega
 ·have e1 : gEr D = 250 := by unfold gEr; rw [if_pos hu]
  rw [e1]
  exact TelG.no (by unfold gRes; rw [if_pos hu, hk]) hg
 ·exact TelG.yes (by unfold gRes; rw [if_pos hu, hk]) hh hg hs.from
theorem hf_rget25 (h : Hf w0 pd ps pm p q B D E W) (tw : Twin 323 D E) :
  Calls Tryz.prog 15 #[.pointer (some ⟨p, 0, none⟩)] W (TelG (gRes D) (gEr D) W) := by
 have hup := tw.same.up
 cases hd : E.down with
 | true =>
  have hu : D.up = false := by rw [hup, hd]; rfl
  refine (r25Get_down B p q E W h.rk hd).mono ?_
  rintro e u ⟨rfl, hg⟩
  have e1 : gEr D = 60 := by unfold gEr; rw [hu]; rfl
  rw [e1]
  exact TelG.no (by unfold gRes; rw [hu]; rfl) hg
 | false =>
  have hu : D.up = true := by rw [hup, hd]; rfl
  refine (r25Get_up B p q E W h.rk hd tw.len).mono ?_
  have e1 : gEr D = 250 := by unfold gEr; rw [if_pos hu]
  have e2 : gRes D = rKGet E := by unfold gRes; rw [if_pos hu, rKGet_twin tw (by omega)]
  rw [e1, e2]
  rintro e u ⟨⟨hr, rfl⟩ | ⟨m, hash, s, b, d, hr, hh, _, _, rfl, hs⟩, hg⟩
  ·exact TelG.no hr hg
  ·exact TelG.yes hr hh hg hs
end
end
section
open Go.RowKit
theorem weight_any (I : Nat → Prop) (s : Sta) (vb vd : Value) (w : World) (h : StaV I w s vb vd) :
  Calls Tryz.prog 22 #[.agg #[.int .i64 s.frames, vb, vd]] w fun e w' => ∃ x : Int, e = .returned (.int .i64 x) ∧ Chg Non w w' := by
 obtain ⟨⟨A, c, rfl, hc, hcm, hrp⟩, ⟨A2, c2, rfl, hc2, hcm2, hrq⟩⟩ := h
 unfold maxLen at hcm hcm2
 have HP := Lh hrp
 have HQ := Lh hrq
 clear hrp hrq
 go_enter Tryz.func22, Tryz.ntmps22
 go_wp2_with fail
 obtain ⟨W1, hW1⟩ : ∃ W1, w.alloc (.cells #[.int .i64 s.frames, .slice A s.parts.length c, .slice A2 s.queues.length c2] 25) = W1 := ⟨_, rfl⟩
 have HG1 : Hid (Chg Non w W1) := Lh (by rw [← hW1]; exact (Chg.refl Non w).alloc _)
 have hlt0 : w.heap.size < W1.heap.size := by rw [← hW1]; simp
 have HB : Hid (W1.heap[w.heap.size]? = some (.cells #[.int .i64 s.frames, .slice A s.parts.length c, .slice A2 s.queues.length c2] 25 (0, 0))) := Lh (by rw [← hW1]; exact blk_new _ _)
 rw [hW1]
 clear hW1
 go_loopw [4, 3] (fun iv sv wr => ∃ (k : Nat) (x : Int), k ≤ s.parts.length ∧ iv = .int .i64 k ∧ sv = .int .i64 x ∧ Hid (Chg Non W1 wr)) (fun iv _ _ => s.parts.length - (intOf iv).toNat)
 case atStart => exact ⟨0, 500, Nat.zero_le _, rfl, rfl, Lh (Chg.refl _ _)⟩
 case round =>
  obtain ⟨k, x, hk, rfl, rfl, HG⟩ := hrel
  have c1r := blk_cell (blk_keep HB.out HG.out (fun e => e)) 1 (v := .slice A s.parts.length c) rfl
  have c2r := blk_cell (blk_keep HB.out HG.out (fun e => e)) 2 (v := .slice A2 s.queues.length c2) rfl
  have hltr : w.heap.size < wr.heap.size := Nat.lt_of_lt_of_le hlt0 HG.out.size
  by_cases hlt : k < s.parts.length
  ·have hltd : decide ((k : Int) < (s.parts.length : Int)) = true := by simpa using hlt
   obtain ⟨a, ha⟩ : ∃ a, s.parts[k]? = some a := ⟨_, List.getElem?_eq_getElem hlt⟩
   obtain ⟨b, o, vs, rfl, _, hl, hcell, m, rfl, ⟨Am, cm, rfl, _⟩, hbd, hml⟩ := HP.out k a ha
   have k13 := (HG1.out.then_non HG.out).cell_some (hcell 13 (.slice Am a.mem.length cm) (by
     have h := partC_end hbd.r8 (.slice Am a.mem.length cm) 2 (by omega)
     simpa [partC] using h)) (fun e => e)
   have hbl := lt_of_cell k13
   clear ha hcell hl hbd
   go_wp2_with fail
   all_goals exact ⟨⟨k + 1, _, by omega, by simp, rfl, HG⟩, by simp [intOf]; omega⟩
  ·obtain rfl : k = s.parts.length := by omega
   have hltd : decide ((s.parts.length : Int) < (s.parts.length : Int)) = false := by simp
   have HG2 := Lh (HG1.out.then_non HG.out)
   have HB2 := Lh (blk_keep HB.out HG.out (fun e => e))
   clear HG
   obtain ⟨W2, hW2⟩ : ∃ W2, W2 = wr := ⟨_, rfl⟩
   subst hW2
   go_wp2_with fail
   clear c1r c2r hk hlt hltd
   go_loopw [5, 3] (fun jv sv wr => ∃ (q : Nat) (x : Int), q ≤ s.queues.length ∧ jv = .int .i64 q ∧ sv = .int .i64 x ∧ Hid (Chg Non W2 wr)) (fun jv _ _ => s.queues.length - (intOf jv).toNat)
   case atStart => exact ⟨0, x, Nat.zero_le _, rfl, rfl, Lh (Chg.refl _ _)⟩
   case round =>
    obtain ⟨q, y, hq, rfl, rfl, HGq⟩ := hrel
    have c2r := blk_cell (blk_keep HB2.out HGq.out (fun e => e)) 2 (v := .slice A2 s.queues.length c2) rfl
    have hltq : w.heap.size < wr.heap.size := Nat.lt_of_lt_of_le hltr HGq.out.size
    by_cases hlt : q < s.queues.length
    ·have hltd : decide ((q : Int) < (s.queues.length : Int)) = true := by simpa using hlt
     obtain ⟨a, ha⟩ : ∃ a, s.queues[q]? = some a := ⟨_, List.getElem?_eq_getElem hlt⟩
     obtain ⟨b, o, vs, rfl, _, hl, hcell, m, rfl, ⟨Am, cm, rfl, hcm1, hcm3, hrm⟩, hbd, hml⟩ := HQ.out q a ha
     have k5 := hcell 5 (.slice Am a.msgs.length cm) rfl
     have HK5 := Lh (HG2.out.cell_some k5 (fun e => e))
     have HRM := Lh (hrm.keep HG2.out (fun _ _ e => e) (fun a vs _ h => msgV.keep h HG2.out (fun _ _ e => e)))
     clear ha hcell hl hbd k5 hrm
     obtain ⟨W3, hW3⟩ : ∃ W3, W3 = wr := ⟨_, rfl⟩
     subst hW3
     unfold maxLen at hcm3
     go_wp2_with fail
     go_loopw [6, 3] (fun jv sv wr => ∃ (r : Nat) (x : Int), r ≤ a.msgs.length ∧ jv = .int .i64 r ∧ sv = .int .i64 x ∧ Hid (Chg Non W2 wr)) (fun jv _ _ => a.msgs.length - (intOf jv).toNat)
     case atStart => exact ⟨0, y, Nat.zero_le _, rfl, rfl, HGq⟩
     case round =>
      obtain ⟨r, z, hr, rfl, rfl, HGr⟩ := hrel
      have c2s := blk_cell (blk_keep HB2.out HGr.out (fun e => e)) 2 (v := .slice (some ⟨b, o, none⟩) s.queues.length c2) rfl
      have hlts : w.heap.size < wr.heap.size := Nat.lt_of_lt_of_le hltr HGr.out.size
      have k5r := HGr.out.cell_some HK5.out (fun e => e)
      have hbl := lt_of_cell k5r
      by_cases hlt : r < a.msgs.length
      ·have hltd2 : decide ((r : Int) < (a.msgs.length : Int)) = true := by simpa using hlt
       obtain ⟨ms, hms⟩ : ∃ x, a.msgs[r]? = some x := ⟨_, List.getElem?_eq_getElem hlt⟩
       obtain ⟨b5, o5, vs5, rfl, _, hl5, hcell5, m5, rfl, ⟨Ax, cx, rfl, _⟩, _⟩ := HRM.out r ms hms
       have k6 := hcell5 0 _ rfl
       simp only [Nat.mul_one, Nat.add_zero] at k6
       have k6r := HGr.out.cell_some k6 (fun e => e)
       have hbl5 := lt_of_cell k6r
       clear hms hcell5 hl5 k6
       go_wp2_with fail
       all_goals first
        | exact ⟨⟨r + 1, _, by omega, by simp, rfl, HGr⟩, by simp [intOf]; omega⟩
        | (go_ret; exact ⟨⟨_, rfl⟩, HG2.out.then_non HGr.out⟩)
      ·obtain rfl : r = a.msgs.length := by omega
       have hltd2 : decide ((a.msgs.length : Int) < (a.msgs.length : Int)) = false := by simp
       go_wp2_with fail
       all_goals exact ⟨⟨q + 1, _, by omega, by simp, rfl, HGr⟩, by simp [intOf]; omega⟩
    ·obtain rfl : q = s.queues.length := by omega
     have hltd : decide ((s.queues.length : Int) < (s.queues.length : Int)) = false := by simp
     go_wp2_with fail
     go_ret
     exact ⟨_, rfl, HG2.out.then_non HGq.out⟩
end
section
open Go.RowKit
structure Ac where
 kind : Int
 n : Int
 sec : Int
 hash : List UInt8
 s : Sta
 b : List UInt8
def acL (a : Ac) (vb vd m : Value) : List Value := .int .i64 a.kind :: .int .i64 a.n :: .int .i64 a.sec :: (a.hash.map bv ++ [.int .i64 a.s.frames, vb, vd, m])
def acV (I : Nat → Prop) : World → Ac → List Value → Prop := fun w a vs => ∃ vb vd A c, vs = acL a vb vd (.slice A a.b.length c) ∧ a.hash.length = 32 ∧ (I64 a.kind ∧ I64 a.n ∧ I64 a.sec) ∧ StaV I w a.s vb vd ∧ Rd w A a.b ∧ a.b.length ≤ 140737488351232
theorem acL_len (a : Ac) (vb vd m : Value) (hh : a.hash.length = 32) : (acL a vb vd m).length = 39 := by simp [acL, hh]
theorem acL_at (a : Ac) (vb vd m : Value) (hh : a.hash.length = 32) : (acL a vb vd m)[35]? = some (.int .i64 a.s.frames) ∧ (acL a vb vd m)[36]? = some vb ∧ (acL a vb vd m)[37]? = some vd ∧ (acL a vb vd m)[38]? = some m := by
 unfold acL
 refine ⟨?_, ?_, ?_, ?_⟩ <;> (simp only [List.getElem?_cons_succ]; rw [List.getElem?_append_right (by simp; omega)]; simp [hh])
theorem acL_tag (a : Ac) (vb vd m : Value) (j : Nat) (v : Value) (hv : (a.hash.map bv)[j]? = some v) : (acL a vb vd m)[3 + j]? = some v := by
 unfold acL
 rw [Nat.add_comm]
 simp only [List.getElem?_cons_succ]
 rw [List.getElem?_append_left (List.getElem?_eq_some_iff.1 hv).1]
 exact hv
theorem range_sub {w : World} {b o : Nat} {cs : List Value} (h : w.rangeAt b o cs) (j : Nat) (ds : List Value) (hj : ∀ i v, ds[i]? = some v → cs[j + i]? = some v) : w.rangeAt b (o + j) ds := fun i v hv => by
 have := h (j + i) v (hj i v hv)
 rw [Nat.add_assoc]
 exact this
theorem ac_state {w : World} {b o : Nat} {a : Ac} {vb vd m : Value} (hh : a.hash.length = 32) (h : w.rangeAt b o (acL a vb vd m)) : w.rangeAt b (o + 35) [.int .i64 a.s.frames, vb, vd] := by
 obtain ⟨h1, h2, h3, _⟩ := acL_at a vb vd m hh
 refine range_sub h 35 _ (fun i v hv => ?_)
 match i, hv with
 | 0, hv => simp only [List.getElem?_cons_zero, Option.some.injEq] at hv; subst hv; exact h1
 | 1, hv => simp only [List.getElem?_cons_succ, List.getElem?_cons_zero, Option.some.injEq] at hv; subst hv; exact h2
 | 2, hv => simp only [List.getElem?_cons_succ, List.getElem?_cons_zero, Option.some.injEq] at hv; subst hv; exact h3
 | n + 3, hv => simp at hv
theorem greatAll (I J : Nat → Prop) (A : Option Addr) (l : List Ac) (c : Nat) (w : World) (hr : RdL (acV I) J 39 w A l) (hc : l.length ≤ c) (hm : c ≤ maxLen) :
  Calls Tryz.prog 8 #[.slice A l.length c] w fun e w' => ∃ r : Bool, e = .returned (.bool r) ∧ Chg Non w w' := by
 unfold maxLen at hm
 have HR := Lh hr
 clear hr
 go_enter Tryz.func8, Tryz.ntmps8
 go_wp2_with fail
 go_loopw [3, 4] (fun nv iv wr => ∃ (k : Nat) (m : Int), k ≤ l.length ∧ iv = .int .i64 k ∧ nv = .int .i64 m ∧ Hid (Chg Non w wr)) (fun _ iv _ => l.length - (intOf iv).toNat)
 case atStart => exact ⟨0, 0, Nat.zero_le _, rfl, rfl, Lh (Chg.refl _ _)⟩
 case round =>
  obtain ⟨k, m, hk, rfl, rfl, HC⟩ := hrel
  obtain ⟨wo, hwo⟩ : ∃ W, W = wr := ⟨_, rfl⟩
  subst hwo
  by_cases hlt : k < l.length
  ·obtain ⟨a, ha⟩ : ∃ a, l[k]? = some a := ⟨_, List.getElem?_eq_getElem hlt⟩
   obtain ⟨b, o, vs, rfl, _, _, hrg, vb, vd, Ab, cb, rfl, hh, _, hst, _, _⟩ := HR.out k a ha
   have hltd : decide ((k : Int) < (l.length : Int)) = true := by simpa using hlt
   have HSr := Lh (ac_state hh hrg)
   have HB := Lh (show w.cell? ⟨b, o + k * 39 + 38, none⟩ = some (.slice Ab a.b.length cb) from hrg 38 _ (acL_at a vb vd _ hh).2.2.2)
   have HW := Lh (fun W (hg : Chg Non w W) => weight_any I a.s vb vd W (hst.non hg))
   have hk0 : (0 : Int) ≤ (k : Int) := by omega
   have hkl : (k : Int) < (l.length : Int) := by omega
   clear ha hrg hh hst
   go_wp2_with fail
   obtain ⟨V, hV⟩ : ∃ V, V = wo.drew := ⟨_, rfl⟩
   have HG : Hid (Chg Non w V) := Lh (by rw [hV]; exact HC.out.drew)
   have HS : Hid (Chg Non V V) := Lh (Chg.refl _ _)
   refine wp_region_held_drew (S := Chg Non V) (by kernel_rfl) (by rw [hV]; exact Chg.refl _ _) (fun hHeld => ?_)
   clear hHeld
   rw [← hV]
   clear hV
   refine hp 0 11 (.int .i64 m) rfl HS.out ?_
   refine hp 1 12 (.slice (some ⟨b, o, none⟩) l.length c) rfl HS.out ?_
   refine hp 2 13 (.int .i64 (k : Nat)) rfl HS.out ?_
   refine hp 3 14 (.pointer (some ⟨b, o + k * 39, none⟩)) rfl HS.out ?_
   refine hp 4 15 (.pointer (some ⟨b, o + k * 39 + 35, none⟩)) rfl HS.out ?_
   refine h_load 5 (some 16) 25 (.tmp 15) b (o + k * 39 + 35) #[.int .i64 a.s.frames, vb, vd] _ rfl (by kernel_rfl) (by kernel_rfl) (by kernel_rfl) (by kernel_rfl) (by kernel_rfl) (fun _ _ _ h => h) (by kernel_rfl) (by kernel_rfl) (fun W hW => range_keepS HSr.out (HG.out.then_non hW) (fun e => e)) Tryz.underlying25 (by kernel_rfl) (by kernel_rfl) HS.out ?_
   try simp only [Act.put, sA, sB, sC]
   refine hp 8 19 (.slice (some ⟨b, o, none⟩) l.length c) rfl HS.out ?_
   refine hp 9 20 (.int .i64 (k : Nat)) rfl HS.out ?_
   refine hp 10 21 (.pointer (some ⟨b, o + k * 39, none⟩)) rfl HS.out ?_
   refine hp 11 22 (.pointer (some ⟨b, o + k * 39 + 38, none⟩)) rfl HS.out ?_
   refine hp 12 23 (.slice Ab a.b.length cb) rfl HS.out ?_ (he := (fun W hW => by have hc := (HG.out.then_non hW).cell_some HB.out (fun e => e); go_simp))
   refine hp 13 24 (.int .i64 (a.b.length : Nat)) rfl HS.out ?_
   refine h1o 6 rfl ?_
   intro K hK
   go_simp
   refine (HW.out V HG.out).mono ?_
   rintro e u ⟨x, rfl, hg⟩
   have HS2 := Lh hg
   refine hK.out _ _ HS2.out (fun _ => ?_)
   clear hK K hg
   try simp only [Act.put, sA, sB, sC]
   refine hp 7 18 (.int .i64 (IntKind.i64.wrap (m + x))) rfl HS2.out ?_
   refine hp 14 25 (.int .i64 (IntKind.i64.wrap (IntKind.i64.wrap (m + x) + (a.b.length : Nat)))) rfl HS2.out ?_
   refine hp 15 3 (.int .i64 (IntKind.i64.wrap (IntKind.i64.wrap (m + x) + (a.b.length : Nat)))) rfl HS2.out ?_
   refine hdn ?_ _
   obtain ⟨z, hz⟩ : ∃ z, IntKind.i64.wrap (IntKind.i64.wrap (m + x) + (a.b.length : Nat)) = z := ⟨_, rfl⟩
   try rw [hz]
   clear hz
   have HGv := Lh (HG.out.then_non HS2.out)
   by_cases hzz : 12000 < z
   ·have hzd : decide (z > 12000) = true := by rw [decide_eq_true_eq]; omega
    go_wp2_with fail
    go_ret
    exact ⟨_, rfl, HGv.out⟩
   ·have hzd : decide (z > 12000) = false := by rw [decide_eq_false_iff_not]; omega
    go_wp2_with fail
    exact ⟨⟨k + 1, z, by omega, by go_num, rfl, HGv⟩, by simp [intOf]; omega⟩
  ·obtain rfl : k = l.length := by omega
   have hltd : decide ((l.length : Int) < (l.length : Int)) = false := by simp
   go_wp2_with fail
   go_ret
   exact ⟨_, rfl, HC.out⟩
end
end Go.Proofs.YtkgnlobabknkcaaGreat
