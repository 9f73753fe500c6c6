/- BootNil, part 5 of 14: contracts of the functions that it reaches, and the laws that they need, merged and shortened (from my texts XValD, XApart, XPairs, XRegAll). -/
import Derived.Test.YtajkajgifigmbaaGreatMgBootNilB
import Derived.Test.YtajkajgifigmbaaGreatMgBootNilD
import Derived.RangeFuncNested
import Derived.RangeFuncBound
import Derived.RangeFuncCalls
import Derived.RangeFuncLeaves
import Derived.RangeFuncBox
import Derived.Shelf.Abstract
import Derived.Shelf.RegionOpen
import Derived.OwnWalkIn
import Derived.TacticsInMore
import Derived.LoopNIn
import Derived.LoopIn
namespace Go.Proofs.YtajkajgifigmbaaGreat
set_option linter.unusedVariables false
set_option linter.unusedSimpArgs false
set_option maxHeartbeats 8000000
set_option maxRecDepth 100000
section
open Go.RowKit
def rise : List Int → Bool
 | a :: b :: t => decide (a < b) && rise (b :: t)
 | _ => true
theorem rise_iff : ∀ {l : List Int}, rise l = true ↔ ∀ i a b, l[i]? = some a → l[i + 1]? = some b → a < b
 | [] => by simp [rise]
 | [a] => by simp [rise]
 | a :: b :: t => by
  simp only [rise, Bool.and_eq_true, decide_eq_true_eq, rise_iff (l := b :: t)]
  constructor
  ·rintro ⟨h1, h2⟩ i x y hx hy
   cases i with
   | zero =>
    simp only [List.getElem?_cons_zero, Option.some.injEq, List.getElem?_cons_succ, Nat.zero_add] at hx hy
    subst hx hy
    exact h1
   | succ i =>
    rw [List.getElem?_cons_succ] at hx hy
    exact h2 i x y hx hy
  ·intro h
   exact ⟨h 0 a b rfl rfl, fun i x y hx hy => h (i + 1) x y (by rw [List.getElem?_cons_succ]; exact hx) (by rw [List.getElem?_cons_succ]; exact hy)⟩
def Ch.may (a : Ch) : Bool := chMay a.id a.src a.dst a.cap a.size
def chAll (cs : List Ch) : Int := if cs.any (fun a => !a.may) = true then 2 else if rise (cs.map (·.id)) = true then 0 else 100
theorem chAll_ok (I : Nat → Prop) (A : Option Addr) (cs : List Ch) (c : Nat) (w : World) (hr : RdL chV I 5 w A cs) (hc : cs.length ≤ c) (hm : c ≤ maxLen) (h8 : cs.length ≤ 1000) :
  Calls Tryz.prog 360 #[.slice A cs.length c] w fun e w' => e = .returned (.int .i64 (chAll cs)) ∧ Chg Non w w' := by
 unfold maxLen at hm
 have HR := Lh hr
 clear hr
 go_enter Tryz.func360, Tryz.ntmps360
 go_wp2_with fail
 go_loopw [8] (fun iv wr => ∃ k : Nat, k ≤ cs.length ∧ iv = .int .i64 k ∧ Hid (∀ (i : Nat) (a : Ch), i < k → cs[i]? = some a → a.may = true) ∧ Hid (Chg Non w wr)) (fun iv _ => cs.length - (intOf iv).toNat)
 case atStart => exact ⟨0, Nat.zero_le _, rfl, Lh (fun i b h => by omega), Lh (Chg.refl _ _)⟩
 case round =>
  obtain ⟨k, hk, rfl, HN, HG⟩ := hrel
  by_cases hlt : k < cs.length
  ·obtain ⟨a, ha⟩ : ∃ a, cs[k]? = some a := ⟨_, List.getElem?_eq_getElem hlt⟩
   obtain ⟨b, o, rfl, k0, k1, k2, k3, k4, _, hbl⟩ := ch_at HR.out HG.out ha
   have hltd : decide ((k : Int) < (cs.length : Int)) = true := by simpa using hlt
   have HA := Lh ha
   have HM := Lh (fun W => chMay_ok a.id a.src a.dst a.cap a.size W)
   clear ha
   obtain ⟨m, hmm⟩ : ∃ m, a.may = m := ⟨_, rfl⟩
   rw [show chMay a.id a.src a.dst a.cap a.size = m from hmm] at HM
   have HMa := Lh hmm
   clear hmm
   obtain ⟨x1, x2, x3, x4, x5⟩ := a
   simp only at k0 k1 k2 k3 k4 HM
   go_wp2_with fail
   refine (HM.out _).mono ?_
   rintro e u ⟨rfl, hg⟩
   have HG2 := Lh ((HG.out.alloc _).then_non hg)
   clear hg
   cases m with
   | false =>
    have HE : Hid (chAll cs = 2) := Lh (by
      rw [chAll, if_pos]
      exact List.any_eq_true.2 ⟨_, List.mem_of_getElem? HA.out, by rw [HMa.out]; rfl⟩)
    go_wp2_with fail
    go_ret
    exact ⟨ret_i HE.out.symm, HG2.out⟩
   | true =>
    have HN2 : Hid (∀ (i : Nat) (x : Ch), i < k + 1 → cs[i]? = some x → x.may = true) := Lh (fun i x hi hx => by
      by_cases e : i = k
      · subst e
        rw [HA.out] at hx
        injection hx with hx
        subst hx
        exact HMa.out
      · exact HN.out i x (by omega) hx)
    go_wp2_with fail
    exact ⟨⟨k + 1, by omega, by simp, HN2, HG2⟩, by simp [intOf]; omega⟩
  ·obtain rfl : k = cs.length := by omega
   have hltd : decide ((cs.length : Int) < (cs.length : Int)) = false := by simp
   have HE : Hid (chAll cs = if rise (cs.map (·.id)) = true then 0 else 100) := Lh (by
     rw [chAll, if_neg]
     intro e
     obtain ⟨a, ha, h⟩ := List.any_eq_true.1 e
     obtain ⟨i, hi⟩ := List.getElem?_of_mem ha
     rw [HN.out i a (List.getElem?_eq_some_iff.1 hi).1 hi] at h
     cases h)
   clear HN
   go_wp2_with fail
   go_loopw [5] (fun iv wr => ∃ k : Nat, k ≤ cs.length ∧ iv = .int .i64 ((k : Int) + 1) ∧ Hid (∀ (i : Nat) (a b : Ch), i < k → cs[i]? = some a → cs[i + 1]? = some b → a.id < b.id) ∧ Hid (Chg Non w wr)) (fun iv _ => cs.length + 1 - (intOf iv).toNat)
   case atStart => exact ⟨0, Nat.zero_le _, rfl, Lh (fun i a b h => by omega), HG⟩
   case round =>
    obtain ⟨k, hk, rfl, HN, HG⟩ := hrel
    by_cases hlt2 : k + 1 < cs.length
    ·obtain ⟨a, ha⟩ : ∃ a, cs[k]? = some a := ⟨_, List.getElem?_eq_getElem (by omega)⟩
     obtain ⟨a', ha'⟩ : ∃ a, cs[k + 1]? = some a := ⟨_, List.getElem?_eq_getElem hlt2⟩
     obtain ⟨b, o, rfl, k0, _, _, _, _, _, hbl⟩ := ch_at HR.out HG.out ha
     obtain ⟨b', o', e, k1, _, _, _, _, _, _⟩ := ch_at HR.out HG.out ha'
     injection e with e
     injection e with e1 e2 _
     subst e1 e2
     have hd2 : decide ((k : Int) + 1 < (cs.length : Int)) = true := by rw [decide_eq_true_eq]; omega
     have hk0 : (0 : Int) ≤ (k : Int) := by omega
     have hkl : (k : Int) < (cs.length : Int) := by omega
     have hk1 : (0 : Int) ≤ (k : Int) + 1 := by omega
     have hkl1 : (k : Int) + 1 < (cs.length : Int) := by omega
     have hwr : IntKind.i64.wrap ((k : Int) + 1 - 1) = (k : Int) := by rw [Go.IntWalk.i64_in _ (by omega)]; omega
     have hnat : ((k : Int) + 1).toNat = k + 1 := by omega
     have HA := Lh (And.intro ha ha')
     clear ha ha'
     obtain ⟨x, hx⟩ : ∃ x, a.id = x := ⟨_, rfl⟩
     obtain ⟨y, hy⟩ : ∃ y, a'.id = y := ⟨_, rfl⟩
     rw [hx] at k0
     rw [hy] at k1
     have HXY := Lh (And.intro hx hy)
     clear hx hy
     go_wp2_with fail
     refine wp_region_held_drew (S := fun W => W = wr.drew) (by kernel_rfl) rfl (fun hHeld => ?_)
     clear hHeld
     refine hp 0 22 (.slice (some ⟨b, o, none⟩) cs.length c) rfl rfl ?_ (he := (fun W hW => by subst hW; go_simp))
     refine hp 1 23 (.int .i64 ((k : Int) + 1)) rfl rfl ?_ (he := (fun W hW => by subst hW; go_simp))
     refine hp 2 24 (.int .i64 (k : Int)) rfl rfl ?_ (he := (fun W hW => by subst hW; go_simp; exact Go.IntWalk.i64_in _ (by omega)))
     refine hp 3 25 (.pointer (some ⟨b, o + k * 5, none⟩)) rfl rfl ?_ (he := (fun W hW => by subst hW; go_simp))
     refine hp 4 26 (.pointer (some ⟨b, o + k * 5, none⟩)) rfl rfl ?_ (he := (fun W hW => by subst hW; go_simp))
     refine hp 5 27 (.int .i64 x) rfl rfl ?_ (he := (fun W hW => by subst hW; have hcell : wr.drew.cell? ⟨b, o + k * 5, none⟩ = _ := k0; go_simp))
     refine hp 6 28 (.slice (some ⟨b, o, none⟩) cs.length c) rfl rfl ?_ (he := (fun W hW => by subst hW; go_simp))
     refine hp 7 29 (.int .i64 ((k : Int) + 1)) rfl rfl ?_ (he := (fun W hW => by subst hW; go_simp))
     refine hp 8 30 (.pointer (some ⟨b, o + (k + 1) * 5, none⟩)) rfl rfl ?_ (he := (fun W hW => by subst hW; go_simp))
     refine hp 9 31 (.pointer (some ⟨b, o + (k + 1) * 5, none⟩)) rfl rfl ?_ (he := (fun W hW => by subst hW; go_simp))
     refine hp 10 32 (.int .i64 y) rfl rfl ?_ (he := (fun W hW => by subst hW; have hcell : wr.drew.cell? ⟨b, o + (k + 1) * 5, none⟩ = _ := k1; go_simp))
     refine hp 11 33 (.bool (decide (x ≥ y))) rfl rfl ?_ (he := (fun W hW => by subst hW; go_simp))
     refine hdn ?_ _
     by_cases hxy : y ≤ x
     ·have hxd : decide (y ≤ x) = true := by simpa using hxy
      have HE2 : Hid (chAll cs = 100) := Lh (by
        rw [HE.out, if_neg]
        intro e
        have := rise_iff.1 e k x y (by rw [List.getElem?_map, HA.out.1]; simp [HXY.out.1]) (by rw [List.getElem?_map, HA.out.2]; simp [HXY.out.2])
        omega)
      go_wp2_with fail
      go_ret
      exact ⟨ret_i HE2.out.symm, HG.out.drew⟩
     ·have hxd : decide (y ≤ x) = false := by simpa using hxy
      have HN2 : Hid (∀ (i : Nat) (p q : Ch), i < k + 1 → cs[i]? = some p → cs[i + 1]? = some q → p.id < q.id) := Lh (fun i p q hi hp hq => by
        by_cases e : i = k
        · subst e
          rw [HA.out.1] at hp
          rw [HA.out.2] at hq
          injection hp with hp
          injection hq with hq
          subst hp hq
          rw [HXY.out.1, HXY.out.2]
          omega
        · exact HN.out i p q (by omega) hp hq)
      have HG2 := Lh HG.out.drew
      go_wp2_with fail
      exact ⟨⟨k + 1, by omega, by simp, HN2, HG2⟩, by simp [intOf]; omega⟩
    ·have hd2 : decide ((k : Int) + 1 < (cs.length : Int)) = false := by rw [decide_eq_false_iff_not]; omega
     have HE2 : Hid (chAll cs = 0) := Lh (by
       rw [HE.out, if_pos]
       refine rise_iff.2 (fun i a b ha hb => ?_)
       rw [List.getElem?_map] at ha hb
       obtain ⟨p, hp, rfl⟩ := Option.map_eq_some_iff.1 ha
       obtain ⟨q, hq, rfl⟩ := Option.map_eq_some_iff.1 hb
       exact HN.out i p q (by have := (List.getElem?_eq_some_iff.1 hq).1; omega) hp hq)
     go_wp2_with fail
     go_ret
     exact ⟨ret_i HE2.out.symm, HG.out⟩
def partsBad (ps : List Pn) : Bool := !(decide (1 ≤ ps.length) && decide (ps.length ≤ 6) && rise (0 :: ps.map (·.id)) && ps.all fun p => decide (p.id ≤ 6))
theorem parts_ok (I : Nat → Prop) (w : World) (va vd : Value) (A : Option Addr) (ps : List Pn) (c : Nat) (hr : RdL (pnV I) I 5 w A ps) (hc : ps.length ≤ c) (hm : c ≤ maxLen) (o1 : va.oneCell' = true) (o2 : vd.oneCell' = true) :
  Calls Tryz.prog 325 #[.agg #[va, .slice A ps.length c, vd]] w fun e w' => e = .returned (.bool (partsBad ps)) ∧ Chg Non w w' := by
 unfold maxLen at hm
 have HR := Lh hr
 clear hr
 by_cases h0 : ps.length < 1
 ·have d0 : decide ((ps.length : Int) < 1) = true := by rw [decide_eq_true_eq]; omega
  have HE : Hid (partsBad ps = true) := Lh (by rw [partsBad, decide_eq_false (p := 1 ≤ ps.length) (by omega)]; simp)
  clear h0
  go_enter Tryz.func325, Tryz.ntmps325
  go_wp2_with fail
  go_ret
  exact ⟨ret_b HE.out.symm, (Chg.refl _ _).alloc _⟩
 have d0 : decide ((ps.length : Int) < 1) = false := by rw [decide_eq_false_iff_not]; omega
 by_cases h6 : 6 < ps.length
 ·have d1 : decide ((6 : Int) < (ps.length : Int)) = true := by rw [decide_eq_true_eq]; omega
  have HE : Hid (partsBad ps = true) := Lh (by rw [partsBad, decide_eq_false (p := ps.length ≤ 6) (by omega)]; simp)
  clear h0 h6
  go_enter Tryz.func325, Tryz.ntmps325
  go_wp2_with fail
  go_ret
  exact ⟨ret_b HE.out.symm, (Chg.refl _ _).alloc _⟩
 have d1 : decide ((6 : Int) < (ps.length : Int)) = false := by rw [decide_eq_false_iff_not]; omega
 have h16 : 1 ≤ ps.length ∧ ps.length ≤ 6 := by omega
 clear h0 h6
 go_enter Tryz.func325, Tryz.ntmps325
 go_wp2_with fail
 go_loopw [19, 3] (fun iv lv wr => ∃ (k : Nat) (x : Int), k ≤ ps.length ∧ iv = .int .i64 k ∧ lv = .int .i64 x ∧ Hid ((0 :: ps.map (·.id))[k]? = some x ∧ (∀ (i : Nat) (a b : Int), i < k → (0 :: ps.map (·.id))[i]? = some a → (0 :: ps.map (·.id))[i + 1]? = some b → a < b) ∧ ∀ (i : Nat) (a : Pn), i < k → ps[i]? = some a → a.id ≤ 6) ∧ Hid (Chg Non w wr)) (fun iv _ _ => ps.length - (intOf iv).toNat)
 case atStart => exact ⟨0, 0, Nat.zero_le _, rfl, rfl, Lh ⟨rfl, fun i a b h => by omega, fun i a h => by omega⟩, Lh ((Chg.refl _ _).alloc _)⟩
 case round =>
  obtain ⟨k, last, hk, rfl, rfl, HN, HG⟩ := hrel
  by_cases hlt : k < ps.length
  ·obtain ⟨a, ha⟩ : ∃ a, ps[k]? = some a := ⟨_, List.getElem?_eq_getElem hlt⟩
   obtain ⟨b, o, m, rfl, k0, k1, k2, k3, k4, ⟨A2, c2, rfl, _⟩, _, _, _, _, hbl⟩ := pn_at HR.out HG.out ha
   have hltd : decide ((k : Int) < (ps.length : Int)) = true := by simpa using hlt
   have HA := Lh ha
   clear ha
   obtain ⟨x, y, z, kp, im⟩ := a
   simp only at k0 k1 k2 k3 k4
   have HG2 := Lh (HG.out.alloc (.cells #[.int .i64 x, .int .i64 y, .int .i64 z, .bool kp, .slice A2 im.length c2] 113))
   have hsucc : (0 :: ps.map (·.id))[k + 1]? = some x := by rw [List.getElem?_cons_succ, List.getElem?_map, HA.out]; rfl
   have HSu := Lh hsucc
   clear hsucc
   by_cases hbad : x ≤ last ∨ 6 < x
   ·have HE : Hid (partsBad ps = true) := Lh (by
      rw [partsBad]
      simp only [Bool.not_eq_true', Bool.and_eq_false_iff]
      rcases hbad with h | h
      · refine .inl (.inr ?_)
        rw [Bool.eq_false_iff]
        intro e
        have := rise_iff.1 e k last x HN.out.1 HSu.out
        omega
      · refine .inr ?_
        rw [Bool.eq_false_iff]
        intro e
        have := List.all_eq_true.1 e _ (List.mem_of_getElem? HA.out)
        simp at this
        omega)
    have HB := Lh hbad
    clear hbad
    go_wp2_with fail
    all_goals first
     | (go_ret; exact ⟨ret_b HE.out.symm, HG2.out⟩)
     | (exfalso; have := HB.out; omega)
   ·have hx1 : decide (x ≤ last) = false := by rw [decide_eq_false_iff_not]; omega
    have hx2 : decide (6 < x) = false := by rw [decide_eq_false_iff_not]; omega
    have hx3 : ¬ x ≤ last := by omega
    have hx4 : ¬ 6 < x := by omega
    have HN2 : Hid ((0 :: ps.map (·.id))[k + 1]? = some x ∧ (∀ (i : Nat) (a b : Int), i < k + 1 → (0 :: ps.map (·.id))[i]? = some a → (0 :: ps.map (·.id))[i + 1]? = some b → a < b) ∧ ∀ (i : Nat) (a : Pn), i < k + 1 → ps[i]? = some a → a.id ≤ 6) := Lh (by
      refine ⟨HSu.out, fun i p q hi hp hq => ?_, fun i p hi hp => ?_⟩
      · by_cases e : i = k
        · subst e
          rw [HN.out.1] at hp
          rw [HSu.out] at hq
          injection hp with hp
          injection hq with hq
          omega
        · exact HN.out.2.1 i p q (by omega) hp hq
      · by_cases e : i = k
        · subst e
          rw [HA.out] at hp
          injection hp with hp
          subst hp
          show x ≤ 6
          omega
        · exact HN.out.2.2 i p (by omega) hp)
    clear hbad
    go_wp2_with fail
    exact ⟨⟨k + 1, x, by omega, by simp, rfl, HN2, HG2⟩, by simp [intOf]; omega⟩
  ·obtain rfl : k = ps.length := by omega
   have hltd : decide ((ps.length : Int) < (ps.length : Int)) = false := by simp
   have HE : Hid (partsBad ps = false) := Lh (by
     have h1 : rise (0 :: ps.map (·.id)) = true := rise_iff.2 (fun i a b ha hb => HN.out.2.1 i a b (by have := (List.getElem?_eq_some_iff.1 hb).1; simp at this; omega) ha hb)
     have h2 : (ps.all fun p => decide (p.id ≤ 6)) = true := List.all_eq_true.2 (fun p hp => by
       obtain ⟨i, hi⟩ := List.getElem?_of_mem hp
       simpa using HN.out.2.2 i p (List.getElem?_eq_some_iff.1 hi).1 hi)
     simp only [partsBad, h1, h2, decide_eq_true h16.1, decide_eq_true h16.2]
     rfl)
   go_wp2_with fail
   go_ret
   exact ⟨ret_b HE.out.symm, HG.out⟩
def channelsBad (c : Cfg) : Bool := decide ((c.cs.length : Int) > 8) || decide (chAll c.cs ≠ 0) || c.cs.any (chBad c)
theorem channels_ok (I : Nat → Prop) (w : World) (c : Cfg) (A1 A2 A3 : Option Addr) (c1 c2 c3 : Nat) (h : ∀ W g, Chg Non w W → W.heap[g]? = some (.cells #[.slice A1 c.ws.length c1, .slice A2 c.ps.length c2, .slice A3 c.cs.length c3] 28 (0, 0)) → CfgB I W c g A1 A2 A3 c1 c2 c3) :
  Calls Tryz.prog 328 #[.agg #[.slice A1 c.ws.length c1, .slice A2 c.ps.length c2, .slice A3 c.cs.length c3]] w fun e w' => e = .returned (.bool (channelsBad c)) ∧ Chg Non w w' := by
 have HB := Lh (h (w.alloc (.cells #[.slice A1 c.ws.length c1, .slice A2 c.ps.length c2, .slice A3 c.cs.length c3] 28)) w.heap.size ((Chg.refl Non w).alloc _) (blk_new _ _))
 have hmf := mk_func
 have HE : Hid (channelsBad c = (decide ((c.cs.length : Int) > 8) || decide (chAll c.cs ≠ 0) || c.cs.any (chBad c))) := Lh rfl
 have hl3 := HB.out.l3
 by_cases h8 : 8 < c.cs.length
 ·have d8 : decide ((8 : Int) < (c.cs.length : Int)) = true := by rw [decide_eq_true_eq]; omega
  have HE2 : Hid (channelsBad c = true) := Lh (by rw [HE.out, show decide ((c.cs.length : Int) > 8) = true from d8]; rfl)
  clear h HB HE h8
  go_enter Tryz.func328, Tryz.ntmps328
  go_wp2_with fail
  go_ret
  exact ⟨ret_b HE2.out.symm, (Chg.refl _ _).alloc _⟩
 have d8 : decide ((8 : Int) < (c.cs.length : Int)) = false := by rw [decide_eq_false_iff_not]; omega
 have HM := Lh (chAll_ok I A3 c.cs c3 _ HB.out.cs hl3.1 hl3.2 (by omega))
 have HQ := Lh (fun W (hg : Chg Non (w.alloc (.cells #[.slice A1 c.ws.length c1, .slice A2 c.ps.length c2, .slice A3 c.cs.length c3] 28)) W) => anyChannels chV I chV_non (chBad c) (.pointer (some ⟨w.heap.size, 0, none⟩)) A3 c.cs c3 W (HB.out.non hg).cs (by
   rintro W' a vs hg2 ha ⟨rfl, _⟩
   exact ch1_ok I W' c w.heap.size A1 A2 A3 c1 c2 c3 ((HB.out.non hg).non hg2) a) hl3.1 hl3.2)
 rw [show decide ((c.cs.length : Int) > 8) = false from d8] at HE
 obtain ⟨m, hmm⟩ : ∃ m, chAll c.cs = m := ⟨_, rfl⟩
 obtain ⟨q, hq⟩ : ∃ q, c.cs.any (chBad c) = q := ⟨_, rfl⟩
 simp only [hmm] at HM HE
 simp only [hq] at HQ HE
 clear h hmm hq hl3 h8
 by_cases hm0 : m = 0
 ·subst hm0
  go_enter Tryz.func328, Tryz.ntmps328
  go_wp2_with fail
  refine HM.out.mono ?_
  rintro e u ⟨rfl, hg⟩
  have HG := Lh hg
  have k2 := blk_cell (blk_call hg) 2 (v := .slice A3 c.cs.length c3) rfl
  clear hg
  go_wp2_with fail
  refine (HQ.out _ HG.out).mono ?_
  rintro e u2 ⟨rfl, hg⟩
  go_wp2_with fail
  go_ret
  exact ⟨ret_b (by rw [HE.out]; rfl), (((Chg.refl Non w).alloc _).then_non HG.out).then_non hg⟩
 ·have hne : (m != 0) = true := by simpa using hm0
  have HE2 : Hid (channelsBad c = true) := Lh (by rw [HE.out]; simp [hm0])
  clear HE hm0
  go_enter Tryz.func328, Tryz.ntmps328
  go_wp2_with fail
  refine HM.out.mono ?_
  rintro e u ⟨rfl, hg⟩
  go_wp2_with fail
  go_ret
  exact ⟨ret_b HE2.out.symm, ((Chg.refl Non w).alloc _).then_non hg⟩
end
section
open Go.RowKit
def apartB (b1 s1 b2 s2 : Int) : Bool := regMay b1 s1 && regMay b2 s2 && (decide (regEnd b1 s1 ≤ b2) || decide (regEnd b2 s2 ≤ b1))
theorem apart_ok (b1 s1 b2 s2 : Int) (w : World) :
  Calls Tryz.prog 373 #[.agg #[.int .i64 b1, .int .i64 s1], .agg #[.int .i64 b2, .int .i64 s2]] w fun e w' => e = .returned (.bool (apartB b1 s1 b2 s2)) ∧ Chg Non w w' := by
 have HM1 := Lh (fun W => regMay_ok b1 s1 W)
 have HM2 := Lh (fun W => regMay_ok b2 s2 W)
 have HE1 := Lh (fun W => regEnd_ok b1 s1 W)
 have HE2 := Lh (fun W => regEnd_ok b2 s2 W)
 have HE : Hid (apartB b1 s1 b2 s2 = (regMay b1 s1 && regMay b2 s2 && (decide (regEnd b1 s1 ≤ b2) || decide (regEnd b2 s2 ≤ b1)))) := Lh rfl
 obtain ⟨m1, h1⟩ : ∃ m, regMay b1 s1 = m := ⟨_, rfl⟩
 obtain ⟨m2, h2⟩ : ∃ m, regMay b2 s2 = m := ⟨_, rfl⟩
 obtain ⟨e1, h3⟩ : ∃ m, regEnd b1 s1 = m := ⟨_, rfl⟩
 obtain ⟨e2, h4⟩ : ∃ m, regEnd b2 s2 = m := ⟨_, rfl⟩
 simp only [h1, h2, h3, h4] at HM1 HM2 HE1 HE2 HE
 clear h1 h2 h3 h4
 have a0 : ((w.alloc (.cells #[.int .i64 b1, .int .i64 s1] 111)).alloc (.cells #[.int .i64 b2, .int .i64 s2] 111)).drew.cell? ⟨w.heap.size, 0, none⟩ = some (.int .i64 b1) := blk_cell (w := (World.alloc _ _)) (heap_alloc2_old w _ _) 0 rfl
 have a1 : ((w.alloc (.cells #[.int .i64 b1, .int .i64 s1] 111)).alloc (.cells #[.int .i64 b2, .int .i64 s2] 111)).drew.cell? ⟨w.heap.size, 1, none⟩ = some (.int .i64 s1) := blk_cell (w := (World.alloc _ _)) (heap_alloc2_old w _ _) 1 rfl
 have q0 : ((w.alloc (.cells #[.int .i64 b1, .int .i64 s1] 111)).alloc (.cells #[.int .i64 b2, .int .i64 s2] 111)).drew.cell? ⟨w.heap.size + 1, 0, none⟩ = some (.int .i64 b2) := blk_cell (w := (World.alloc _ _)) (heap_alloc2_new w _ _) 0 rfl
 have q1 : ((w.alloc (.cells #[.int .i64 b1, .int .i64 s1] 111)).alloc (.cells #[.int .i64 b2, .int .i64 s2] 111)).drew.cell? ⟨w.heap.size + 1, 1, none⟩ = some (.int .i64 s2) := blk_cell (w := (World.alloc _ _)) (heap_alloc2_new w _ _) 1 rfl
 have HG0 : Hid (Chg Non w ((w.alloc (.cells #[.int .i64 b1, .int .i64 s1] 111)).alloc (.cells #[.int .i64 b2, .int .i64 s2] 111)).drew) := Lh (((Chg.refl Non w).alloc _).alloc _).drew
 have HEnt : Hid True := Lh trivial
 cases m1 with
 | false =>
  go_enter Tryz.func373, Tryz.ntmps373
  go_wp2_with fail
  refine wp_region_held_drew (S := Chg Non ((w.alloc (.cells #[.int .i64 b1, .int .i64 s1] 111)).alloc (.cells #[.int .i64 b2, .int .i64 s2] 111)).drew) (by kernel_rfl) (Chg.refl _ _) (fun hHeld => ?_)
  clear hHeld
  generalize ((w.alloc (.cells #[.int .i64 b1, .int .i64 s1] 111)).alloc (.cells #[.int .i64 b2, .int .i64 s2] 111)).drew = v at *
  refine hp 0 5 (.agg #[.int .i64 b1, .int .i64 s1]) rfl (Chg.refl Non _) ?_ (he := (fun W hW => by have h0 := hW.cell_some a0 (fun e => e); have h1 := hW.cell_some a1 (fun e => e); go_simp))
  refine h1o 1 rfl ?_
  intro K hK
  go_simp
  refine (HM1.out _).mono ?_
  rintro e u1 ⟨rfl, hg⟩
  have HG1 := Lh (Chg.then_non (Chg.refl Non _) hg)
  clear hg
  refine hK.out _ _ HG1.out (fun _ => ?_)
  clear hK K
  try simp only [Act.put, sA, sB, sC]
  refine hp 2 7 (.bool false) rfl HG1.out ?_
  refine hs 3 8 rfl HG1.out ?_
  refine hs 4 9 rfl HG1.out ?_
  refine hp 5 10 (.bool false) rfl HG1.out ?_
  refine hp 6 11 (.bool false) rfl HG1.out ?_
  refine hs 7 12 rfl HG1.out ?_
  refine hs 8 13 rfl HG1.out ?_
  refine hs 9 14 rfl HG1.out ?_
  refine hs 10 15 rfl HG1.out ?_
  refine hs 11 16 rfl HG1.out ?_
  refine hs 12 17 rfl HG1.out ?_
  refine hs 13 18 rfl HG1.out ?_
  refine hs 14 19 rfl HG1.out ?_
  refine hs 15 20 rfl HG1.out ?_
  refine hs 16 21 rfl HG1.out ?_
  refine hs 17 22 rfl HG1.out ?_
  refine hs 18 23 rfl HG1.out ?_
  refine hp 19 24 (.bool false) rfl HG1.out ?_
  refine hp 20 4 (.bool false) rfl HG1.out ?_
  refine hdn ?_ _
  go_wp2_with fail
  go_ret
  exact ⟨ret_b (by rw [HE.out]; rfl), HG0.out.then_non HG1.out⟩
 | true =>
 cases m2 with
 | false =>
  go_enter Tryz.func373, Tryz.ntmps373
  go_wp2_with fail
  refine wp_region_held_drew (S := Chg Non ((w.alloc (.cells #[.int .i64 b1, .int .i64 s1] 111)).alloc (.cells #[.int .i64 b2, .int .i64 s2] 111)).drew) (by kernel_rfl) (Chg.refl _ _) (fun hHeld => ?_)
  clear hHeld
  generalize ((w.alloc (.cells #[.int .i64 b1, .int .i64 s1] 111)).alloc (.cells #[.int .i64 b2, .int .i64 s2] 111)).drew = v at *
  refine hp 0 5 (.agg #[.int .i64 b1, .int .i64 s1]) rfl (Chg.refl Non _) ?_ (he := (fun W hW => by have h0 := hW.cell_some a0 (fun e => e); have h1 := hW.cell_some a1 (fun e => e); go_simp))
  refine h1o 1 rfl ?_
  intro K hK
  go_simp
  refine (HM1.out _).mono ?_
  rintro e u1 ⟨rfl, hg⟩
  have HG1 := Lh (Chg.then_non (Chg.refl Non _) hg)
  clear hg
  refine hK.out _ _ HG1.out (fun _ => ?_)
  clear hK K
  try simp only [Act.put, sA, sB, sC]
  refine hp 2 7 (.bool true) rfl HG1.out ?_
  refine hp 3 8 (.agg #[.int .i64 b2, .int .i64 s2]) rfl HG1.out ?_ (he := (fun W hW => by have h0 := hW.cell_some q0 (fun e => e); have h1 := hW.cell_some q1 (fun e => e); go_simp))
  refine h1o 4 rfl ?_
  intro K hK
  go_simp
  refine (HM2.out _).mono ?_
  rintro e u2 ⟨rfl, hg⟩
  have HG2 := Lh (Chg.then_non HG1.out hg)
  clear hg
  refine hK.out _ _ HG2.out (fun _ => ?_)
  clear hK K
  try simp only [Act.put, sA, sB, sC]
  refine hp 5 10 (.bool false) rfl HG2.out ?_
  refine hp 6 11 (.bool false) rfl HG2.out ?_
  refine hs 7 12 rfl HG2.out ?_
  refine hs 8 13 rfl HG2.out ?_
  refine hs 9 14 rfl HG2.out ?_
  refine hs 10 15 rfl HG2.out ?_
  refine hs 11 16 rfl HG2.out ?_
  refine hs 12 17 rfl HG2.out ?_
  refine hs 13 18 rfl HG2.out ?_
  refine hs 14 19 rfl HG2.out ?_
  refine hs 15 20 rfl HG2.out ?_
  refine hs 16 21 rfl HG2.out ?_
  refine hs 17 22 rfl HG2.out ?_
  refine hs 18 23 rfl HG2.out ?_
  refine hp 19 24 (.bool false) rfl HG2.out ?_
  refine hp 20 4 (.bool false) rfl HG2.out ?_
  refine hdn ?_ _
  go_wp2_with fail
  go_ret
  exact ⟨ret_b (by rw [HE.out]; rfl), HG0.out.then_non HG2.out⟩
 | true =>
 cases hc1 : decide (e1 ≤ b2) with
 | true =>
  go_enter Tryz.func373, Tryz.ntmps373
  go_wp2_with fail
  refine wp_region_held_drew (S := Chg Non ((w.alloc (.cells #[.int .i64 b1, .int .i64 s1] 111)).alloc (.cells #[.int .i64 b2, .int .i64 s2] 111)).drew) (by kernel_rfl) (Chg.refl _ _) (fun hHeld => ?_)
  clear hHeld
  generalize ((w.alloc (.cells #[.int .i64 b1, .int .i64 s1] 111)).alloc (.cells #[.int .i64 b2, .int .i64 s2] 111)).drew = v at *
  refine hp 0 5 (.agg #[.int .i64 b1, .int .i64 s1]) rfl (Chg.refl Non _) ?_ (he := (fun W hW => by have h0 := hW.cell_some a0 (fun e => e); have h1 := hW.cell_some a1 (fun e => e); go_simp))
  refine h1o 1 rfl ?_
  intro K hK
  go_simp
  refine (HM1.out _).mono ?_
  rintro e u1 ⟨rfl, hg⟩
  have HG1 := Lh (Chg.then_non (Chg.refl Non _) hg)
  clear hg
  refine hK.out _ _ HG1.out (fun _ => ?_)
  clear hK K
  try simp only [Act.put, sA, sB, sC]
  refine hp 2 7 (.bool true) rfl HG1.out ?_
  refine hp 3 8 (.agg #[.int .i64 b2, .int .i64 s2]) rfl HG1.out ?_ (he := (fun W hW => by have h0 := hW.cell_some q0 (fun e => e); have h1 := hW.cell_some q1 (fun e => e); go_simp))
  refine h1o 4 rfl ?_
  intro K hK
  go_simp
  refine (HM2.out _).mono ?_
  rintro e u2 ⟨rfl, hg⟩
  have HG2 := Lh (Chg.then_non HG1.out hg)
  clear hg
  refine hK.out _ _ HG2.out (fun _ => ?_)
  clear hK K
  try simp only [Act.put, sA, sB, sC]
  refine hp 5 10 (.bool true) rfl HG2.out ?_
  refine hp 6 11 (.bool true) rfl HG2.out ?_
  refine hp 7 12 (.agg #[.int .i64 b1, .int .i64 s1]) rfl HG2.out ?_ (he := (fun W hW => by have h0 := hW.cell_some a0 (fun e => e); have h1 := hW.cell_some a1 (fun e => e); go_simp))
  refine hp 9 14 (.pointer (some ⟨w.heap.size + 1, 0, none⟩)) rfl HG2.out ?_
  refine hp 10 15 (.int .i64 b2) rfl HG2.out ?_ (he := (fun W hW => by have h0 := hW.cell_some q0 (fun e => e); go_simp))
  refine h1o 8 rfl ?_
  intro K hK
  go_simp
  refine (HE1.out _).mono ?_
  rintro e u3 ⟨rfl, hg⟩
  have HG3 := Lh (Chg.then_non HG2.out hg)
  clear hg
  refine hK.out _ _ HG3.out (fun _ => ?_)
  clear hK K
  try simp only [Act.put, sA, sB, sC]
  refine hp 11 16 (.bool true) rfl HG3.out ?_
  refine hp 12 17 (.bool true) rfl HG3.out ?_
  refine hs 13 18 rfl HG3.out ?_
  refine hs 14 19 rfl HG3.out ?_
  refine hs 15 20 rfl HG3.out ?_
  refine hs 16 21 rfl HG3.out ?_
  refine hs 17 22 rfl HG3.out ?_
  refine hp 18 23 (.bool true) rfl HG3.out ?_
  refine hp 19 24 (.bool true) rfl HG3.out ?_
  refine hp 20 4 (.bool true) rfl HG3.out ?_
  refine hdn ?_ _
  go_wp2_with fail
  go_ret
  exact ⟨ret_b (by rw [HE.out, hc1]; rfl), HG0.out.then_non HG3.out⟩
 | false =>
 cases hc2 : decide (e2 ≤ b1) with
 | true =>
  go_enter Tryz.func373, Tryz.ntmps373
  go_wp2_with fail
  refine wp_region_held_drew (S := Chg Non ((w.alloc (.cells #[.int .i64 b1, .int .i64 s1] 111)).alloc (.cells #[.int .i64 b2, .int .i64 s2] 111)).drew) (by kernel_rfl) (Chg.refl _ _) (fun hHeld => ?_)
  clear hHeld
  generalize ((w.alloc (.cells #[.int .i64 b1, .int .i64 s1] 111)).alloc (.cells #[.int .i64 b2, .int .i64 s2] 111)).drew = v at *
  refine hp 0 5 (.agg #[.int .i64 b1, .int .i64 s1]) rfl (Chg.refl Non _) ?_ (he := (fun W hW => by have h0 := hW.cell_some a0 (fun e => e); have h1 := hW.cell_some a1 (fun e => e); go_simp))
  refine h1o 1 rfl ?_
  intro K hK
  go_simp
  refine (HM1.out _).mono ?_
  rintro e u1 ⟨rfl, hg⟩
  have HG1 := Lh (Chg.then_non (Chg.refl Non _) hg)
  clear hg
  refine hK.out _ _ HG1.out (fun _ => ?_)
  clear hK K
  try simp only [Act.put, sA, sB, sC]
  refine hp 2 7 (.bool true) rfl HG1.out ?_
  refine hp 3 8 (.agg #[.int .i64 b2, .int .i64 s2]) rfl HG1.out ?_ (he := (fun W hW => by have h0 := hW.cell_some q0 (fun e => e); have h1 := hW.cell_some q1 (fun e => e); go_simp))
  refine h1o 4 rfl ?_
  intro K hK
  go_simp
  refine (HM2.out _).mono ?_
  rintro e u2 ⟨rfl, hg⟩
  have HG2 := Lh (Chg.then_non HG1.out hg)
  clear hg
  refine hK.out _ _ HG2.out (fun _ => ?_)
  clear hK K
  try simp only [Act.put, sA, sB, sC]
  refine hp 5 10 (.bool true) rfl HG2.out ?_
  refine hp 6 11 (.bool true) rfl HG2.out ?_
  refine hp 7 12 (.agg #[.int .i64 b1, .int .i64 s1]) rfl HG2.out ?_ (he := (fun W hW => by have h0 := hW.cell_some a0 (fun e => e); have h1 := hW.cell_some a1 (fun e => e); go_simp))
  refine hp 9 14 (.pointer (some ⟨w.heap.size + 1, 0, none⟩)) rfl HG2.out ?_
  refine hp 10 15 (.int .i64 b2) rfl HG2.out ?_ (he := (fun W hW => by have h0 := hW.cell_some q0 (fun e => e); go_simp))
  refine h1o 8 rfl ?_
  intro K hK
  go_simp
  refine (HE1.out _).mono ?_
  rintro e u3 ⟨rfl, hg⟩
  have HG3 := Lh (Chg.then_non HG2.out hg)
  clear hg
  refine hK.out _ _ HG3.out (fun _ => ?_)
  clear hK K
  try simp only [Act.put, sA, sB, sC]
  refine hp 11 16 (.bool false) rfl HG3.out ?_
  refine hp 12 17 (.bool false) rfl HG3.out ?_
  refine hp 13 18 (.agg #[.int .i64 b2, .int .i64 s2]) rfl HG3.out ?_ (he := (fun W hW => by have h0 := hW.cell_some q0 (fun e => e); have h1 := hW.cell_some q1 (fun e => e); go_simp))
  refine hp 15 20 (.pointer (some ⟨w.heap.size, 0, none⟩)) rfl HG3.out ?_
  refine hp 16 21 (.int .i64 b1) rfl HG3.out ?_ (he := (fun W hW => by have h0 := hW.cell_some a0 (fun e => e); go_simp))
  refine h1o 14 rfl ?_
  intro K hK
  go_simp
  refine (HE2.out _).mono ?_
  rintro e u4 ⟨rfl, hg⟩
  have HG4 := Lh (Chg.then_non HG3.out hg)
  clear hg
  refine hK.out _ _ HG4.out (fun _ => ?_)
  clear hK K
  try simp only [Act.put, sA, sB, sC]
  refine hp 17 22 (.bool true) rfl HG4.out ?_
  refine hp 18 23 (.bool true) rfl HG4.out ?_
  refine hp 19 24 (.bool true) rfl HG4.out ?_
  refine hp 20 4 (.bool true) rfl HG4.out ?_
  refine hdn ?_ _
  go_wp2_with fail
  go_ret
  exact ⟨ret_b (by rw [HE.out, hc1, hc2]; rfl), HG0.out.then_non HG4.out⟩
 | false =>
  go_enter Tryz.func373, Tryz.ntmps373
  go_wp2_with fail
  refine wp_region_held_drew (S := Chg Non ((w.alloc (.cells #[.int .i64 b1, .int .i64 s1] 111)).alloc (.cells #[.int .i64 b2, .int .i64 s2] 111)).drew) (by kernel_rfl) (Chg.refl _ _) (fun hHeld => ?_)
  clear hHeld
  generalize ((w.alloc (.cells #[.int .i64 b1, .int .i64 s1] 111)).alloc (.cells #[.int .i64 b2, .int .i64 s2] 111)).drew = v at *
  refine hp 0 5 (.agg #[.int .i64 b1, .int .i64 s1]) rfl (Chg.refl Non _) ?_ (he := (fun W hW => by have h0 := hW.cell_some a0 (fun e => e); have h1 := hW.cell_some a1 (fun e => e); go_simp))
  refine h1o 1 rfl ?_
  intro K hK
  go_simp
  refine (HM1.out _).mono ?_
  rintro e u1 ⟨rfl, hg⟩
  have HG1 := Lh (Chg.then_non (Chg.refl Non _) hg)
  clear hg
  refine hK.out _ _ HG1.out (fun _ => ?_)
  clear hK K
  try simp only [Act.put, sA, sB, sC]
  refine hp 2 7 (.bool true) rfl HG1.out ?_
  refine hp 3 8 (.agg #[.int .i64 b2, .int .i64 s2]) rfl HG1.out ?_ (he := (fun W hW => by have h0 := hW.cell_some q0 (fun e => e); have h1 := hW.cell_some q1 (fun e => e); go_simp))
  refine h1o 4 rfl ?_
  intro K hK
  go_simp
  refine (HM2.out _).mono ?_
  rintro e u2 ⟨rfl, hg⟩
  have HG2 := Lh (Chg.then_non HG1.out hg)
  clear hg
  refine hK.out _ _ HG2.out (fun _ => ?_)
  clear hK K
  try simp only [Act.put, sA, sB, sC]
  refine hp 5 10 (.bool true) rfl HG2.out ?_
  refine hp 6 11 (.bool true) rfl HG2.out ?_
  refine hp 7 12 (.agg #[.int .i64 b1, .int .i64 s1]) rfl HG2.out ?_ (he := (fun W hW => by have h0 := hW.cell_some a0 (fun e => e); have h1 := hW.cell_some a1 (fun e => e); go_simp))
  refine hp 9 14 (.pointer (some ⟨w.heap.size + 1, 0, none⟩)) rfl HG2.out ?_
  refine hp 10 15 (.int .i64 b2) rfl HG2.out ?_ (he := (fun W hW => by have h0 := hW.cell_some q0 (fun e => e); go_simp))
  refine h1o 8 rfl ?_
  intro K hK
  go_simp
  refine (HE1.out _).mono ?_
  rintro e u3 ⟨rfl, hg⟩
  have HG3 := Lh (Chg.then_non HG2.out hg)
  clear hg
  refine hK.out _ _ HG3.out (fun _ => ?_)
  clear hK K
  try simp only [Act.put, sA, sB, sC]
  refine hp 11 16 (.bool false) rfl HG3.out ?_
  refine hp 12 17 (.bool false) rfl HG3.out ?_
  refine hp 13 18 (.agg #[.int .i64 b2, .int .i64 s2]) rfl HG3.out ?_ (he := (fun W hW => by have h0 := hW.cell_some q0 (fun e => e); have h1 := hW.cell_some q1 (fun e => e); go_simp))
  refine hp 15 20 (.pointer (some ⟨w.heap.size, 0, none⟩)) rfl HG3.out ?_
  refine hp 16 21 (.int .i64 b1) rfl HG3.out ?_ (he := (fun W hW => by have h0 := hW.cell_some a0 (fun e => e); go_simp))
  refine h1o 14 rfl ?_
  intro K hK
  go_simp
  refine (HE2.out _).mono ?_
  rintro e u4 ⟨rfl, hg⟩
  have HG4 := Lh (Chg.then_non HG3.out hg)
  clear hg
  refine hK.out _ _ HG4.out (fun _ => ?_)
  clear hK K
  try simp only [Act.put, sA, sB, sC]
  refine hp 17 22 (.bool false) rfl HG4.out ?_
  refine hp 18 23 (.bool false) rfl HG4.out ?_
  refine hp 19 24 (.bool false) rfl HG4.out ?_
  refine hp 20 4 (.bool false) rfl HG4.out ?_
  refine hdn ?_ _
  go_wp2_with fail
  go_ret
  exact ⟨ret_b (by rw [HE.out, hc1, hc2]; rfl), HG0.out.then_non HG4.out⟩
end
section
open Go.RowKit Go.Shelf
attribute [local go_sem] Oper.semAt_some
structure KC (a b : World) : Prop where
 size : a.heap.size ≤ b.heap.size
 same : ∀ (k : Nat) (o : Obj), a.heap[k]? = some o → o.isCells = true → b.heap[k]? = some o
namespace KC
theorem refl (a : World) : KC a a := ⟨Nat.le_refl _, fun _ _ h _ => h⟩
theorem trans {a b c : World} (h : KC a b) (k : KC b c) : KC a c := ⟨Nat.le_trans h.size k.size, fun i o h1 h2 => k.same i o (h.same i o h1 h2) h2⟩
theorem of_non {a b : World} (h : Chg Non a b) : KC a b := ⟨h.size, fun k o h1 _ => blk_keep h1 h (fun e => e)⟩
theorem put (W : World) (l : Nat) (o o' : Obj) (h : W.heap[l]? = some o) (hc : o.isCells = false) : KC W (W.putObj l o') := by
 have hg := grownBy_putObj' W l o'
 refine ⟨hg.size, fun k x h1 h2 => (hg.block k (blk_lt h1) (fun e => ?_)).trans h1⟩
 cases e
 rw [h] at h1
 cases h1
 rw [hc] at h2
 cases h2
theorem cell {a b : World} (h : KC a b) {p : Addr} {v : Value} (hc : a.cell? p = some v) : b.cell? p = some v := by
 cases hb : a.heap[p.block]? with
 | none => simp [World.cell?, hb] at hc
 | some o =>
  cases o with
  | cells cs t fr =>
   have := h.same _ _ hb rfl
   exact (World.cell?_of_block (this.trans hb.symm)).trans hc
  | _ => simp [World.cell?, hb] at hc
end KC
theorem keepsFrom_non {a b : World} (B : Nat) (h : Chg Non a b) : KeepsFrom B a b := ⟨h.size, fun k o _ h1 _ => blk_keep h1 h (fun e => e)⟩
structure Rg where
 base : Int
 size : Int
def Rg.L (a : Rg) : List Value := [.int .i64 a.base, .int .i64 a.size]
def Rg.V (a : Rg) : Value := .agg #[.int .i64 a.base, .int .i64 a.size]
def rgV : World → Rg → List Value → Prop := fun _ a vs => vs = a.L
def pk (l : List Rg) (k : Nat) : List (Rg × Rg) := ((List.range k).map fun i => (l.drop (i + 1)).map fun b => (l.getD i ⟨0, 0⟩, b)).flatten
theorem pk_succ (l : List Rg) (k : Nat) {a : Rg} (h : l[k]? = some a) : pk l (k + 1) = pk l k ++ (l.drop (k + 1)).map fun b => (a, b) := by
 unfold pk
 rw [List.range_succ, List.map_append, List.flatten_append]
 simp [List.getD, h]
theorem pk_mem {l : List Rg} {k : Nat} {x : Rg × Rg} (h : x ∈ pk l k) : ∃ (i j : Nat), i < j ∧ l[i]? = some x.1 ∧ l[j]? = some x.2 := by
 unfold pk at h
 simp only [List.mem_flatten, List.mem_map, List.mem_range] at h
 obtain ⟨m, ⟨i, hi, rfl⟩, hx⟩ := h
 obtain ⟨b, hb, rfl⟩ := List.mem_map.1 hx
 obtain ⟨j, hj⟩ := List.getElem?_of_mem hb
 rw [List.getElem?_drop] at hj
 have := (List.getElem?_eq_some_iff.1 hj).1
 refine ⟨i, i + 1 + j, by omega, ?_, hj⟩
 simp only [List.getD]
 rw [List.getElem?_eq_getElem (by omega)]
 rfl
theorem pk_all {l : List Rg} {i j : Nat} {a b : Rg} (hij : i < j) (ha : l[i]? = some a) (hb : l[j]? = some b) {k : Nat} (hk : i < k) : (a, b) ∈ pk l k := by
 unfold pk
 simp only [List.mem_flatten, List.mem_map, List.mem_range]
 refine ⟨_, ⟨i, hk, rfl⟩, List.mem_map.2 ⟨b, ?_, by simp [List.getD, ha]⟩⟩
 refine List.mem_of_getElem? (i := j - (i + 1)) ?_
 rw [List.getElem?_drop, show i + 1 + (j - (i + 1)) = j by omega]
 exact hb
theorem pk_len (l : List Rg) : ∀ k, (pk l k).length ≤ k * l.length
 | 0 => by simp [pk]
 | k + 1 => by
  have ih := pk_len l k
  unfold pk at ih ⊢
  rw [List.range_succ, List.map_append, List.flatten_append, List.length_append, Nat.add_mul]
  simp only [List.map_cons, List.map_nil, List.flatten_cons, List.flatten_nil, List.append_nil, List.length_map, List.length_drop]
  omega
theorem pairs1_in (F : Fence) (n : Nat) (hf : F.fn 379) (hro : F.round = none) (hn : 1 ≤ n) (l Bs : Nat) (rs : List Rg) (A : Option Addr) (c : Nat) (hc : rs.length ≤ c) (hm : c ≤ maxLen) (J Jx : List (Rg × Rg) → World → Prop) (I : Nat → Prop)
  (W : World) (hJ : AbidesFrom W.heap.size J)
  (hY : ∀ pre x W, J pre W → pre.length < rs.length * rs.length + 1 → YieldAt F (n - 1) Tryz.prog l #[x.1.V, x.2.V] W fun e W' =>
    (e = .returned (.bool true) ∧ J (pre ++ [x]) W' ∧ KC W W') ∨ (e = .returned (.bool false) ∧ Jx (pre ++ [x]) W'))
  (hBs : W.cell? ⟨Bs, 0, none⟩ = some (.slice A rs.length c)) (hR : RdL rgV I 2 W A rs) (h0 : J [] W) :
  CallsIn F n Tryz.prog 379 #[.func (.yield l) #[] #[], .pointer (some ⟨Bs, 0, none⟩)] W fun e W' => (∃ v, e = .returned v) ∧
   ((∃ ys, ys = pk rs rs.length ∧ J ys W') ∨ (∃ pre : List (Rg × Rg), (∀ x ∈ pre, x ∈ pk rs rs.length) ∧ Jx pre W')) := by
 unfold maxLen at hm
 have HJ := Lh hJ
 have HY := Lh hY
 have HR := Lh hR
 clear hJ hY hR
 refine callsIn_of_wp Tryz.func379 rfl hf ?_ hro
 simp only [Tryz.ntmps379, List.size_toArray, List.length_cons, List.length_nil, Nat.reduceAdd, Nat.reduceSub, Array.replicate_succ, Array.replicate_zero, List.push_toArray, List.append_toArray, List.nil_append, List.cons_append]
 gi_wp2
 gi_loopw [9] (fun iv wr => ∃ k : Nat, k ≤ rs.length ∧ iv = .int .i64 k ∧ Hid (J (pk rs k) wr) ∧ Hid (KC W wr)) (fun iv _ => rs.length - (intOf iv).toNat)
 case atStart => exact ⟨0, Nat.zero_le _, rfl, Lh h0, Lh (KC.refl _)⟩
 case round =>
  obtain ⟨k, hk, rfl, HJs, HK⟩ := hrel
  by_cases hlt : k < rs.length
  ·obtain ⟨wo, hwo⟩ : ∃ wo, wo = wr := ⟨_, rfl⟩
   subst hwo
   obtain ⟨a, ha⟩ : ∃ a, rs[k]? = some a := ⟨_, List.getElem?_eq_getElem hlt⟩
   obtain ⟨b, o, vs, rfl, _, hl, hcell, rfl⟩ := HR.out k a ha
   have k0 : wo.cell? ⟨b, o + k * 2, none⟩ = some (.int .i64 a.base) := HK.out.cell (hcell 0 (.int .i64 a.base) rfl)
   have k1 : wo.cell? ⟨b, o + k * 2 + 1, none⟩ = some (.int .i64 a.size) := HK.out.cell (hcell 1 (.int .i64 a.size) rfl)
   have kB := HK.out.cell hBs
   have hlb := lt_of_cell kB
   have hltd : decide ((k : Int) < (rs.length : Int)) = true := by simpa using hlt
   have HA := Lh ha
   have hbl := lt_of_cell k0
   clear ha hcell hl
   obtain ⟨x, y⟩ := a
   simp only at k0 k1
   have HJ4 : Hid (J (pk rs k) (wo.alloc (.cells #[.int .i64 x, .int .i64 y] 111))) := Lh (HJ.out _ _ _ none HJs.out (World.grownBy_alloc wo _ none) (fun r e => by cases e))
   have HK4 : Hid (KC W (wo.alloc (.cells #[.int .i64 x, .int .i64 y] 111))) := Lh (HK.out.trans (KC.of_non ((Chg.refl Non _).alloc _)))
   have hk0 : (0 : Int) ≤ (k : Int) + 1 := by omega
   have hkl : (k : Int) + 1 ≤ (rs.length : Int) := by omega
   have hkc : (k : Int) + 1 ≤ (c : Int) := by omega
   have hkcn : k + 1 ≤ c := by omega
   have hkln : k + 1 ≤ rs.length := by omega
   by_cases hcap : c = k + 1
   ·have hL : rs.length - (k + 1) = 0 := by omega
    have HJn : Hid (J (pk rs (k + 1)) (wo.alloc (.cells #[.int .i64 x, .int .i64 y] 111))) := Lh (by
      rw [pk_succ rs k HA.out, List.drop_eq_nil_of_le (by omega), List.map_nil, List.append_nil]
      exact HJ4.out)
    have hL2 : decide ((0 : Int) < ((rs.length - (k + 1) : Nat) : Int)) = false := by rw [hL]; rfl
    have hL3 : ¬ ((0 : Int) < ((rs.length - (k + 1) : Nat) : Int)) := by rw [hL]; omega
    have hL4 : ¬ (0 < rs.length - (k + 1)) := by omega
    clear hL
    subst hcap
    gi_wp2
    gi_loopw [19] (fun jv wq => jv = .int .i64 0 ∧ Hid (J (pk rs (k + 1)) wq) ∧ Hid (KC W wq)) (fun _ _ => 0)
    case atStart => exact ⟨rfl, HJn, HK4⟩
    case round =>
     obtain ⟨rfl, HJm, HKm⟩ := hrel
     gi_wp2
     go_roundw
     case rel => exact ⟨k + 1, by omega, by simp, HJm, HKm⟩
     case measure => simp [intOf]; omega
   ·have hcap' : ¬ (k + 1 = c) := fun e => hcap e.symm
    gi_wp2
    gi_loopw [19] (fun jv wr => ∃ j : Nat, j ≤ rs.length - (k + 1) ∧ jv = .int .i64 j ∧ Hid (J (pk rs k ++ ((rs.drop (k + 1)).take j).map fun b => (⟨x, y⟩, b)) wr) ∧ Hid (KC (wo.alloc (.cells #[.int .i64 x, .int .i64 y] 111)) wr)) (fun jv _ => rs.length - (intOf jv).toNat)
    case atStart => exact ⟨0, Nat.zero_le _, rfl, Lh (by simpa using HJ4.out), Lh (KC.refl _)⟩
    case round =>
     obtain ⟨j, hj, rfl, HJ2, HK2⟩ := hrel
     by_cases hjl : j < rs.length - (k + 1)
     ·obtain ⟨a, ha⟩ : ∃ a, rs[k + 1 + j]? = some a := ⟨_, List.getElem?_eq_getElem (by omega)⟩
      obtain ⟨b', o', vs, e, _, hl, hcell, rfl⟩ := HR.out _ a ha
      injection e with e
      injection e with e1 e2 _
      subst e1 e2
      have q0 : wr.cell? ⟨b, o + (k + 1) * 2 + j * 2, none⟩ = some (.int .i64 a.base) := by
       have := HK2.out.cell (HK4.out.cell (hcell 0 (.int .i64 a.base) rfl))
       rwa [show o + (k + 1 + j) * 2 + 0 = o + (k + 1) * 2 + j * 2 by omega] at this
      have q1 : wr.cell? ⟨b, o + (k + 1) * 2 + j * 2 + 1, none⟩ = some (.int .i64 a.size) := by
       have := HK2.out.cell (HK4.out.cell (hcell 1 (.int .i64 a.size) rfl))
       rwa [show o + (k + 1 + j) * 2 + 1 = o + (k + 1) * 2 + j * 2 + 1 by omega] at this
      have p0 : wr.cell? ⟨wo.heap.size, 0, none⟩ = some (.int .i64 x) := HK2.out.cell (blk_cell (blk_new wo _) 0 rfl)
      have p1 : wr.cell? ⟨wo.heap.size, 1, none⟩ = some (.int .i64 y) := HK2.out.cell (blk_cell (blk_new wo _) 1 rfl)
      have hp4 := lt_of_cell p0
      have HA2 := Lh ha
      have hjb := lt_of_cell q0
      clear ha hcell hl
      obtain ⟨x2, y2⟩ := a
      simp only at q0 q1
      have hjd : decide ((j : Int) < ((rs.length - (k + 1) : Nat) : Int)) = true := by simpa using hjl
      have hjd2 : decide (j < rs.length - (k + 1)) = true := by simpa using hjl
      have HJ6 : Hid (J (pk rs k ++ ((rs.drop (k + 1)).take j).map fun b => (⟨x, y⟩, b)) (wr.alloc (.cells #[.int .i64 x2, .int .i64 y2] 111))) := Lh (HJ.out _ _ _ none HJ2.out (World.grownBy_alloc wr _ none) (fun r e => by cases e))
      have hlen : (pk rs k ++ ((rs.drop (k + 1)).take j).map fun b => ((⟨x, y⟩ : Rg), b)).length < rs.length * rs.length + 1 := by
       rw [List.length_append, List.length_map, List.length_take, List.length_drop]
       have h1 := pk_len rs k
       have h2 : (k + 1) * rs.length ≤ rs.length * rs.length := Nat.mul_le_mul_right _ (by omega)
       rw [Nat.add_mul] at h2
       omega
      obtain ⟨fn, tmps, assign, body, hy, hR⟩ := HY.out _ (⟨x, y⟩, ⟨x2, y2⟩) _ HJ6.out hlen
      dsimp only [Rg.V] at hy
      have HRR := Lh hR
      clear hR hlen
      gi_wp2
      refine HRR.out.mono ?_
      rintro e W3 (⟨rfl, hJ3, hk3⟩ | ⟨rfl, hJx3⟩)
      ·have HJ3 := Lh hJ3
       have HK3 := Lh (HK2.out.trans ((KC.of_non ((Chg.refl Non _).alloc _)).trans hk3))
       clear hJ3 hk3
       gi_wp2
       go_roundw
       case rel => exact ⟨j + 1, by omega, by simp, Lh (by
         have hm : (rs.drop (k + 1)).take (j + 1) = (rs.drop (k + 1)).take j ++ [⟨x2, y2⟩] := by
           rw [List.take_add_one, List.getElem?_drop, HA2.out]; rfl
         rw [hm, List.map_append, ← List.append_assoc]
         exact HJ3.out), HK3⟩
       case measure => simp [intOf]; omega
      ·have HJX := Lh hJx3
       clear hJx3
       gi_wp2
       refine bodyPost_ret (results_none rfl _ _ _) rfl ?_
       refine ⟨⟨_, rfl⟩, .inr ⟨_, ?_, HJX.out⟩⟩
       intro z hz
       rw [List.append_assoc, List.mem_append] at hz
       rcases hz with hz | hz
       ·obtain ⟨i1, i2, h1, h2, h3⟩ := pk_mem hz
        exact pk_all h1 h2 h3 (by have := (List.getElem?_eq_some_iff.1 h2).1; omega)
       ·rw [List.mem_append] at hz
        rcases hz with hz | hz
        ·obtain ⟨z2, hz2, rfl⟩ := List.mem_map.1 hz
         obtain ⟨i2, hi2⟩ := List.getElem?_of_mem (List.mem_of_mem_take hz2)
         rw [List.getElem?_drop] at hi2
         exact pk_all (i := k) (j := k + 1 + i2) (by omega) HA.out hi2 hlt
        ·obtain rfl := List.mem_singleton.1 hz
         exact pk_all (i := k) (j := k + 1 + j) (by omega) HA.out HA2.out hlt
     ·obtain rfl : j = rs.length - (k + 1) := by omega
      have hjd : decide (((rs.length - (k + 1) : Nat) : Int) < ((rs.length - (k + 1) : Nat) : Int)) = false := by simp
      have HJn : Hid (J (pk rs (k + 1)) wr) := Lh (by
        have := HJ2.out
        rw [List.take_of_length_le (by rw [List.length_drop]; omega)] at this
        rw [pk_succ rs k HA.out]
        exact this)
      have HKn := Lh (HK4.out.trans HK2.out)
      gi_wp2
      go_roundw
      case rel => exact ⟨k + 1, by omega, by simp, HJn, HKn⟩
      case measure => simp [intOf]; omega
  ·obtain rfl : k = rs.length := by omega
   have hltd : decide ((rs.length : Int) < (rs.length : Int)) = false := by simp
   gi_wp2
   go_end0
   exact ⟨⟨_, rfl⟩, .inl ⟨_, rfl, HJs.out⟩⟩
theorem pairs_stops (F : Fence) (n : Nat) (hf : F.fn 379) (hro : F.round = none) (hn : 1 ≤ n) (Bs : Nat) (rs : List Rg) (A : Option Addr) (c : Nat) (hc : rs.length ≤ c) (hm : c ≤ maxLen) (I : Nat → Prop) (w : World)
  (hBs : w.cell? ⟨Bs, 0, none⟩ = some (.slice A rs.length c)) (hR : RdL rgV I 2 w A rs) :
  SeqStopsK F n Tryz.prog 379 #[.pointer (some ⟨Bs, 0, none⟩)] (fun x : Rg × Rg => #[x.1.V, x.2.V]) KC (fun ys => ys = pk rs rs.length) (fun pre => ∀ x ∈ pre, x ∈ pk rs rs.length) (rs.length * rs.length + 1) w := fun l J Jx W hW hJ hJx hY h0 => by
 have hg : Chg Non w W := Chg.of_below hW (Nat.le_refl _)
 exact pairs1_in F n hf hro hn l Bs rs A c hc hm J Jx I W hJ hY (hg.cell_some hBs (fun e => e)) (hR.non hg (fun _ _ h => h)) h0
end
section
open Go.RowKit Go.Shelf
attribute [local go_sem] Oper.semAt_some
def Rg.may (a : Rg) : Bool := regMay a.base a.size
def rgApart (a b : Rg) : Bool := apartB a.base a.size b.base b.size
def allApart (l : List Rg) : Prop := ∀ (i j : Nat) (a b : Rg), i < j → l[i]? = some a → l[j]? = some b → rgApart a b = true
open Classical in
noncomputable def regAll (l : List Rg) : Int := if l.all Rg.may = false then 2 else if allApart l then 0 else 121
theorem res_err {tmps : Array Value} {W : World} {g : Nat} {v : Int} (hp : tmps.getD 2 undef = .pointer (some ⟨g, 0, none⟩)) (hb : W.heap[g]? = some (.cells #[.int .i64 v] 37 (0, 0))) : (results Tryz.f359 tmps).run Tryz.prog W = .ok (.int .i64 v) W := by
 have hc := blk_cell hb 0 (v := .int .i64 v) rfl
 have hp' : tmps[2]?.getD undef = .pointer (some ⟨g, 0, none⟩) := by simpa using hp
 simp [results, Tryz.results359, hp', asAddr, go_sem, hc]
theorem own_blk {β : Type} (g : Nat) (cs : Array Value) (t : TypeId) (fr : Nat × Nat) : _root_.Go.Own (fun (_ : β) (W : World) => W.heap[g]? = some (.cells cs t fr)) := fun s X Y row hs hg hrow => by
 have hs : X.heap[g]? = some (.cells cs t fr) := hs
 refine (hg.block g (blk_lt hs) (fun e' => ?_)).trans hs
 obtain ⟨o, ho, hc⟩ := hrow g e'.symm
 rw [hs] at ho
 injection ho with ho
 subst ho
 cases hc
theorem pairs_ok (A : Option Addr) (n c : Nat) (w : World) :
  Calls Tryz.prog 372 #[.slice A n c] w fun e w' => e = .returned (.func (.func 379) #[] #[.pointer (some ⟨w.heap.size, 0, none⟩)]) ∧ w' = w.alloc (.cells #[.slice A n c] 378) := by
 have hmf := mk_func
 go_enter Tryz.func372, Tryz.ntmps372
 go_wp2
 go_ret
 exact ⟨rfl, rfl⟩
theorem regAll_in (I : Nat → Prop) (A : Option Addr) (rs : List Rg) (c : Nat) (w : World) (hr : RdL rgV I 2 w A rs) (hc : rs.length ≤ c) (hm : c ≤ maxLen) :
  CallsIn Fence.wide 3 Tryz.prog 359 #[.slice A rs.length c] w fun e w' => e = .returned (.int .i64 (regAll rs)) ∧ Chg Non w w' := by
 have hm' := hm
 unfold maxLen at hm
 have HR := Lh hr
 clear hr
 have hro : Fence.wide.round = none := rfl
 refine callsIn_of_wp_marks Tryz.func359 rfl trivial ?_ hro
 simp only [Tryz.ntmps359, List.size_toArray, List.length_cons, List.length_nil, Nat.reduceAdd, Nat.reduceSub, Array.replicate_succ, Array.replicate_zero, List.push_toArray, List.append_toArray, List.nil_append, List.cons_append]
 gi_wp2
 gi_loopw [9] (fun iv wr => ∃ k : Nat, k ≤ rs.length ∧ iv = .int .i64 k ∧ Hid (∀ (i : Nat) (a : Rg), i < k → rs[i]? = some a → a.may = true) ∧ Hid (wr.heap[w.heap.size]? = some (.cells #[.int .i64 0] 37 (0, 0))) ∧ Hid (Chg Non w wr)) (fun iv _ => rs.length - (intOf iv).toNat)
 case atStart => exact ⟨0, Nat.zero_le _, rfl, Lh (fun i a h => by omega), Lh (blk_new _ _), Lh ((Chg.refl Non w).alloc _)⟩
 case round =>
  obtain ⟨k, hk, rfl, HN, HB2, HG⟩ := hrel
  by_cases hlt : k < rs.length
  ·obtain ⟨a, ha⟩ : ∃ a, rs[k]? = some a := ⟨_, List.getElem?_eq_getElem hlt⟩
   obtain ⟨b, o, vs, rfl, _, hl, hcell, rfl⟩ := HR.out k a ha
   have k0 : wr.cell? ⟨b, o + k * 2, none⟩ = some (.int .i64 a.base) := HG.out.cell_some (hcell 0 (.int .i64 a.base) rfl) (fun e => e)
   have k1 : wr.cell? ⟨b, o + k * 2 + 1, none⟩ = some (.int .i64 a.size) := HG.out.cell_some (hcell 1 (.int .i64 a.size) rfl) (fun e => e)
   have hltd : decide ((k : Int) < (rs.length : Int)) = true := by simpa using hlt
   have HA := Lh ha
   have hbl := lt_of_cell k0
   have HM := Lh (fun W => regMay_ok a.base a.size W)
   obtain ⟨m, hmm⟩ : ∃ m, a.may = m := ⟨_, rfl⟩
   rw [show regMay a.base a.size = m from hmm] at HM
   have HMa := Lh hmm
   clear ha hcell hl hmm
   obtain ⟨x, y⟩ := a
   simp only at k0 k1 HM
   gi_wp2_with fail
   refine ⟨trivial, (callsIn_wide.2 (HM.out _)).mono ?_⟩
   rintro e u ⟨rfl, hg⟩
   have HG2 := Lh ((HG.out.alloc _).then_non hg)
   have hb2 := blk_keep (blk_keep HB2.out ((Chg.refl Non wr).alloc _) (fun e => e)) hg (fun e => e)
   have HB3 := Lh hb2
   have c2 := blk_cell hb2 0 (v := .int .i64 0) rfl
   have f2 := blk_free hb2 0
   clear hg hb2
   cases m with
   | false =>
    have HE : Hid (regAll rs = 2) := Lh (by
      rw [regAll, if_pos]
      rw [List.all_eq_false]
      exact ⟨_, List.mem_of_getElem? HA.out, by rw [HMa.out]; simp⟩)
    gi_wp2_with fail
    exact ⟨_, res_err (by kernel_rfl) (by have := blk_set 0 (.int .i64 2) HB3.out; simpa using this), by rw [HE.out], HG2.out.then_new (chg_set _ _ _ _) (fun x e => by omega)⟩
   | true =>
    have HN2 : Hid (∀ (i : Nat) (x : Rg), i < k + 1 → rs[i]? = some x → x.may = true) := Lh (fun i z hi hx => by
      by_cases e : i = k
      · subst e
        rw [HA.out] at hx
        injection hx with hx
        subst hx
        exact HMa.out
      · exact HN.out i z (by omega) hx)
    clear c2 f2
    gi_wp2_with fail
    exact ⟨⟨k + 1, by omega, by simp, HN2, HB3, HG2⟩, by simp [intOf]; omega⟩
  ·obtain rfl : k = rs.length := by omega
   have hltd : decide ((rs.length : Int) < (rs.length : Int)) = false := by simp
   have HP := Lh (pairs_ok A rs.length c wr)
   have HE : Hid (regAll rs = @ite Int (allApart rs) (Classical.propDecidable _) 0 121) := Lh (by
     rw [regAll, if_neg]
     rw [Bool.not_eq_false, List.all_eq_true]
     intro a ha
     obtain ⟨i, hi⟩ := List.getElem?_of_mem ha
     exact HN.out i a (List.getElem?_eq_some_iff.1 hi).1 hi)
   gi_wp2_with fail
   refine ⟨trivial, (callsIn_wide.2 HP.out).mono ?_⟩
   rintro e u ⟨rfl, rfl⟩
   gi_wp2_with fail
   have hws : w.heap.size < wr.heap.size := blk_lt HB2.out
   have hbx : (wr.alloc (.cells #[.slice A rs.length c] 378)).cell? ⟨wr.heap.size, 0, none⟩ = some (.slice A rs.length c) := blk_cell (blk_new wr _) 0 rfl
   have HRw := Lh (HR.out.non (HG.out.alloc (.cells #[.slice A rs.length c] 378)) (fun _ _ h => h))
   have hb0 : Boxed (wr.alloc (.cells #[.slice A rs.length c] 378)) w.heap.size 37 (.int .i64 0) := blk_keep HB2.out ((Chg.refl Non wr).alloc _) (fun e => e)
   have hbl0 : Below w.heap.size w (wr.alloc (.cells #[.slice A rs.length c] 378)) := (HG.out.alloc _).below_non
   have hsz : (wr.alloc (.cells #[.slice A rs.length c] 378)).heap.size = wr.heap.size + 1 := by simp
   obtain ⟨W0, hW0⟩ : ∃ W0, wr.alloc (.cells #[.slice A rs.length c] 378) = W0 := ⟨_, rfl⟩
   rw [hW0] at hbx HRw hb0 hbl0 hsz ⊢
   clear hW0 HP HG HB2
   refine wpIn_rangeFunc_ownH hro (by omega) (gf := 379) (lb := #[.pointer (some ⟨wr.heap.size, 0, none⟩)]) rfl trivial (enters_of Tryz.func379 (by kernel_rfl) rfl)
    (pairs_stops Fence.wide (3 - 1) trivial hro (by omega) wr.heap.size rs A c hc hm' I W0 hbx HRw.out) KC.trans (fun W l o o' _ h1 h2 _ => KC.put W l o o' h1 h2) (Below.refl _ _) (fun _ => rfl)
    (fun pre W => (Boxed W w.heap.size 37 (.int .i64 0) ∧ ∀ x ∈ pre, rgApart x.1 x.2 = true) ∧ Below w.heap.size w W)
    (fun cd pre W => ((cd = .ret ∧ ∃ x ∈ pre, rgApart x.1 x.2 = false) ∧ Boxed W w.heap.size 37 (.int .i64 121)) ∧ Below w.heap.size w W)
    (OwnFrom.and (OwnFrom.and (Own.from (boxed_own _ _ (fun _ => .int .i64 0)) _) (ownFrom_pure _ _)) (ownFrom_below (Nat.le_refl _) (by omega)))
    (fun cd => OwnFrom.and (OwnFrom.and (ownFrom_pure _ _) (Own.from (boxed_own _ _ (fun _ => .int .i64 121)) _)) (ownFrom_below (Nat.le_refl _) (by omega)))
    ⟨⟨hb0, fun x h => by cases h⟩, hbl0⟩
    (fun x a' W => ∃ B5 B6, (W.heap[B5]? = some (.cells #[.int .i64 x.1.base, .int .i64 x.1.size] 111 (0, 0)) ∧ W.heap[B6]? = some (.cells #[.int .i64 x.2.base, .int .i64 x.2.size] 111 (0, 0))) ∧ a' = { tmps := #[.slice A rs.length c, undef, .pointer (some ⟨w.heap.size, 0, none⟩), undef, u4, .pointer (some ⟨B5, 0, none⟩), .pointer (some ⟨B6, 0, none⟩), .slice A rs.length c, .int .i64 (rs.length : Nat), .int .i64 (rs.length : Nat), .bool false, u11, u12, u13, u14, u15, u16, .slice A rs.length c, .func (.func 379) #[] #[.pointer (some ⟨wr.heap.size, 0, none⟩)], x.1.V, x.2.V, undef, undef, undef, undef], defers := [] })
    (fun x a' _ X Y row hs hg hrw => by
      obtain ⟨B5, B6, ⟨h5, h6⟩, h3⟩ := hs
      exact ⟨B5, B6, ⟨own_blk B5 _ _ _ () X Y row h5 hg (fun r e => (hrw r e).2), own_blk B6 _ _ _ () X Y row h6 hg (fun r e => (hrw r e).2)⟩, h3⟩)
    ?assign ?body ?done ?stop
   case assign =>
    rintro l pre ⟨⟨x1, y1⟩, ⟨x2, y2⟩⟩ W K ⟨⟨hb, hp⟩, hbl⟩ hK
    have hg2 : Chg Non W ((W.alloc (.cells #[.int .i64 x1, .int .i64 y1] 111)).alloc (.cells #[.int .i64 x2, .int .i64 y2] 111)) := ((Chg.refl Non W).alloc _).alloc _
    have hb5 := heap_alloc2_old W (.cells #[.int .i64 x1, .int .i64 y1] 111) (.cells #[.int .i64 x2, .int .i64 y2] 111)
    have hb6 := heap_alloc2_new W (.cells #[.int .i64 x1, .int .i64 y1] 111) (.cells #[.int .i64 x2, .int .i64 y2] 111)
    have H := Lh (hK _ _ (keepsFrom_non _ hg2) (KC.of_non hg2) ⟨⟨blk_keep hb hg2 (fun e => e), hp⟩, hbl.trans (hg2.below_non.mono hbl.size)⟩ ⟨W.heap.size, W.heap.size + 1, ⟨hb5, hb6⟩, rfl⟩)
    clear hb hp hbl hg2 hb5 hb6 hK
    dsimp only [Rg.V] at H ⊢
    gi_wp2
    exact H.out
   case body =>
    rintro l pre ⟨⟨x1, y1⟩, ⟨x2, y2⟩⟩ a' W hl ⟨r, hr⟩ ⟨⟨hb, hp⟩, hbl⟩ ⟨B5, B6, ⟨h5, h6⟩, rfl⟩ hlt
    have c50 := blk_cell h5 0 (v := .int .i64 x1) rfl
    have c51 := blk_cell h5 1 (v := .int .i64 y1) rfl
    have c60 := blk_cell h6 0 (v := .int .i64 x2) rfl
    have c61 := blk_cell h6 1 (v := .int .i64 y2) rfl
    have HAp := Lh (fun V => apart_ok x1 y1 x2 y2 V)
    have HI := Lh (And.intro hb (And.intro hp hbl))
    obtain ⟨q, hq⟩ : ∃ q, apartB x1 y1 x2 y2 = q := ⟨_, rfl⟩
    rw [hq] at HAp
    have HQ := Lh (show rgApart ⟨x1, y1⟩ ⟨x2, y2⟩ = q from hq)
    clear hb hp hbl hq h5 h6 hr
    dsimp only [Rg.V]
    gi_wp2_with fail
    refine ⟨trivial, (CallsIn.inRound l (callsIn_wide.2 (HAp.out _))).mono ?_⟩
    rintro e V ⟨rfl, hg⟩
    have hb2 : Boxed V w.heap.size 37 (.int .i64 0) := blk_keep HI.out.1 hg (fun e => e)
    have hbl2 : Below w.heap.size w V := HI.out.2.2.trans (hg.below_non.mono HI.out.2.2.size)
    have HG := Lh (And.intro hg (And.intro hb2 hbl2))
    have c2 := hb2.cell
    have f2 := hb2.frozen
    clear hg hb2 hbl2
    cases q with
    | true =>
     gi_wp2_with fail
     exact ⟨keepsFrom_non _ HG.out.1, KC.of_non HG.out.1, ⟨HG.out.2.1, fun z hz => by
       rcases List.mem_append.1 hz with h | h
       · exact HI.out.2.1 z h
       · obtain rfl := List.mem_singleton.1 h
         exact HQ.out⟩, HG.out.2.2⟩
    | false =>
     gi_wp2_with fail
     refine ⟨(keepsFrom_non _ HG.out.1).trans ((KeepsOthers.setCell _ _ _).from _), ⟨⟨rfl, _, List.mem_append.2 (.inr (List.mem_singleton.2 rfl)), HQ.out⟩, HG.out.2.1.set _⟩, HG.out.2.2.setCell (p := ⟨w.heap.size, 0, none⟩) (Nat.le_refl _) _⟩
   case done =>
    rintro D zs W hD rfl ⟨⟨hb, hp⟩, hbl⟩ hK
    have c2 := hb.cell
    have f2 := hb.frozen
    have hDn : D ≠ w.heap.size := by omega
    have HE2 : Hid (regAll rs = 0) := Lh (by
      rw [HE.out, if_pos]
      intro i j a b hij ha hb'
      exact hp _ (pk_all hij ha hb' (by have := (List.getElem?_eq_some_iff.1 ha).1; exact this)))
    have hK2 : (W.setCell ⟨w.heap.size, 0, none⟩ (.int .i64 0)).heap[D]? = some (.deferred (some [])) := blk_keep hK (chg_set W w.heap.size 0 (.int .i64 0)) (fun e => hDn e)
    have HF := Lh (And.intro hK2 (And.intro (hb.set (.int .i64 0)) (hbl.setCell (p := ⟨w.heap.size, 0, none⟩) (Nat.le_refl _) (.int .i64 0))))
    clear hb hp hbl hK hK2
    gi_wp2_with fail
    refine ⟨by simp, .inl ⟨_, _, rfl, run_takeDeferred HF.out.1, ?_⟩⟩
    have hbp := (HF.out.2.1).kept (grownBy_putObj' _ D (.deferred none)) (fun e => by injection e with e; omega)
    exact ⟨_, res_err (by kernel_rfl) hbp, by rw [HE2.out], Chg.of_below (HF.out.2.2.trans (belowK_b (w := w) (Nat.le_refl _) _ D _ _ (by omega) HF.out.1 rfl rfl)) (Nat.le_refl _)⟩
   case stop =>
    rintro D cd pre W hD hsp ⟨⟨⟨rfl, z, hz, hzf⟩, hb⟩, hbl⟩ hK
    have HE2 : Hid (regAll rs = 121) := Lh (by
      rw [HE.out, if_neg]
      intro hall
      obtain ⟨i, j, hij, h1, h2⟩ := pk_mem (hsp z hz)
      rw [hall i j _ _ hij h1 h2] at hzf
      cases hzf)
    have HF := Lh (And.intro hK (And.intro hb hbl))
    clear hb hbl hK hsp hz hzf
    gi_wp2_with fail
    refine ⟨by simp, .inl ⟨_, _, rfl, run_takeDeferred HF.out.1, ?_⟩⟩
    have hbp := (HF.out.2.1).kept (grownBy_putObj' _ D (.deferred none)) (fun e => by injection e with e; omega)
    exact ⟨_, res_err (by kernel_rfl) hbp, by rw [HE2.out], Chg.of_below (HF.out.2.2.trans (belowK_b (w := w) (Nat.le_refl _) _ D _ _ (by omega) HF.out.1 rfl rfl)) (Nat.le_refl _)⟩
theorem regAll_ok (I : Nat → Prop) (A : Option Addr) (rs : List Rg) (c : Nat) (w : World) (hr : RdL rgV I 2 w A rs) (hc : rs.length ≤ c) (hm : c ≤ maxLen) :
  Calls Tryz.prog 359 #[.slice A rs.length c] w fun e w' => e = .returned (.int .i64 (regAll rs)) ∧ Chg Non w w' := callsIn_wide.1 (regAll_in I A rs c w hr hc hm)
end
end Go.Proofs.YtajkajgifigmbaaGreat
