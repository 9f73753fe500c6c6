/- CheckPlays, part 12 of 27: contracts of the functions that it reaches, and the laws that they need, merged and shortened (from my texts XWrN, XEqA, XEqf, XStL, XSIs, XStM). -/
import Derived.Test.YtkgnlobabknkcaaGreatMgCheckPlaysA
import Derived.Test.YtkgnlobabknkcaaGreatMgCheckPlaysC
import Derived.Test.YtkgnlobabknkcaaGreatMgCheckPlaysF
import Derived.Test.YtkgnlobabknkcaaGreatMgCheckPlaysH
import Derived.Test.YtkgnlobabknkcaaGreatMgCheckPlaysI
import Derived.DeepKeys
import Derived.ChangeSlices
import Derived.Laws.StructEq
import Derived.OpenShut
namespace Go.Proofs.YtkgnlobabknkcaaGreat
set_option linter.unusedVariables false
set_option linter.unusedSimpArgs false
set_option maxHeartbeats 8000000
set_option maxRecDepth 100000
section
open Go.RowKit
def IsWN (N : Nat → Prop) (w : World) (p : Nat) (l : List UInt8) (er : Int) : Prop :=
 (∀ k, N k → k < w.heap.size) ∧ ¬ N p ∧ ∃ v, w.heap[p]? = some (.cells #[v, .bool true, .int .i64 er] 175 (0, 0)) ∧ w.ownsRow 0 5 1 v l.length (l.map bv) ∧ ∀ g, v.ownBlock = some g → ¬ N g
def Nt (N : Nat → Prop) : Nat → Prop := fun k => ¬ N k
theorem isWN_chg {N : Nat → Prop} {p : Nat} {l : List UInt8} {er : Int} {w w' : World} (h : IsWN N w p l er) (hg : Chg Non w w') : IsWN N w' p l er := by
 obtain ⟨hN, hp, v, hb, ho, hg2⟩ := h
 exact ⟨fun k hk => by have := hN k hk; have := hg.size; omega, hp, v, (hg.block p (Array.getElem?_eq_some_iff.1 hb).1 (fun e => e)).trans hb, own_chg ho hg, hg2⟩
theorem IsWN.lt {N : Nat → Prop} {p : Nat} {l : List UInt8} {er : Int} {w : World} (h : IsWN N w p l er) : p < w.heap.size := by
 obtain ⟨_, _, v, hb, _⟩ := h
 exact (Array.getElem?_eq_some_iff.1 hb).1
theorem IsWN.more {N M : Nat → Prop} {p : Nat} {l : List UInt8} {er : Int} {w w' : World} (h : IsWN N w p l er) (hg : Chg Non w w') (hM : ∀ k, M k → N k ∨ (w.heap.size ≤ k ∧ k < w'.heap.size)) : IsWN M w' p l er := by
 have hl := h.lt
 obtain ⟨hN, hp, v, hb, ho, hg2⟩ := isWN_chg h hg
 refine ⟨fun k hk => ?_, fun hk => ?_, v, hb, ho, fun g e hk => ?_⟩
 ·rcases hM k hk with h1 | h1
  ·exact hN k h1
  ·exact h1.2
 ·rcases hM p hk with h1 | h1
  ·exact hp h1
  ·omega
 ·rcases hM g hk with h1 | h1
  ·exact hg2 g e h1
  ·obtain ⟨_, _, v0, hb0, ho0, _⟩ := h
   have e0 : v0 = v := by
    have e1 := (hg.block p hl (fun e => e)).trans hb0
    rw [hb] at e1
    simp only [Option.some.injEq, Obj.cells.injEq, Array.mk.injEq, List.cons.injEq] at e1
    exact e1.1.1.symm
   subst e0
   have := (ho0.lt g e).2
   omega
theorem isWN_after {N : Nat → Prop} {p gg cap : Nat} {l m : List UInt8} {v : Value} {w w1 w2 : World} (hN : ∀ k, N k → k < w.heap.size) (hNp : ¬ N p) (hb : w.heap[p]? = some (.cells #[v, .bool true, .int .i64 0] 175 (0, 0))) (hg1 : Chg Non w w1) (hown : w.ownsRow 0 5 1 v l.length (l.map bv))
  (hNg : ∀ g, v.ownBlock = some g → ¬ N g) (hown2 : w2.ownsRow 0 5 1 (.slice (some ⟨gg, 0, none⟩) (l.length + m.length) cap) (l.length + m.length) (l.map bv ++ m.map bv)) (hgrow : w1.grownBy w2 v.ownBlock)
  (hat : v.ownBlock = some gg ∨ gg = w1.heap.size) (hnp : v.ownBlock ≠ some p) :
  IsWN N (w2.setCell ⟨p, 0, none⟩ (.slice (some ⟨gg, 0, none⟩) (l.length + m.length) cap)) p (l ++ m) 0 ∧ Chg (Nt N) w (w2.setCell ⟨p, 0, none⟩ (.slice (some ⟨gg, 0, none⟩) (l.length + m.length) cap)) := by
 have hlp : p < w.heap.size := (Array.getElem?_eq_some_iff.1 hb).1
 have hb2 : w2.heap[p]? = some (.cells #[v, .bool true, .int .i64 0] 175 (0, 0)) :=
  (hgrow.block p (Nat.lt_of_lt_of_le hlp hg1.size) (fun e => hnp e.symm)).trans ((hg1.block p hlp (fun e => e)).trans hb)
 have hgp : gg ≠ p := by
  rintro rfl
  rcases hat with h | h
  ·exact hnp h
  ·have := hg1.size; omega
 have hgN : ¬ N gg := by
  rcases hat with h | h
  ·exact hNg gg h
  ·intro hn
   have h1 := hN gg hn
   have h2 := hg1.size
   omega
 have hchg : Chg (Nt N) w (w2.setCell ⟨p, 0, none⟩ (.slice (some ⟨gg, 0, none⟩) (l.length + m.length) cap)) :=
  ((hg1.of_non (S := Nt N)).grown hgrow (fun g e => .inl (hNg g e))).setCell (p := ⟨p, 0, none⟩) (.inl hNp) _
 refine ⟨⟨fun k hk => by have := hN k hk; have := hchg.size; omega, hNp, .slice (some ⟨gg, 0, none⟩) (l.length + m.length) cap, ?_, ?_, ?_⟩, hchg⟩
 ·rw [heap_setCell_same _ _ _ _ _ _ hb2]; rfl
 ·have h2 := ownsRow_setCell_other hown2 (a := ⟨p, 0, none⟩) (by simp [Value.ownBlock, hgp]) (.slice (some ⟨gg, 0, none⟩) (l.length + m.length) cap)
  simpa using h2
 ·intro g e
  simp only [Value.ownBlock, Option.some.injEq] at e
  rw [← e]; exact hgN
theorem add_N (N : Nat → Prop) (p b n c : Nat) (l : List UInt8) (ps : List (Option Addr × List UInt8 × Nat)) (w : World) (hW : IsWN N w p l 0) (hP : Parts w b 0 ps) (hn : ps.length = n) (hcap : n ≤ c)
  (h0 : 0 < (cat ps).length) (hroom : l.length + (cat ps).length ≤ 65536) (hn1 : n ≤ 1000) :
  Calls Tryz.prog 111 #[.pointer (some ⟨p, 0, none⟩), .slice (some ⟨b, 0, none⟩) n c] w fun e w' => e = .returned (.pointer (some ⟨p, 0, none⟩)) ∧ IsWN N w' p (l ++ cat ps) 0 ∧ Chg (Nt N) w w' := by
 subst hn
 obtain ⟨hN, hNp, v, hb, hown, hNg⟩ := hW
 have HNN := Lh (And.intro hN (And.intro hNp hNg))
 clear hN hNp hNg
 have HB := Lh hb
 have c0 : w.cell? ⟨p, 0, none⟩ = some v := by rw [cell_of_row _ _ _ _ _ _ hb]; rfl
 have c2 : w.cell? ⟨p, 2, none⟩ = some (.int .i64 0) := by rw [cell_of_row _ _ _ _ _ _ hb]; rfl
 clear hb
 obtain ⟨A, cv, rfl⟩ : ∃ A cv, v = .slice A l.length cv := by
  rcases hown.2 with ⟨rfl, h⟩ | ⟨g, cap, cur, rfl, _⟩
  ·exact ⟨none, 0, by rw [h]⟩
  ·exact ⟨_, _, rfl⟩
 go_enter Tryz.func111, Tryz.ntmps111
 go_wp2_with fail
 refine (wnone_any p _ _ w HB.out).mono ?_
 rintro e w' ⟨rfl, rfl⟩
 go_wp2_with fail
 go_loop [5, 26] (fun r i => ∃ k : Nat, k ≤ ps.length ∧ i = .int .i64 k ∧ r = .int .i64 (65536 - (l.length : Int) - ((cat (ps.take k)).length : Nat))) (fun _ i => ps.length - (intOf i).toNat)
 case atStart => exact ⟨0, by omega, rfl, by simp [cat]⟩
 case round =>
  obtain ⟨k, hk, rfl, rfl⟩ := hrel
  by_cases hlt : k < ps.length
  ·have hpk := (hP k _ (List.getElem?_eq_getElem hlt)).1
   rw [Nat.zero_add] at hpk
   have hs := cat_take_len ps k hlt
   have hle := cat_take_le ps (k + 1)
   obtain ⟨⟨A1, l1, c1⟩, hq⟩ : ∃ q, ps[k]'hlt = q := ⟨_, rfl⟩
   rw [hq] at hpk hs
   clear hq
   simp only at hpk hs
   obtain ⟨n1, hn1'⟩ : ∃ n, l1.length = n := ⟨_, rfl⟩
   rw [hn1'] at hpk hs
   clear hn1'
   obtain ⟨t, ht⟩ : ∃ t, (cat (ps.take k)).length = t := ⟨_, rfl⟩
   rw [ht] at hs ⊢
   clear ht
   have hb1 : t + n1 ≤ 65536 := by omega
   have hb2 : l.length + t + n1 ≤ 65536 := by omega
   have HS := Lh hs
   clear hs hle
   have hmin : min (n1 : Int) 65537 = n1 := by omega
   go_wp2
   go_round
   case rel => exact ⟨k + 1, by omega, by go_num, by rw [HS.out]; exact intEq (by omega)⟩
   case measure => simp [intOf]; omega
  ·obtain rfl : k = ps.length := by omega
   rw [List.take_length]
   have hdr : decide (65536 - (l.length : Int) - ((cat ps).length : Nat) < 0) = false := by simp; omega
   obtain ⟨i0, hi0, hz0, hz1, hz2⟩ := info_parts info_u8
   have hlp : p < w.heap.size := lt_of_cell c0
   have hnp : (Value.slice A l.length cv).ownBlock ≠ some p := own_ne hown HB.out (by decide)
   have HNP := Lh hnp
   have HOwn := Lh hown
   clear hown hnp
   obtain ⟨m, hm⟩ : ∃ m, cat ps = m := ⟨_, rfl⟩
   rw [hm] at h0 hroom hdr
   have HM := Lh hm
   have hcat := fun W h => Cat_any b 0 ps.length c ps W rfl h hcap (by rw [hm]; omega) (by omega)
   rw [hm] at hcat ⊢
   clear hm
   have HCat := Lh hcat
   clear hcat
   have HPt := Lh hP
   clear hP
   have c0' : w.drew.cell? ⟨p, 0, none⟩ = some (.slice A l.length cv) := c0
   go_wp2_with fail
   have f0 : w.frozen? ⟨p, 0, none⟩ = false := frozen_of_row _ _ _ _ _ HB.out
   have f0' : w.drew.frozen? ⟨p, 0, none⟩ = false := f0
   go_region_law (first
       | (refine step_append_lies _ (by rfl) _ _ _ (by rfl) 0 5 i0 _ 1 1 Tryz.underlying29 hi0 hz0 hz1 hz2 rfl (by omega) (.slice A l.length cv) l.length (l.map bv) (by rfl) (own_chg HOwn.out hg1')
           ⟨b1, o1, none⟩ m.length c1 (m.map bv) (by rfl) (by simp) HN1.out (bv_one m) h0 (by unfold maxLen; omega) (by omega) (Nat.zero_le _) w1.heap.size rfl ?_
          intro gg cap w2 hown2 hgrow hat hlt2
          have c2' : w2.cell? ⟨p, 0, none⟩ = some (.slice A l.length cv) := (World.cell?_of_block (a := ⟨p, 0, none⟩) (hgrow.block p (Nat.lt_of_lt_of_le hlp hg1'.size) (fun e => HNP.out e.symm))).trans c1'
          have f2' : w2.frozen? ⟨p, 0, none⟩ = false := (World.frozen?_of_block (a := ⟨p, 0, none⟩) (hgrow.block p (Nat.lt_of_lt_of_le hlp hg1'.size) (fun e => HNP.out e.symm))).trans f1')
       | (go_simp
          go_at_call 33
          refine (HCat.out _ (by exact HPt.out)).mono ?_
          rintro e w1 ⟨A1, c1, rfl, hc1, hm1, ho1, hg1⟩
          obtain ⟨b1, o1, rfl, hb1, hcell1⟩ := ho1.rd.at_ h0
          have HN1 := Lh (news_of hcell1)
          have hg1' : Chg Non w w1 := ((Chg.refl Non w).drew).then_non hg1
          have c1' : w1.cell? ⟨p, 0, none⟩ = some (.slice A l.length cv) := hg1'.cell_some c0 (fun e => e)
          have f1' : w1.frozen? ⟨p, 0, none⟩ = false := (hg1'.frozen (p := ⟨p, 0, none⟩) hlp (fun e => e)).trans f0
          clear hcell1))
   all_goals
    go_wp2
    go_ret
    rw [HM.out]
    exact ⟨rfl, isWN_after HNN.out.1 HNN.out.2.1 HB.out hg1' HOwn.out HNN.out.2.2 hown2 hgrow hat HNP.out⟩
theorem add1_N (N : Nat → Prop) (p cm : Nat) (l m : List UInt8) (A : Option Addr) (t : TypeId) (w w1 : World) (hW : IsWN N w p l 0) (hg : Chg Non w w1) (hr : Rd w1 A m) (h0 : 0 < m.length) (hroom : l.length + m.length ≤ 65536) :
  Calls Tryz.prog 111 #[.pointer (some ⟨p, 0, none⟩), .slice (some ⟨w1.heap.size, 0, none⟩) 1 1] (w1.alloc (.cells #[.slice A m.length cm] t)) fun e w' => e = .returned (.pointer (some ⟨p, 0, none⟩)) ∧ IsWN N w' p (l ++ m) 0 ∧ Chg (Nt N) w w' := by
 have hW1 : IsWN N (w1.alloc (.cells #[.slice A m.length cm] t)) p l 0 := isWN_chg hW (hg.alloc _)
 have hP1 := parts_new w1 t [(A, m, cm)] (by simpa using hr)
 have hcat : cat [(A, m, cm)] = m := by simp [cat]
 refine (add_N N p w1.heap.size 1 1 l [(A, m, cm)] _ hW1 hP1 rfl (by omega) (by rw [hcat]; omega) (by rw [hcat]; omega) (by omega)).mono ?_
 rw [hcat]
 rintro e w2 ⟨rfl, hW2, hB2⟩
 exact ⟨rfl, hW2, (hg.alloc _).non_then hB2⟩
theorem WInt_N (N : Nat → Prop) (p : Nat) (l : List UInt8) (n : Int) (w : World) (hW : IsWN N w p l 0) (hroom : l.length + 8 ≤ 65536) :
  Calls Tryz.prog 67 #[.pointer (some ⟨p, 0, none⟩), .int .i64 n] w fun e w' => e = .returned (.pointer (some ⟨p, 0, none⟩)) ∧ IsWN N w' p (l ++ be (u64 n) 8) 0 ∧ Chg (Nt N) w w' := by
 have hp := Put64 (u64 n) w (u64_lt n)
 rw [u64_cast] at hp
 have hlen : (be (u64 n) 8).length = 8 := be_length _ _
 obtain ⟨m, hm⟩ : ∃ m, be (u64 n) 8 = m := ⟨_, rfl⟩
 rw [hm] at hp hlen ⊢
 clear hm
 have HA := Lh (fun (w1 : World) (A : Option Addr) (c : Nat) (hg : Chg Non w w1) (ho : Rd w1 A m) => add1_N N p c l m A 29 w w1 hW hg ho (by omega) (by omega))
 have HP := Lh hp
 clear hp hlen hW hroom
 go_enter Tryz.func67, Tryz.ntmps67
 go_wp2_with fail
 refine HP.out.mono ?_
 rintro e w1 ⟨A, c, rfl, hc, hm, ho, hg⟩
 have HG := Lh hg
 have HO := Lh ho.rd
 clear hg ho
 go_wp2_with fail
 refine (HA.out w1 A c HG.out HO.out).mono ?_
 rintro e w2 ⟨rfl, h⟩
 go_wp2
 go_ret
 exact ⟨rfl, h⟩
theorem WByte_N (N : Nat → Prop) (p : Nat) (l : List UInt8) (x : UInt8) (w : World) (hW : IsWN N w p l 0) (hroom : l.length + 1 ≤ 65536) :
  Calls Tryz.prog 71 #[.pointer (some ⟨p, 0, none⟩), .int .u8 (x.toNat : Int)] w fun e w' => e = .returned (.pointer (some ⟨p, 0, none⟩)) ∧ IsWN N w' p (l ++ [x]) 0 ∧ Chg (Nt N) w w' := by
 have hr : Rd (w.alloc (.cells #[.int .u8 (x.toNat : Int)] 5)) (some ⟨w.heap.size, 0, none⟩) [x] := (own_new w 5 #[.int .u8 (x.toNat : Int)] [x] rfl).rd
 have hA := add1_N N p 1 l [x] (some ⟨w.heap.size, 0, none⟩) 29 w _ hW ((Chg.refl _ _).alloc _) hr (by simp) (by simpa using hroom)
 rw [show (w.alloc (.cells #[.int .u8 (x.toNat : Int)] 5)).heap.size = w.heap.size + 1 by simp] at hA
 have HA := Lh hA
 clear hA hr hW hroom
 go_enter Tryz.func71, Tryz.ntmps71
 go_wp2_with fail
 refine HA.out.mono ?_
 rintro e w' ⟨rfl, h⟩
 go_wp2
 go_ret
 exact ⟨rfl, h⟩
theorem WFlag_N (N : Nat → Prop) (p : Nat) (l : List UInt8) (b : Bool) (w : World) (hW : IsWN N w p l 0) (hroom : l.length + 1 ≤ 65536) :
  Calls Tryz.prog 70 #[.pointer (some ⟨p, 0, none⟩), .bool b] w fun e w' => e = .returned (.pointer (some ⟨p, 0, none⟩)) ∧ IsWN N w' p (l ++ [flagB b]) 0 ∧ Chg (Nt N) w w' := by
 have HA := Lh (WByte_N N p l (flagB b) w hW hroom)
 clear hW hroom
 cases b
 all_goals
  go_enter Tryz.func70, Tryz.ntmps70
  go_wp2_with fail
  refine HA.out.mono ?_
  rintro e w' ⟨rfl, h⟩
  go_wp2
  go_ret
  exact ⟨rfl, h⟩
theorem WTag_N (N : Nat → Prop) (p : Nat) (l : List UInt8) (h : List UInt8) (w : World) (hh : h.length = 32) (hW : IsWN N w p l 0) (hroom : l.length + 32 ≤ 65536) :
  Calls Tryz.prog 85 #[.pointer (some ⟨p, 0, none⟩), .agg (h.map bv).toArray] w fun e w' => e = .returned (.pointer (some ⟨p, 0, none⟩)) ∧ IsWN N w' p (l ++ h) 0 ∧ Chg (Nt N) w w' := by
 have hr : Rd (w.alloc (.cells (h.map bv).toArray 28)) (some ⟨w.heap.size, 0, none⟩) h := (own_new w 28 (h.map bv).toArray h rfl).rd
 have hA := add1_N N p 32 l h (some ⟨w.heap.size, 0, none⟩) 29 w _ hW ((Chg.refl _ _).alloc _) hr (by omega) (by omega)
 rw [show (w.alloc (.cells (h.map bv).toArray 28)).heap.size = w.heap.size + 1 by simp, hh] at hA
 have HA := Lh hA
 clear hA hr hW hroom
 go_enter Tryz.func85, Tryz.ntmps85
 go_wp2_with fail
 refine HA.out.mono ?_
 rintro e w' ⟨rfl, h⟩
 go_wp2
 go_ret
 exact ⟨rfl, h⟩
theorem WBytes_N (N : Nat → Prop) (p c : Nat) (l m : List UInt8) (A : Option Addr) (w : World) (hW : IsWN N w p l 0) (hr : Rd w A m) (hroom : l.length + 4 + m.length ≤ 65536) :
  Calls Tryz.prog 72 #[.pointer (some ⟨p, 0, none⟩), .slice A m.length c] w fun e w' => e = .returned (.pointer (some ⟨p, 0, none⟩)) ∧ IsWN N w' p (l ++ (be m.length 4 ++ m)) 0 ∧ Chg (Nt N) w w' := by
 have hp := Put32 m.length w (by omega)
 have hlen : (be m.length 4).length = 4 := be_length _ _
 obtain ⟨x, hx⟩ : ∃ x, be m.length 4 = x := ⟨_, rfl⟩
 rw [hx] at hp hlen ⊢
 clear hx
 have HA := Lh (fun (w1 : World) (A1 : Option Addr) (c1 : Nat) (hg : Chg Non w w1) (ho : Rd w1 A1 x) => (show Calls Tryz.prog 111 #[.pointer (some ⟨p, 0, none⟩), .slice (some ⟨w1.heap.size, 0, none⟩) 2 2] (w1.alloc (.cells #[.slice A1 x.length c1, .slice A m.length c] 29)) fun e w' => e = .returned (.pointer (some ⟨p, 0, none⟩)) ∧ IsWN N w' p (l ++ (x ++ m)) 0 ∧ Chg (Nt N) w w' from by
   have hW1 : IsWN N (w1.alloc (.cells #[.slice A1 x.length c1, .slice A m.length c] 29)) p l 0 := isWN_chg hW (hg.alloc _)
   have hP1 := parts_new w1 29 [(A1, x, c1), (A, m, c)] (by
     intro q hq
     simp at hq
     rcases hq with rfl | rfl
     · exact ho
     · exact hr.non hg)
   have hcat : cat [(A1, x, c1), (A, m, c)] = x ++ m := by simp [cat]
   refine (add_N N p w1.heap.size 2 2 l [(A1, x, c1), (A, m, c)] _ hW1 hP1 rfl (by omega) (by rw [hcat, List.length_append]; omega) (by rw [hcat, List.length_append]; omega) (by omega)).mono ?_
   rw [hcat]
   rintro e w2 ⟨rfl, hW2, hB2⟩
   exact ⟨rfl, hW2, (hg.alloc _).non_then hB2⟩))
 have HP := Lh hp
 have HL := Lh hlen
 have hm1 : (m.length : Int) < 4294967296 := by omega
 clear hp hW hr hlen hroom
 go_enter Tryz.func72, Tryz.ntmps72
 go_wp2_with fail
 refine HP.out.mono ?_
 rintro e w1 ⟨A1, c1, rfl, hc, hmx, ho, hg⟩
 have HG := Lh hg
 have HO := Lh ho.rd
 clear hg ho
 go_wp2_with fail
 refine (HA.out w1 A1 c1 HG.out HO.out).mono ?_
 rintro e w2 ⟨rfl, h⟩
 go_wp2
 go_ret
 exact ⟨rfl, h⟩
theorem WDone_N (N : Nat → Prop) (p : Nat) (l : List UInt8) (w : World) (hW : IsWN N w p l 0) (hl : l.length ≤ 65536) :
  Calls Tryz.prog 77 #[.pointer (some ⟨p, 0, none⟩)] w fun e w' => ∃ A c, e = .returned (.tuple #[.slice A l.length c, .int .i64 0]) ∧ l.length ≤ c ∧ c ≤ maxLen ∧ Own w.heap.size w' A l ∧ Chg Non w w' := by
 obtain ⟨_, _, v, hb, hown, _⟩ := hW
 have HB := Lh hb
 have c0 : w.cell? ⟨p, 0, none⟩ = some v := by rw [cell_of_row _ _ _ _ _ _ hb]; rfl
 have c2 : w.cell? ⟨p, 2, none⟩ = some (.int .i64 0) := by rw [cell_of_row _ _ _ _ _ _ hb]; rfl
 clear hb
 obtain ⟨A, cv, rfl, hrd⟩ := own_reads hown
 go_enter Tryz.func77, Tryz.ntmps77
 go_wp2_with fail
 refine (wnone_any p _ _ w HB.out).mono ?_
 rintro e w' ⟨rfl, rfl⟩
 go_wp2_with fail
 refine (Cat1 A l cv _ w _ rfl hrd (by omega)).mono ?_
 rintro e w1 ⟨A1, c1, rfl, hc1, hm1, ho1, hg1⟩
 go_wp2
 go_ret2
 exact ⟨A1, c1, rfl, hc1, hm1, ho1, hg1⟩
theorem NewWriter_N (N : Nat → Prop) (w : World) (hN : ∀ k, N k → k < w.heap.size) :
  Calls Tryz.prog 66 #[] w fun e w' => e = .returned (.pointer (some ⟨w.heap.size, 0, none⟩)) ∧ IsWN N w' w.heap.size [] 0 ∧ Chg Non w w' := by
 refine (NewWriter_any w).mono ?_
 rintro e w' ⟨rfl, ⟨_, v, hb, ho⟩, hg⟩
 refine ⟨rfl, ⟨fun k hk => by have := hN k hk; have := hg.size; omega, fun hk => by have := hN _ hk; omega, v, hb, ?_, fun g e hk => ?_⟩, hg⟩
 ·exact ⟨ho.1, ho.2.imp id (fun ⟨g, cap, cur, e, h1, h2⟩ => ⟨g, cap, cur, e, Nat.zero_le _, h2⟩)⟩
 ·have h1 := (ho.lt g e).1
  have h2 := hN g hk
  omega
end
section
open Go.RowKit
theorem keyLits_i64 {P : Program} {e : TypeId} {D : Nat} (he : P.underlying e = some (.int .i64)) (n : Int) (h : -9223372036854775808 ≤ n ∧ n ≤ 9223372036854775807) : P.keyLits (D + 1) e [.int .i64 n] = some [.int .i64 n] := by
 unfold Program.keyLits
 rw [he]
 have hw : (Lit.int .i64 n).wf = true := WalkArith.wf_i64 (by omega)
 simp only [true_and, hw, if_true]
theorem eq_agg {P : Program} {t : TypeId} {xs ys : Array Value} {la lb : List Lit} {p : Prop} [Decidable p] (hp : la = lb ↔ p) (m : Nat) (hm : m ≤ 10000) (hk : P.keyTypeAt m t = true) (hx : (Value.agg xs).formed P t = true) (hy : (Value.agg ys).formed P t = true)
  (ka : P.keyLits m t xs.toList = some la) (kb : P.keyLits m t ys.toList = some lb) (w : World) :
  (binOp .eql t (.agg xs) (.agg ys)).run P w = .ok (.bool (decide p)) w ∧ (binOp .neq t (.agg xs) (.agg ys)).run P w = .ok (.bool (!decide p)) w := by
 have key := run_equalIn_deep (10000 - m) m t hk w m m _ _ _ _ hx hy ka kb
 rw [show 10000 - m + m = 10000 by omega] at key
 obtain ⟨q, hq, hqi⟩ := key
 have e : q = decide p := by
  rw [Bool.eq_iff_iff, hqi, hp]; simp
 subst e
 rw [run_eql_struct, run_neq_struct, hq]
 exact ⟨rfl, rfl⟩
end
section
open Go.RowKit
section
variable {α β : Type} {p : α → β → Bool} {l : List α} {m : List β}
end
theorem sz_of {vs : List Value} {o : Array Value} {n : Nat} (h : vs.length = n) (ho : o.size = n) : o.size = vs.toArray.size := by simp [h, ho]
theorem all_one {vs : List Value} (h : ∀ u ∈ vs, u.oneCell' = true) : vs.toArray.all (·.oneCell') = true := by
 rw [List.all_toArray, List.all_eq_true]
 exact h
end
section
open Go.RowKit
def Puts {α : Type} (R : World → α → List Value → Prop) (V : List Value → Value) (l : List α) (wt : α → List UInt8) (N : Nat → Prop) (p bx : Nat) (K : FuncId) : Prop :=
 ∀ (W : World) (a : α) (vs : List Value) (f : List UInt8), a ∈ l → R W a vs → IsWN N W p f 0 → W.cell? ⟨bx, 0, none⟩ = some (.pointer (some ⟨p, 0, none⟩)) → f.length + (wt a).length ≤ 65536 →
  Calls Tryz.prog K #[V vs, .pointer (some ⟨bx, 0, none⟩)] W fun e W' => e = .returned (.tuple #[]) ∧ IsWN N W' p (f ++ wt a) 0 ∧ Chg (Nt N) W W'
theorem flat_snoc {α : Type} {wt : α → List UInt8} {l : List α} {k : Nat} {a : α} (h : l[k]? = some a) : (l.take (k + 1)).flatMap wt = (l.take k).flatMap wt ++ wt a := by
 obtain ⟨hk, rfl⟩ := List.getElem?_eq_some_iff.1 h
 rw [List.take_succ_eq_append_getElem hk, List.flatMap_append]
 simp
theorem flat_take_le {α : Type} (wt : α → List UInt8) (l : List α) (k : Nat) : ((l.take k).flatMap wt).length ≤ (l.flatMap wt).length := by
 have h : l.flatMap wt = (l.take k).flatMap wt ++ (l.drop k).flatMap wt := by rw [← List.flatMap_append, List.take_append_drop]
 rw [h, List.length_append]; omega
theorem wInt_len8 (n : Int) : (wInt n).length = 8 := be_length _ _
theorem listMsg {α : Type} (R : World → α → List Value → Prop) (I N : Nat → Prop) (hk : ∀ (S : Nat → Prop) (W W' : World) (a : α) (vs : List Value), Chg S W W' → (∀ b, I b → ¬ S b) → R W a vs → R W' a vs)
  (ho : ∀ W a vs, R W a vs → ∀ u ∈ vs, u.oneCell' = true) (wt : α → List UInt8) (p bx : Nat) (A : Option Addr) (l : List α) (c : Nat) (f : List UInt8) (w : World) (hI : ∀ b, I b → N b) (hbN : N bx)
  (hr : RdL R I 1 w A l) (hf : Puts R oneV l wt N p bx 76) (hc : l.length ≤ c) (hcm : c ≤ maxLen) (h1000 : l.length ≤ 1000) (hbx : w.cell? ⟨bx, 0, none⟩ = some (.pointer (some ⟨p, 0, none⟩)))
  (hW : IsWN N w p f 0) (hroom : f.length + 8 + (l.flatMap wt).length ≤ 65536) :
  Calls Tryz.prog 75 #[.pointer (some ⟨p, 0, none⟩), .slice A l.length c, .func (.func 76) #[] #[.pointer (some ⟨bx, 0, none⟩)]] w fun e w' =>
   e = .returned (.tuple #[]) ∧ IsWN N w' p (f ++ (wInt (l.length : Int) ++ l.flatMap wt)) 0 ∧ Chg (Nt N) w w' := by
 unfold maxLen at hcm
 have HW := Lh (WInt_N N p f (l.length : Int) w hW (by omega))
 have HR := Lh hr
 have HF := Lh hf
 have HRM := Lh hroom
 have HBX := Lh hbx
 have HE : Hid (be (u64 (l.length : Int)) 8 = wInt (l.length : Int)) := Lh rfl
 clear hr hf hroom hW hbx
 go_enter Tryz.func75, Tryz.ntmps75
 go_wp2_with fail
 refine HW.out.mono ?_
 rintro e w1 ⟨rfl, hW1, hg1⟩
 rw [HE.out] at hW1
 have HW1 := Lh hW1
 have HG1 := Lh hg1
 clear hW1 hg1
 go_wp2_with fail
 go_loopw [14] (fun iv wr => ∃ k : Nat, k ≤ l.length ∧ iv = .int .i64 k ∧ Hid (IsWN N wr p (f ++ (wInt (l.length : Int) ++ (l.take k).flatMap wt)) 0) ∧ Hid (Chg (Nt N) w wr)) (fun iv _ => l.length - (intOf iv).toNat)
 case atStart => exact ⟨0, Nat.zero_le _, rfl, Lh (by simpa using HW1.out), HG1⟩
 case round =>
  obtain ⟨k, hk2, rfl, HX, HG⟩ := hrel
  have hnN : ∀ b, I b → ¬ Nt N b := fun b hb h => h (hI b hb)
  by_cases hlt : k < l.length
  ·obtain ⟨a, ha⟩ : ∃ a, l[k]? = some a := ⟨_, List.getElem?_eq_getElem hlt⟩
   obtain ⟨b, o, vs, rfl, hIb, hlen, hcell0, hR⟩ := HR.out k a ha
   have hcell := range_keepS hcell0 HG.out (hnN b hIb)
   have hR2 := hk _ _ _ _ _ HG.out hnN hR
   have hbx := HG.out.cell_some HBX.out (fun h => h hbN)
   have hbl := lt_of_cell hbx
   have hroom2 : (f ++ (wInt (l.length : Int) ++ (l.take k).flatMap wt)).length + (wt a).length ≤ 65536 := by
    have h1 := flat_take_le wt l (k + 1)
    rw [flat_snoc ha, List.length_append] at h1
    have h2 := HRM.out
    rw [List.length_append, List.length_append, wInt_len8]
    omega
   have HK := Lh (fun W (hg : Chg Non wr W) => HF.out W a vs _ (List.mem_of_getElem? ha) (hk _ _ _ _ _ hg (fun _ _ e => e) hR2) (isWN_chg HX.out hg) (hg.cell_some hbx (fun e => e)) hroom2)
   have hltd : decide ((k : Int) < (l.length : Int)) = true := by simpa using hlt
   have HS := Lh (flat_snoc (wt := wt) ha)
   have HO1 := Lh (all_one (ho _ _ _ hR))
   have HL := Lh hlen
   clear ha hR hR2 hcell0 hroom2 hbx
   simp only [Nat.mul_one] at hcell
   obtain ⟨v, rfl⟩ : ∃ v, vs = [v] := by
    match vs, hlen with
    | [v], _ => exact ⟨v, rfl⟩
   have k0 : wr.cell? ⟨b, o + k, none⟩ = some v := by have := hcell 0 v rfl; simpa using this
   clear hcell hlen
   go_wp2_with fail
   refine (HK.out _ (Chg.refl _ _)).mono ?_
   rintro e u ⟨rfl, hWu, hgu⟩
   have HWu := Lh (show IsWN N u p (f ++ (wInt (l.length : Int) ++ (l.take (k + 1)).flatMap wt)) 0 by rw [HS.out]; simpa [List.append_assoc] using hWu)
   have HGu := Lh (HG.out.trans_same hgu)
   clear hWu hgu
   go_wp2_with fail
   exact ⟨⟨k + 1, by omega, by simp, HWu, HGu⟩, by simp [intOf]; omega⟩
  ·obtain rfl : k = l.length := by omega
   have hltd : decide ((l.length : Int) < (l.length : Int)) = false := by simp
   have HXe := Lh (show IsWN N wr p (f ++ (wInt (l.length : Int) ++ l.flatMap wt)) 0 by have := HX.out; rwa [List.take_length] at this)
   clear HX
   go_wp2_with fail
   go_end0
   exact ⟨rfl, HXe.out, HG.out⟩
theorem listPart {α : Type} (R : World → α → List Value → Prop) (I N : Nat → Prop) (hk : ∀ (S : Nat → Prop) (W W' : World) (a : α) (vs : List Value), Chg S W W' → (∀ b, I b → ¬ S b) → R W a vs → R W' a vs)
  (ho : ∀ W a vs, R W a vs → ∀ u ∈ vs, u.oneCell' = true) (wt : α → List UInt8) (p bx : Nat) (A : Option Addr) (l : List α) (c : Nat) (f : List UInt8) (w : World) (hI : ∀ b, I b → N b) (hbN : N bx)
  (hr : RdL R I 14 w A l) (hf : Puts R aggV l wt N p bx 69) (hc : l.length ≤ c) (hcm : c ≤ maxLen) (h1000 : l.length ≤ 1000) (hbx : w.cell? ⟨bx, 0, none⟩ = some (.pointer (some ⟨p, 0, none⟩)))
  (hW : IsWN N w p f 0) (hroom : f.length + 8 + (l.flatMap wt).length ≤ 65536) :
  Calls Tryz.prog 68 #[.pointer (some ⟨p, 0, none⟩), .slice A l.length c, .func (.func 69) #[] #[.pointer (some ⟨bx, 0, none⟩)]] w fun e w' =>
   e = .returned (.tuple #[]) ∧ IsWN N w' p (f ++ (wInt (l.length : Int) ++ l.flatMap wt)) 0 ∧ Chg (Nt N) w w' := by
 unfold maxLen at hcm
 have HW := Lh (WInt_N N p f (l.length : Int) w hW (by omega))
 have HR := Lh hr
 have HF := Lh hf
 have HRM := Lh hroom
 have HBX := Lh hbx
 have HE : Hid (be (u64 (l.length : Int)) 8 = wInt (l.length : Int)) := Lh rfl
 clear hr hf hroom hW hbx
 go_enter Tryz.func68, Tryz.ntmps68
 go_wp2_with fail
 refine HW.out.mono ?_
 rintro e w1 ⟨rfl, hW1, hg1⟩
 rw [HE.out] at hW1
 have HW1 := Lh hW1
 have HG1 := Lh hg1
 clear hW1 hg1
 go_wp2_with fail
 go_loopw [14] (fun iv wr => ∃ k : Nat, k ≤ l.length ∧ iv = .int .i64 k ∧ Hid (IsWN N wr p (f ++ (wInt (l.length : Int) ++ (l.take k).flatMap wt)) 0) ∧ Hid (Chg (Nt N) w wr)) (fun iv _ => l.length - (intOf iv).toNat)
 case atStart => exact ⟨0, Nat.zero_le _, rfl, Lh (by simpa using HW1.out), HG1⟩
 case round =>
  obtain ⟨k, hk2, rfl, HX, HG⟩ := hrel
  have hnN : ∀ b, I b → ¬ Nt N b := fun b hb h => h (hI b hb)
  by_cases hlt : k < l.length
  ·obtain ⟨a, ha⟩ : ∃ a, l[k]? = some a := ⟨_, List.getElem?_eq_getElem hlt⟩
   obtain ⟨b, o, vs, rfl, hIb, hlen, hcell0, hR⟩ := HR.out k a ha
   have hcell := range_keepS hcell0 HG.out (hnN b hIb)
   have hR2 := hk _ _ _ _ _ HG.out hnN hR
   have hbx := HG.out.cell_some HBX.out (fun h => h hbN)
   have hbl := lt_of_cell hbx
   have hroom2 : (f ++ (wInt (l.length : Int) ++ (l.take k).flatMap wt)).length + (wt a).length ≤ 65536 := by
    have h1 := flat_take_le wt l (k + 1)
    rw [flat_snoc ha, List.length_append] at h1
    have h2 := HRM.out
    rw [List.length_append, List.length_append, wInt_len8]
    omega
   have HK := Lh (fun W (hg : Chg Non wr W) => HF.out W a vs _ (List.mem_of_getElem? ha) (hk _ _ _ _ _ hg (fun _ _ e => e) hR2) (isWN_chg HX.out hg) (hg.cell_some hbx (fun e => e)) hroom2)
   have hltd : decide ((k : Int) < (l.length : Int)) = true := by simpa using hlt
   have HS := Lh (flat_snoc (wt := wt) ha)
   have HO1 := Lh (all_one (ho _ _ _ hR))
   have HL := Lh hlen
   clear ha hR hR2 hcell0 hroom2 hbx
   have HC := Lh hcell
   clear hcell hlen
   go_wp2_with (first
     | (refine sel (some 17) (.load 104 (.tmp 16)) ?_; refine wpList_load_mid rfl 104 (.tmp 16) rfl b (o + k * 14) rfl vs _ HC.out Tryz.underlying104 rfl (by rw [HL.out]; kernel_rfl) ?_)
     | (refine sel none (.store 104 (.tmp 7) (.tmp 17)) ?_
        refine wpList_store_rowA rfl 104 (.tmp 7) (.tmp 17) rfl wr.heap.size vs.toArray rfl rfl 104 _ (blk_new _ _) (by rw [List.size_toArray, HL.out]; kernel_rfl) (sz_of HL.out rfl) HO1.out ?_
        intro W1 hgW1 hbW1)
     | (refine sel (some 19) (.load 104 (.tmp 7)) ?_; refine wpList_load_row rfl 104 (.tmp 7) rfl wr.heap.size rfl 104 vs.toArray (0, 0) _ hbW1 Tryz.underlying104 rfl (by rw [List.size_toArray, HL.out]; kernel_rfl) ?_))
   have hgw : Chg Non wr W1 := ((Chg.refl Non wr).alloc _).then_new hgW1 (fun x e => by omega)
   refine (HK.out W1 hgw).mono ?_
   rintro e u ⟨rfl, hWu, hgu⟩
   have HWu := Lh (show IsWN N u p (f ++ (wInt (l.length : Int) ++ (l.take (k + 1)).flatMap wt)) 0 by rw [HS.out]; simpa [List.append_assoc] using hWu)
   have HGu := Lh (HG.out.trans_same (hgw.non_then hgu))
   clear hWu hgu hgw hgW1 hbW1
   go_wp2_with fail
   exact ⟨⟨k + 1, by omega, by simp, HWu, HGu⟩, by simp [intOf]; omega⟩
  ·obtain rfl : k = l.length := by omega
   have hltd : decide ((l.length : Int) < (l.length : Int)) = false := by simp
   have HXe := Lh (show IsWN N wr p (f ++ (wInt (l.length : Int) ++ l.flatMap wt)) 0 by have := HX.out; rwa [List.take_length] at this)
   clear HX
   go_wp2_with fail
   go_end0
   exact ⟨rfl, HXe.out, HG.out⟩
theorem listQueue {α : Type} (R : World → α → List Value → Prop) (I N : Nat → Prop) (hk : ∀ (S : Nat → Prop) (W W' : World) (a : α) (vs : List Value), Chg S W W' → (∀ b, I b → ¬ S b) → R W a vs → R W' a vs)
  (ho : ∀ W a vs, R W a vs → ∀ u ∈ vs, u.oneCell' = true) (wt : α → List UInt8) (p bx : Nat) (A : Option Addr) (l : List α) (c : Nat) (f : List UInt8) (w : World) (hI : ∀ b, I b → N b) (hbN : N bx)
  (hr : RdL R I 6 w A l) (hf : Puts R aggV l wt N p bx 74) (hc : l.length ≤ c) (hcm : c ≤ maxLen) (h1000 : l.length ≤ 1000) (hbx : w.cell? ⟨bx, 0, none⟩ = some (.pointer (some ⟨p, 0, none⟩)))
  (hW : IsWN N w p f 0) (hroom : f.length + 8 + (l.flatMap wt).length ≤ 65536) :
  Calls Tryz.prog 73 #[.pointer (some ⟨p, 0, none⟩), .slice A l.length c, .func (.func 74) #[] #[.pointer (some ⟨bx, 0, none⟩)]] w fun e w' =>
   e = .returned (.tuple #[]) ∧ IsWN N w' p (f ++ (wInt (l.length : Int) ++ l.flatMap wt)) 0 ∧ Chg (Nt N) w w' := by
 unfold maxLen at hcm
 have HW := Lh (WInt_N N p f (l.length : Int) w hW (by omega))
 have HR := Lh hr
 have HF := Lh hf
 have HRM := Lh hroom
 have HBX := Lh hbx
 have HE : Hid (be (u64 (l.length : Int)) 8 = wInt (l.length : Int)) := Lh rfl
 clear hr hf hroom hW hbx
 go_enter Tryz.func73, Tryz.ntmps73
 go_wp2_with fail
 refine HW.out.mono ?_
 rintro e w1 ⟨rfl, hW1, hg1⟩
 rw [HE.out] at hW1
 have HW1 := Lh hW1
 have HG1 := Lh hg1
 clear hW1 hg1
 go_wp2_with fail
 go_loopw [14] (fun iv wr => ∃ k : Nat, k ≤ l.length ∧ iv = .int .i64 k ∧ Hid (IsWN N wr p (f ++ (wInt (l.length : Int) ++ (l.take k).flatMap wt)) 0) ∧ Hid (Chg (Nt N) w wr)) (fun iv _ => l.length - (intOf iv).toNat)
 case atStart => exact ⟨0, Nat.zero_le _, rfl, Lh (by simpa using HW1.out), HG1⟩
 case round =>
  obtain ⟨k, hk2, rfl, HX, HG⟩ := hrel
  have hnN : ∀ b, I b → ¬ Nt N b := fun b hb h => h (hI b hb)
  by_cases hlt : k < l.length
  ·obtain ⟨a, ha⟩ : ∃ a, l[k]? = some a := ⟨_, List.getElem?_eq_getElem hlt⟩
   obtain ⟨b, o, vs, rfl, hIb, hlen, hcell0, hR⟩ := HR.out k a ha
   have hcell := range_keepS hcell0 HG.out (hnN b hIb)
   have hR2 := hk _ _ _ _ _ HG.out hnN hR
   have hbx := HG.out.cell_some HBX.out (fun h => h hbN)
   have hbl := lt_of_cell hbx
   have hroom2 : (f ++ (wInt (l.length : Int) ++ (l.take k).flatMap wt)).length + (wt a).length ≤ 65536 := by
    have h1 := flat_take_le wt l (k + 1)
    rw [flat_snoc ha, List.length_append] at h1
    have h2 := HRM.out
    rw [List.length_append, List.length_append, wInt_len8]
    omega
   have HK := Lh (fun W (hg : Chg Non wr W) => HF.out W a vs _ (List.mem_of_getElem? ha) (hk _ _ _ _ _ hg (fun _ _ e => e) hR2) (isWN_chg HX.out hg) (hg.cell_some hbx (fun e => e)) hroom2)
   have hltd : decide ((k : Int) < (l.length : Int)) = true := by simpa using hlt
   have HS := Lh (flat_snoc (wt := wt) ha)
   have HO1 := Lh (all_one (ho _ _ _ hR))
   have HL := Lh hlen
   clear ha hR hR2 hcell0 hroom2 hbx
   have HC := Lh hcell
   clear hcell hlen
   go_wp2_with (first
     | (refine sel (some 17) (.load 110 (.tmp 16)) ?_; refine wpList_load_mid rfl 110 (.tmp 16) rfl b (o + k * 6) rfl vs _ HC.out Tryz.underlying110 rfl (by rw [HL.out]; kernel_rfl) ?_)
     | (refine sel none (.store 110 (.tmp 7) (.tmp 17)) ?_
        refine wpList_store_rowA rfl 110 (.tmp 7) (.tmp 17) rfl wr.heap.size vs.toArray rfl rfl 110 _ (blk_new _ _) (by rw [List.size_toArray, HL.out]; kernel_rfl) (sz_of HL.out rfl) HO1.out ?_
        intro W1 hgW1 hbW1)
     | (refine sel (some 19) (.load 110 (.tmp 7)) ?_; refine wpList_load_row rfl 110 (.tmp 7) rfl wr.heap.size rfl 110 vs.toArray (0, 0) _ hbW1 Tryz.underlying110 rfl (by rw [List.size_toArray, HL.out]; kernel_rfl) ?_))
   have hgw : Chg Non wr W1 := ((Chg.refl Non wr).alloc _).then_new hgW1 (fun x e => by omega)
   refine (HK.out W1 hgw).mono ?_
   rintro e u ⟨rfl, hWu, hgu⟩
   have HWu := Lh (show IsWN N u p (f ++ (wInt (l.length : Int) ++ (l.take (k + 1)).flatMap wt)) 0 by rw [HS.out]; simpa [List.append_assoc] using hWu)
   have HGu := Lh (HG.out.trans_same (hgw.non_then hgu))
   clear hWu hgu hgw hgW1 hbW1
   go_wp2_with fail
   exact ⟨⟨k + 1, by omega, by simp, HWu, HGu⟩, by simp [intOf]; omega⟩
  ·obtain rfl : k = l.length := by omega
   have hltd : decide ((l.length : Int) < (l.length : Int)) = false := by simp
   have HXe := Lh (show IsWN N wr p (f ++ (wInt (l.length : Int) ++ l.flatMap wt)) 0 by have := HX.out; rwa [List.take_length] at this)
   clear HX
   go_wp2_with fail
   go_end0
   exact ⟨rfl, HXe.out, HG.out⟩
end
section
open Go.RowKit
deriving instance DecidableEq for Ch
def Ch.C (x : Ch) : Array Value := #[.int .i64 x.id, .int .i64 x.src, .int .i64 x.dst, .int .i64 x.cap, .int .i64 x.size]
def chLits (x : Ch) : List Lit := [.int .i64 x.id, .int .i64 x.src, .int .i64 x.dst, .int .i64 x.cap, .int .i64 x.size]
theorem chLits_inj {p q : Ch} : chLits p = chLits q ↔ p = q := by
 obtain ⟨a, b, c, d, e⟩ := p
 obtain ⟨a', b', c', d', e'⟩ := q
 simp [chLits]
theorem keyLits_ch (x : Ch) (h : x.Bd) : Tryz.prog.keyLits 3 107 x.C.toList = some (chLits x) := by
 obtain ⟨a, b, c, d, e⟩ := x
 obtain ⟨h1, h2, h3, h4, h5⟩ := h
 simp only at h1 h2 h3 h4 h5
 unfold Program.keyLits
 rw [Tryz.underlying107]
 have c1 : Tryz.prog.cellsOf 3 = 1 := by kernel_rfl
 have c5 : Tryz.prog.cellsOf 107 = 5 := by kernel_rfl
 have k1 := keyLits_i64 (D := 1) Tryz.underlying3 a h1
 have k2 := keyLits_i64 (D := 1) Tryz.underlying3 b h2
 have k3 := keyLits_i64 (D := 1) Tryz.underlying3 c h3
 have k4 := keyLits_i64 (D := 1) Tryz.underlying3 d h4
 have k5 := keyLits_i64 (D := 1) Tryz.underlying3 e h5
 simp [Ch.C, c1, c5, k1, k2, k3, k4, k5, chLits]
theorem ch_formed (x : Ch) : (Value.agg x.C).formed Tryz.prog 107 = true := by
 have c4 : Tryz.prog.cellsOf 107 = 5 := by kernel_rfl
 unfold Value.formed
 rw [Tryz.underlying107]
 simp [c4, Ch.C]
theorem ptV_one {I : Nat → Prop} : ∀ W a vs, ptV I W a vs → ∀ u ∈ vs, u.oneCell' = true := by
 rintro W a vs ⟨m, rfl, ⟨A, c, rfl, _⟩, _⟩ u hu
 have := partC_one a (.slice A a.mem.length c) rfl
 rw [partC, List.all_toArray, List.all_eq_true] at this
 exact this u hu
theorem quV_one {I : Nat → Prop} : ∀ W a vs, quV I W a vs → ∀ u ∈ vs, u.oneCell' = true := by
 rintro W a vs ⟨m, rfl, ⟨A, c, rfl, _⟩, _⟩ u hu
 simp only [Qu.L, List.mem_cons, List.not_mem_nil, or_false] at hu
 rcases hu with rfl | rfl | rfl | rfl | rfl | rfl <;> rfl
theorem msgV_one {I : Nat → Prop} : ∀ W a vs, msgV I W a vs → ∀ u ∈ vs, u.oneCell' = true := by
 rintro W a vs ⟨m, rfl, ⟨A, c, rfl, _⟩, _⟩ u hu
 simp only [List.mem_cons, List.not_mem_nil, or_false] at hu
 subst hu
 rfl
end
section
open Go.RowKit
theorem IsWN.less {N M : Nat → Prop} {p : Nat} {l : List UInt8} {er : Int} {w : World} (h : IsWN M w p l er) (hN : ∀ k, N k → M k) : IsWN N w p l er := by
 obtain ⟨h1, h2, v, h3, h4, h5⟩ := h
 exact ⟨fun k hk => h1 k (hN k hk), fun hk => h2 (hN _ hk), v, h3, h4, fun g e hk => h5 g e (hN _ hk)⟩
theorem Nt.less {N M : Nat → Prop} {w w' : World} (h : Chg (Nt M) w w') (hN : ∀ k, N k → M k) : Chg (Nt N) w w' := h.mono (fun k hk hn => hk (hN k hn))
theorem putsMsg (I N : Nat → Prop) (l : List (List UInt8)) (p bx : Nat) : Puts (msgV I) oneV l wBy N p bx 76 := by
 rintro W a vs f ha ⟨m, rfl, ⟨A, c, rfl, hc, hm, hrd, _⟩, hl⟩ hW hbx hroom
 have HB := Lh (WBytes_N N p c f a A W hW hrd (by rw [wBy_len] at hroom; omega))
 clear hW hrd hroom
 show Calls Tryz.prog 76 #[.slice A a.length c, .pointer (some ⟨bx, 0, none⟩)] W _
 go_enter Tryz.func76, Tryz.ntmps76
 go_wp2_with fail
 refine HB.out.mono ?_
 rintro e u ⟨rfl, h⟩
 go_wp2_with fail
 go_end0
 exact ⟨rfl, h⟩
def Nb (N : Nat → Prop) (b : Nat) : Nat → Prop := fun k => N k ∨ k = b
theorem IsWN.box {N : Nat → Prop} {p : Nat} {l : List UInt8} {w : World} (h : IsWN N w p l 0) (o : Obj) : IsWN (Nb N w.heap.size) (w.alloc o) p l 0 :=
 h.more ((Chg.refl Non w).alloc o) (fun k hk => hk.imp id (fun e => by subst e; simp))
theorem idx8 {RL : List Value} (h : RL.length = 8) {k : Nat} {v : Value} (hv : RL[k]? = some v) (W : World) : (Instr.index 102 (.agg RL.toArray) (.int .i64 (k : Int))).run Tryz.prog W = .ok v W := by
 have x0 : ∀ (v0 v1 v2 v3 v4 v5 v6 v7 : Value) (W : World), (Instr.index 102 (.agg #[v0, v1, v2, v3, v4, v5, v6, v7]) (.int .i64 0)).run Tryz.prog W = .ok v0 W := fun _ _ _ _ _ _ _ _ _ => by kernel_rfl
 have x1 : ∀ (v0 v1 v2 v3 v4 v5 v6 v7 : Value) (W : World), (Instr.index 102 (.agg #[v0, v1, v2, v3, v4, v5, v6, v7]) (.int .i64 1)).run Tryz.prog W = .ok v1 W := fun _ _ _ _ _ _ _ _ _ => by kernel_rfl
 have x2 : ∀ (v0 v1 v2 v3 v4 v5 v6 v7 : Value) (W : World), (Instr.index 102 (.agg #[v0, v1, v2, v3, v4, v5, v6, v7]) (.int .i64 2)).run Tryz.prog W = .ok v2 W := fun _ _ _ _ _ _ _ _ _ => by kernel_rfl
 have x3 : ∀ (v0 v1 v2 v3 v4 v5 v6 v7 : Value) (W : World), (Instr.index 102 (.agg #[v0, v1, v2, v3, v4, v5, v6, v7]) (.int .i64 3)).run Tryz.prog W = .ok v3 W := fun _ _ _ _ _ _ _ _ _ => by kernel_rfl
 have x4 : ∀ (v0 v1 v2 v3 v4 v5 v6 v7 : Value) (W : World), (Instr.index 102 (.agg #[v0, v1, v2, v3, v4, v5, v6, v7]) (.int .i64 4)).run Tryz.prog W = .ok v4 W := fun _ _ _ _ _ _ _ _ _ => by kernel_rfl
 have x5 : ∀ (v0 v1 v2 v3 v4 v5 v6 v7 : Value) (W : World), (Instr.index 102 (.agg #[v0, v1, v2, v3, v4, v5, v6, v7]) (.int .i64 5)).run Tryz.prog W = .ok v5 W := fun _ _ _ _ _ _ _ _ _ => by kernel_rfl
 have x6 : ∀ (v0 v1 v2 v3 v4 v5 v6 v7 : Value) (W : World), (Instr.index 102 (.agg #[v0, v1, v2, v3, v4, v5, v6, v7]) (.int .i64 6)).run Tryz.prog W = .ok v6 W := fun _ _ _ _ _ _ _ _ _ => by kernel_rfl
 have x7 : ∀ (v0 v1 v2 v3 v4 v5 v6 v7 : Value) (W : World), (Instr.index 102 (.agg #[v0, v1, v2, v3, v4, v5, v6, v7]) (.int .i64 7)).run Tryz.prog W = .ok v7 W := fun _ _ _ _ _ _ _ _ _ => by kernel_rfl
 match RL, h with
 | [v0, v1, v2, v3, v4, v5, v6, v7], _ =>
  have hk : k < 8 := (List.getElem?_eq_some_iff.1 hv).1
  have hc : k = 0 ∨ k = 1 ∨ k = 2 ∨ k = 3 ∨ k = 4 ∨ k = 5 ∨ k = 6 ∨ k = 7 := by omega
  rcases hc with rfl | rfl | rfl | rfl | rfl | rfl | rfl | rfl
  ·simp only [List.getElem?_cons_zero, List.getElem?_cons_succ, Option.some.injEq] at hv; subst hv; exact x0 v0 v1 v2 v3 v4 v5 v6 v7 W
  ·simp only [List.getElem?_cons_zero, List.getElem?_cons_succ, Option.some.injEq] at hv; subst hv; exact x1 v0 v1 v2 v3 v4 v5 v6 v7 W
  ·simp only [List.getElem?_cons_zero, List.getElem?_cons_succ, Option.some.injEq] at hv; subst hv; exact x2 v0 v1 v2 v3 v4 v5 v6 v7 W
  ·simp only [List.getElem?_cons_zero, List.getElem?_cons_succ, Option.some.injEq] at hv; subst hv; exact x3 v0 v1 v2 v3 v4 v5 v6 v7 W
  ·simp only [List.getElem?_cons_zero, List.getElem?_cons_succ, Option.some.injEq] at hv; subst hv; exact x4 v0 v1 v2 v3 v4 v5 v6 v7 W
  ·simp only [List.getElem?_cons_zero, List.getElem?_cons_succ, Option.some.injEq] at hv; subst hv; exact x5 v0 v1 v2 v3 v4 v5 v6 v7 W
  ·simp only [List.getElem?_cons_zero, List.getElem?_cons_succ, Option.some.injEq] at hv; subst hv; exact x6 v0 v1 v2 v3 v4 v5 v6 v7 W
  ·simp only [List.getElem?_cons_zero, List.getElem?_cons_succ, Option.some.injEq] at hv; subst hv; exact x7 v0 v1 v2 v3 v4 v5 v6 v7 W
theorem putsPart (I N : Nat → Prop) (hI : ∀ b, I b → N b) (l : List Pt) (p bx : Nat) (hbN : N bx) : Puts (ptV I) aggV l wPt N p bx 69 := by
 rintro W a vs f ha ⟨m, rfl, ⟨A, c, rfl, hc, hm, hrd, hIA⟩, hbd, hl⟩ hW hbx hroom
 have hroom2 : f.length + 94 + a.mem.length ≤ 65536 := by rw [wPt_len hbd.r8] at hroom; omega
 have HBd := Lh hbd
 have HFm : Hid (∀ g : List UInt8, g = f ++ (be (u64 a.id) 8) ++ (be (u64 a.size) 8) ++ [flagB a.keep] → g ++ (a.r.flatMap fun n : Nat => be (u64 (n : Int)) 8) ++ (be (u64 (a.pc : Int)) 8) ++ [UInt8.ofNat a.st] ++ (be a.mem.length 4 ++ a.mem) = f ++ wPt a) := Lh (fun g h => by
   rw [h]; unfold wPt wWords wBy; simp only [wInt, List.append_assoc, List.cons_append, List.nil_append])
 show Calls Tryz.prog 69 #[.agg (partC a (.slice A a.mem.length c)), .pointer (some ⟨bx, 0, none⟩)] W _
 obtain ⟨C, hC⟩ : ∃ C, partC a (.slice A a.mem.length c) = C := ⟨_, rfl⟩
 have hsz : C.size = 14 := by rw [← hC]; exact partC_size hbd.r8 _
 have HC := Lh hC
 have hX0 := Lh (hW.box (.cells C 104))
 have hP0 : Hid (PartB (W.alloc (.cells C 104)) W.heap.size a (.slice A a.mem.length c)) := Lh ⟨by unfold PartAt; rw [hC]; exact blk_new _ _, hbd.r8⟩
 have HRd : Hid (∀ W', Chg (Nt (Nb N W.heap.size)) (W.alloc (.cells C 104)) W' → Rd W' A a.mem) := Lh (fun W' hg =>
   (hrd.non ((Chg.refl Non W).alloc (.cells C 104))).keep hg (fun b o e hne h => h (.inl (hI _ (hIA b o e hne)))))
 have q0 := ((Chg.refl Non W).alloc (.cells C 104)).cell_some hbx (fun e => e)
 have hgN : Hid (Chg (Nt N) W (W.alloc (.cells C 104))) := Lh ((Chg.refl _ W).alloc _)
 rw [hC]
 clear hC hW hrd hbx hIA hroom
 go_enter Tryz.func69, Tryz.ntmps69
 go_wp2_with fail
 obtain ⟨W0, hW0⟩ : ∃ W0, W.alloc (.cells C 104) = W0 := ⟨_, rfl⟩
 obtain ⟨b2, hb2⟩ : ∃ b2, W.heap.size = b2 := ⟨_, rfl⟩
 rw [hW0] at hX0 hP0 HRd q0 hgN ⊢
 rw [hb2] at hX0 hP0 HRd ⊢
 clear hW0 hb2
 have HS : Hid (Chg (Nt (Nb N b2)) W0 W0.drew) := Lh ((Chg.refl _ _).drew)
 have HX : Hid (IsWN (Nb N b2) W0.drew p f 0) := Lh (isWN_chg hX0.out ((Chg.refl Non _).drew))
 obtain ⟨p0, p1, p2, p11, p12, p13⟩ := hP0.out.cells
 refine wp_region_held_drew (S := Chg (Nt (Nb N b2)) W0) (by kernel_rfl) HS.out (fun hHeld => ?_)
 clear hHeld
 refine hp 0 5 (.pointer (some ⟨p, 0, none⟩)) rfl HS.out ?_ (he := (fun W hW => by have hc := hW.cell_some q0 (fun h => h (.inl hbN)); go_simp))
 refine hp 1 6 (.pointer (some ⟨b2, 0, none⟩)) rfl HS.out ?_
 refine hp 2 7 (.int .i64 a.id) rfl HS.out ?_ (he := (fun W hW => by have hc := hW.cell_some p0 (fun h => h (.inr rfl)); go_simp))
 refine hp 4 9 (.pointer (some ⟨b2, 1, none⟩)) rfl HS.out ?_
 refine hp 5 10 (.int .i64 a.size) rfl HS.out ?_ (he := (fun W hW => by have hc := hW.cell_some p1 (fun h => h (.inr rfl)); go_simp))
 refine hp 7 12 (.pointer (some ⟨b2, 2, none⟩)) rfl HS.out ?_
 refine hp 8 13 (.bool a.keep) rfl HS.out ?_ (he := (fun W hW => by have hc := hW.cell_some p2 (fun h => h (.inr rfl)); go_simp))
 refine h1o 3 rfl ?_
 intro K hK
 go_simp
 refine (WInt_N (Nb N b2) p f a.id _ HX.out (by omega)).mono ?_
 rintro e u1 ⟨rfl, hwu1, hgu1⟩
 have HX := Lh hwu1
 have HS := Lh (HS.out.trans_same hgu1)
 refine hK.out _ _ HS.out (fun _ => ?_)
 clear hK K hwu1 hgu1
 try simp only [Act.put, sA, sB, sC]
 refine h1o 6 rfl ?_
 intro K hK
 go_simp
 refine (WInt_N (Nb N b2) p _ a.size _ HX.out (by rw [List.length_append, be_length]; omega)).mono ?_
 rintro e u2 ⟨rfl, hwu2, hgu2⟩
 have HX := Lh hwu2
 have HS := Lh (HS.out.trans_same hgu2)
 refine hK.out _ _ HS.out (fun _ => ?_)
 clear hK K hwu2 hgu2
 try simp only [Act.put, sA, sB, sC]
 refine h1o 9 rfl ?_
 intro K hK
 go_simp
 refine (WFlag_N (Nb N b2) p _ a.keep _ HX.out (by simp only [List.length_append, be_length]; omega)).mono ?_
 rintro e u3 ⟨rfl, hwu3, hgu3⟩
 have HX := Lh hwu3
 have HS := Lh (HS.out.trans_same hgu3)
 refine hK.out _ _ HS.out (fun _ => ?_)
 clear hK K hwu3 hgu3
 try simp only [Act.put, sA, sB, sC]
 refine hdn ?_ _
 obtain ⟨g, hg⟩ : ∃ g, f ++ (be (u64 a.id) 8) ++ (be (u64 a.size) 8) ++ [flagB a.keep] = g := ⟨_, rfl⟩
 have hgl : g.length = f.length + 17 := by rw [← hg]; simp only [List.length_append, be_length, List.length_cons, List.length_nil]
 replace HFm := Lh (HFm.out g hg.symm)
 rw [hg] at HX
 clear hg
 have hrr : Hid (u3.rangeAt b2 3 (a.r.map fun n : Nat => Value.int .u32 n)) := Lh (fun j v hv => by
   rw [List.getElem?_map] at hv
   obtain ⟨n, hn, rfl⟩ := Option.map_eq_some_iff.1 hv
   have hj := (List.getElem?_eq_some_iff.1 hn).1
   have h := hP0.out.reg j (by rw [HBd.out.r8] at hj; exact hj)
   rw [Pt.g, List.getD, hn] at h
   exact HS.out.cell_some h (fun h => h (.inr rfl)))
 have hrl : Hid ((a.r.map fun n : Nat => Value.int .u32 n).length = 8) := Lh (by rw [List.length_map, HBd.out.r8])
 obtain ⟨RL, hRL⟩ : ∃ RL, (a.r.map fun n : Nat => Value.int .u32 n) = RL := ⟨_, rfl⟩
 rw [hRL] at hrr hrl
 have HRL := Lh hRL
 clear hRL
 go_wp2_with (refine sel (some 16) (.load _ (.tmp 15)) ?_; refine wpList_load_mid rfl 102 (.tmp 15) rfl b2 3 rfl RL _ hrr.out Tryz.underlying102 rfl (by rw [hrl.out]; kernel_rfl) ?_)
 go_loopw [17] (fun iv wr => ∃ k : Nat, k ≤ 8 ∧ iv = .int .i64 k ∧ Hid (IsWN (Nb N b2) wr p (g ++ (a.r.take k).flatMap fun n : Nat => be (u64 (n : Int)) 8) 0) ∧ Hid (Chg (Nt (Nb N b2)) W0 wr)) (fun iv _ => 8 - (intOf iv).toNat)
 case atStart => exact ⟨0, Nat.zero_le _, rfl, Lh (by simpa using HX.out), HS⟩
 case round =>
  obtain ⟨k, hk, rfl, HX, HS⟩ := hrel
  by_cases hlt : k < 8
  ·obtain ⟨rk, hrk⟩ : ∃ r, a.r[k]? = some r := ⟨_, List.getElem?_eq_getElem (by rw [HBd.out.r8]; exact hlt)⟩
   have hltd : decide ((k : Int) < 8) = true := by rw [decide_eq_true_eq]; omega
   have hrb : (rk : Int) < 4294967296 := by
    have h := HBd.out.rb k
    rw [List.getD, hrk] at h
    simp only [Option.getD_some] at h
    omega
   have hidx := idx8 hrl.out (k := k) (v := .int .u32 (rk : Nat)) (by rw [← HRL.out, List.getElem?_map, hrk]; rfl)
   have q1 : wr.cell? ⟨bx, 0, none⟩ = some (.pointer (some ⟨p, 0, none⟩)) := HS.out.cell_some q0 (fun h => h (.inl hbN))
   have HI := Lh (WInt_N (Nb N b2) p _ (rk : Int) wr HX.out (by
     have h1 := flat_take_le (fun n : Nat => be (u64 (n : Int)) 8) a.r k
     have h2 : (a.r.flatMap fun n : Nat => be (u64 (n : Int)) 8).length = 64 := wWords_len HBd.out.r8
     rw [List.length_append]
     omega))
   have HSn := Lh (flat_snoc (wt := fun n : Nat => be (u64 (n : Int)) 8) hrk)
   clear hrk
   go_wp2_with fail
   refine HI.out.mono ?_
   rintro e u ⟨rfl, hw, hg⟩
   have HX2 : Hid (IsWN (Nb N b2) u p (g ++ (a.r.take (k + 1)).flatMap fun n : Nat => be (u64 (n : Int)) 8) 0) := Lh (by rw [HSn.out, ← List.append_assoc]; exact hw)
   have HS2 := Lh (HS.out.trans_same hg)
   clear hw hg
   go_wp2_with fail
   exact ⟨⟨k + 1, by omega, by simp, HX2, HS2⟩, by simp [intOf]; omega⟩
  ·obtain rfl : k = 8 := by omega
   have hltd : decide (((8 : Nat) : Int) < 8) = false := by decide
   have HXe : Hid (IsWN (Nb N b2) wr p (g ++ a.r.flatMap fun n : Nat => be (u64 (n : Int)) 8) 0) := Lh (by
     have h := HX.out
     rwa [List.take_of_length_le (by rw [HBd.out.r8]; exact Nat.le_refl _)] at h)
   have hgl2 : (g ++ a.r.flatMap fun n : Nat => be (u64 (n : Int)) 8).length = f.length + 81 := by
    have h2 : (a.r.flatMap fun n : Nat => be (u64 (n : Int)) 8).length = 64 := wWords_len HBd.out.r8
    rw [List.length_append]; omega
   obtain ⟨g2, hg2⟩ : ∃ g2, (g ++ a.r.flatMap fun n : Nat => be (u64 (n : Int)) 8) = g2 := ⟨_, rfl⟩
   rw [hg2] at HXe hgl2 HFm
   clear hg2 HX
   have HBy : Hid (∀ (W : World) (x : List UInt8), IsWN (Nb N b2) W p x 0 → x.length + 1 ≤ 65536 → Calls Tryz.prog 71 #[.pointer (some ⟨p, 0, none⟩), .int .u8 (a.st : Nat)] W fun e w' => e = .returned (.pointer (some ⟨p, 0, none⟩)) ∧ IsWN (Nb N b2) w' p (x ++ [UInt8.ofNat a.st]) 0 ∧ Chg (Nt (Nb N b2)) W w') := Lh (fun W x h1 h2 => by
     have h := WByte_N (Nb N b2) p x (UInt8.ofNat a.st) W h1 h2
     have e8 : (UInt8.ofNat a.st).toNat = a.st := by rw [ofNat_toNat]; have := HBd.out.stb; omega
     rwa [e8] at h)
   have hpc : (a.pc : Int) < 4294967296 := by have := HBd.out.pcb; omega
   go_wp2_with fail
   have HX : Hid (IsWN (Nb N b2) wr.drew p g2 0) := Lh (isWN_chg HXe.out ((Chg.refl Non _).drew))
   replace HS := Lh (HS.out.trans_same ((Chg.refl _ wr).drew))
   refine wp_region_held_drew (S := Chg (Nt (Nb N b2)) W0) (by kernel_rfl) HS.out (fun hHeld => ?_)
   clear hHeld
   refine hp 0 25 (.pointer (some ⟨p, 0, none⟩)) rfl HS.out ?_ (he := (fun W hW => by have hc := hW.cell_some q0 (fun h => h (.inl hbN)); go_simp))
   refine hp 1 26 (.pointer (some ⟨b2, 11, none⟩)) rfl HS.out ?_
   refine hp 2 27 (.int .u32 (a.pc : Nat)) rfl HS.out ?_ (he := (fun W hW => by have hc := hW.cell_some p11 (fun h => h (.inr rfl)); go_simp))
   refine hp 3 28 (.int .i64 (a.pc : Nat)) rfl HS.out ?_ (he := (fun W hW => by have hw := Go.IntWalk.i64_in (a.pc : Int) (by omega); go_simp))
   refine hp 5 30 (.pointer (some ⟨b2, 12, none⟩)) rfl HS.out ?_
   refine hp 6 31 (.int .u8 (a.st : Nat)) rfl HS.out ?_ (he := (fun W hW => by have hc := hW.cell_some p12 (fun h => h (.inr rfl)); go_simp))
   refine hp 8 33 (.pointer (some ⟨b2, 13, none⟩)) rfl HS.out ?_
   refine hp 9 34 (.slice A a.mem.length c) rfl HS.out ?_ (he := (fun W hW => by have hc := hW.cell_some p13 (fun h => h (.inr rfl)); go_simp))
   refine h1o 4 rfl ?_
   intro K hK
   go_simp
   refine (WInt_N (Nb N b2) p _ (a.pc : Int) _ HX.out (by omega)).mono ?_
   rintro e u1 ⟨rfl, hwu1, hgu1⟩
   have HX := Lh hwu1
   have HS := Lh (HS.out.trans_same hgu1)
   refine hK.out _ _ HS.out (fun _ => ?_)
   clear hK K hwu1 hgu1
   try simp only [Act.put, sA, sB, sC]
   refine h1o 7 rfl ?_
   intro K hK
   go_simp
   refine (HBy.out _ _ HX.out (by rw [List.length_append, be_length]; omega)).mono ?_
   rintro e u2 ⟨rfl, hwu2, hgu2⟩
   have HX := Lh hwu2
   have HS := Lh (HS.out.trans_same hgu2)
   refine hK.out _ _ HS.out (fun _ => ?_)
   clear hK K hwu2 hgu2
   try simp only [Act.put, sA, sB, sC]
   refine h1o 10 rfl ?_
   intro K hK
   go_simp
   refine (WBytes_N (Nb N b2) p c _ a.mem A _ HX.out (HRd.out _ HS.out) (by simp only [List.length_append, be_length, List.length_cons, List.length_nil]; omega)).mono ?_
   rintro e u3 ⟨rfl, hwu3, hgu3⟩
   have HX := Lh hwu3
   have HS := Lh (HS.out.trans_same hgu3)
   refine hK.out _ _ HS.out (fun _ => ?_)
   clear hK K hwu3 hgu3
   try simp only [Act.put, sA, sB, sC]
   refine hdn ?_ _
   have HXn := Lh (HX.out.less (N := N) (fun k h => .inl h))
   rw [HFm.out] at HXn
   have HSn := Lh (hgN.out.trans_same (Nt.less (N := N) HS.out (fun k h => .inl h)))
   go_wp2_with fail
   go_end0
   exact ⟨rfl, HXn.out, HSn.out⟩
theorem putsQueue (I N : Nat → Prop) (hI : ∀ b, I b → N b) (l : List Qu) (p bx : Nat) (hbN : N bx) (hl4 : ∀ q ∈ l, q.msgs.length ≤ 1000) : Puts (quV I) aggV l wQu N p bx 74 := by
 rintro W a vs f ha ⟨m, rfl, hm, hbd, hl⟩ hW hbx hroom
 have hml := hl4 a ha
 have hroom2 : f.length + 40 + (wMs a.msgs).length ≤ 65536 := by
  have e : (wQu a).length = 40 + (wMs a.msgs).length := by unfold wQu; simp only [List.length_append, wInt_len8]; omega
  rw [e] at hroom; omega
 have HFm : Hid (f ++ be (u64 a.ch.id) 8 ++ be (u64 a.ch.src) 8 ++ be (u64 a.ch.dst) 8 ++ be (u64 a.ch.cap) 8 ++ be (u64 a.ch.size) 8 ++ wMs a.msgs = f ++ wQu a) := Lh (by
   unfold wQu; simp only [wInt, List.append_assoc])
 obtain ⟨A, c, rfl, hc, hcm, hr⟩ := hm
 have HR := Lh hr
 have HW := Lh hW
 clear hW hr hroom ha hl4
 show Calls Tryz.prog 74 #[.agg (a.L (.slice A a.msgs.length c)).toArray, .pointer (some ⟨bx, 0, none⟩)] W _
 simp only [Qu.L]
 go_enter Tryz.func74, Tryz.ntmps74
 go_wp2_with fail
 obtain ⟨OQ, hOQ⟩ : ∃ o, Obj.cells #[.int .i64 a.ch.id, .int .i64 a.ch.src, .int .i64 a.ch.dst, .int .i64 a.ch.cap, .int .i64 a.ch.size, .slice A a.msgs.length c] 110 = o := ⟨_, rfl⟩
 obtain ⟨OC, hOC⟩ : ∃ o, Obj.cells #[.int .i64 a.ch.id, .int .i64 a.ch.src, .int .i64 a.ch.dst, .int .i64 a.ch.cap, .int .i64 a.ch.size] 107 = o := ⟨_, rfl⟩
 rw [hOQ, hOC]
 have hs1 : (W.alloc OQ).heap.size = W.heap.size + 1 := by simp
 have hX0 := (HW.out.box OQ).box OC
 rw [hs1] at hX0
 have hg2 : Chg Non W ((W.alloc OQ).alloc OC) := ((Chg.refl Non W).alloc OQ).alloc OC
 have hbq := al_2_0 W OQ OC
 have hbc := al_2_1 W OQ OC
 obtain ⟨W0, hW0⟩ : ∃ W0, (W.alloc OQ).alloc OC = W0 := ⟨_, rfl⟩
 obtain ⟨b2, hb2⟩ : ∃ b2, W.heap.size = b2 := ⟨_, rfl⟩
 obtain ⟨b3, hb3⟩ : ∃ b3, b2 + 1 = b3 := ⟨_, rfl⟩
 rw [hW0] at hX0 hg2 hbq hbc ⊢
 rw [hb2] at hX0 hbq hbc ⊢
 rw [hb3] at hX0 hbc ⊢
 subst hOQ hOC
 have q0 := hg2.cell_some hbx (fun e => e)
 have m5 := blk_cell hbq 5 (v := .slice A a.msgs.length c) rfl
 have c0 := blk_cell hbc 0 (v := .int .i64 a.ch.id) rfl
 have c1 := blk_cell hbc 1 (v := .int .i64 a.ch.src) rfl
 have c2 := blk_cell hbc 2 (v := .int .i64 a.ch.dst) rfl
 have c3 := blk_cell hbc 3 (v := .int .i64 a.ch.cap) rfl
 have c4 := blk_cell hbc 4 (v := .int .i64 a.ch.size) rfl
 have HG0 := Lh hg2
 have HNN : Hid (∀ k, N k → Nb (Nb N b2) b3 k) := Lh (fun k h => .inl (.inl h))
 clear hW0 hb2 hb3 hbq hbc hs1 HW hbx hg2
 have HS : Hid (Chg (Nt (Nb (Nb N b2) b3)) W0 W0.drew) := Lh ((Chg.refl _ _).drew)
 have HX : Hid (IsWN (Nb (Nb N b2) b3) W0.drew p f 0) := Lh (isWN_chg hX0 ((Chg.refl Non _).drew))
 clear hX0
 refine wp_region_held_drew (S := Chg (Nt (Nb (Nb N b2) b3)) W0) (by kernel_rfl) HS.out (fun hHeld => ?_)
 clear hHeld
 refine hp 0 6 (.pointer (some ⟨p, 0, none⟩)) rfl HS.out ?_ (he := (fun W hW => by have hc := hW.cell_some q0 (fun h => h (HNN.out _ hbN)); go_simp))
 refine hp 1 7 (.pointer (some ⟨b3, 0, none⟩)) rfl HS.out ?_
 refine hp 2 8 (.int .i64 a.ch.id) rfl HS.out ?_ (he := (fun W hW => by have hc := hW.cell_some c0 (fun h => h (.inr rfl)); go_simp))
 refine hp 4 10 (.pointer (some ⟨b3, 1, none⟩)) rfl HS.out ?_
 refine hp 5 11 (.int .i64 a.ch.src) rfl HS.out ?_ (he := (fun W hW => by have hc := hW.cell_some c1 (fun h => h (.inr rfl)); go_simp))
 refine hp 7 13 (.pointer (some ⟨b3, 2, none⟩)) rfl HS.out ?_
 refine hp 8 14 (.int .i64 a.ch.dst) rfl HS.out ?_ (he := (fun W hW => by have hc := hW.cell_some c2 (fun h => h (.inr rfl)); go_simp))
 refine hp 10 16 (.pointer (some ⟨b3, 3, none⟩)) rfl HS.out ?_
 refine hp 11 17 (.int .i64 a.ch.cap) rfl HS.out ?_ (he := (fun W hW => by have hc := hW.cell_some c3 (fun h => h (.inr rfl)); go_simp))
 refine hp 13 19 (.pointer (some ⟨b3, 4, none⟩)) rfl HS.out ?_
 refine hp 14 20 (.int .i64 a.ch.size) rfl HS.out ?_ (he := (fun W hW => by have hc := hW.cell_some c4 (fun h => h (.inr rfl)); go_simp))
 refine h1o 3 rfl ?_
 intro K hK
 go_simp
 refine (WInt_N (Nb (Nb N b2) b3) p _ a.ch.id _ HX.out (by first | omega | (simp only [List.length_append, be_length]; omega))).mono ?_
 rintro e u1 ⟨rfl, hwu1, hgu1⟩
 have HX := Lh hwu1
 have HS := Lh (HS.out.trans_same hgu1)
 refine hK.out _ _ HS.out (fun _ => ?_)
 clear hK K hwu1 hgu1
 try simp only [Act.put, sA, sB, sC]
 refine h1o 6 rfl ?_
 intro K hK
 go_simp
 refine (WInt_N (Nb (Nb N b2) b3) p _ a.ch.src _ HX.out (by first | omega | (simp only [List.length_append, be_length]; omega))).mono ?_
 rintro e u2 ⟨rfl, hwu2, hgu2⟩
 have HX := Lh hwu2
 have HS := Lh (HS.out.trans_same hgu2)
 refine hK.out _ _ HS.out (fun _ => ?_)
 clear hK K hwu2 hgu2
 try simp only [Act.put, sA, sB, sC]
 refine h1o 9 rfl ?_
 intro K hK
 go_simp
 refine (WInt_N (Nb (Nb N b2) b3) p _ a.ch.dst _ HX.out (by first | omega | (simp only [List.length_append, be_length]; omega))).mono ?_
 rintro e u3 ⟨rfl, hwu3, hgu3⟩
 have HX := Lh hwu3
 have HS := Lh (HS.out.trans_same hgu3)
 refine hK.out _ _ HS.out (fun _ => ?_)
 clear hK K hwu3 hgu3
 try simp only [Act.put, sA, sB, sC]
 refine h1o 12 rfl ?_
 intro K hK
 go_simp
 refine (WInt_N (Nb (Nb N b2) b3) p _ a.ch.cap _ HX.out (by first | omega | (simp only [List.length_append, be_length]; omega))).mono ?_
 rintro e u4 ⟨rfl, hwu4, hgu4⟩
 have HX := Lh hwu4
 have HS := Lh (HS.out.trans_same hgu4)
 refine hK.out _ _ HS.out (fun _ => ?_)
 clear hK K hwu4 hgu4
 try simp only [Act.put, sA, sB, sC]
 refine h1o 15 rfl ?_
 intro K hK
 go_simp
 refine (WInt_N (Nb (Nb N b2) b3) p _ a.ch.size _ HX.out (by first | omega | (simp only [List.length_append, be_length]; omega))).mono ?_
 rintro e u5 ⟨rfl, hwu5, hgu5⟩
 have HX := Lh hwu5
 have HS := Lh (HS.out.trans_same hgu5)
 refine hK.out _ _ HS.out (fun _ => ?_)
 clear hK K hwu5 hgu5
 try simp only [Act.put, sA, sB, sC]
 refine hdn ?_ _
 obtain ⟨g, hg⟩ : ∃ g, f ++ be (u64 a.ch.id) 8 ++ be (u64 a.ch.src) 8 ++ be (u64 a.ch.dst) 8 ++ be (u64 a.ch.cap) 8 ++ be (u64 a.ch.size) 8 = g := ⟨_, rfl⟩
 have hgl : g.length = f.length + 40 := by rw [← hg]; simp only [List.length_append, be_length]
 rw [hg] at HX HFm
 clear hg
 have q1 := HS.out.cell_some q0 (fun h => h (HNN.out _ hbN))
 have m6 := HS.out.cell_some m5 (fun h => h (.inl (.inr rfl)))
 have hkI : ∀ b, I b → ¬ Nt (Nb (Nb N b2) b3) b := fun b hb h => h (HNN.out _ (hI b hb))
 have HL := Lh (listMsg (msgV I) I (Nb (Nb N b2) b3) (fun S W W' a vs hg hn h => msgV.keep h hg hn) msgV_one wBy p bx A a.msgs c g u5 (fun b hb => HNN.out _ (hI b hb)) (HNN.out _ hbN)
   ((HR.out.keep HG0.out (fun _ _ e => e) (fun a vs _ h => msgV.keep h HG0.out (fun _ _ e => e))).keep HS.out hkI (fun a vs _ h => msgV.keep h HS.out hkI)) (putsMsg I _ _ p bx) hc hcm hml q1 HX.out (by
     have e : (wMs a.msgs).length = 8 + (a.msgs.flatMap wBy).length := by unfold wMs; rw [List.length_append, wInt_len8]
     omega))
 have hEq : Hid (g ++ (wInt (a.msgs.length : Int) ++ a.msgs.flatMap wBy) = f ++ wQu a) := Lh (by rw [← HFm.out]; rfl)
 clear HFm
 go_wp2_with fail
 refine HL.out.mono ?_
 rintro e u ⟨rfl, hw, hg⟩
 rw [hEq.out] at hw
 have HXn := Lh (hw.less (N := N) HNN.out)
 have HSn := Lh (HG0.out.non_then (Nt.less (N := N) (HS.out.trans_same hg) HNN.out))
 clear hw hg
 go_wp2_with fail
 go_end0
 exact ⟨rfl, HXn.out, HSn.out⟩
end
end Go.Proofs.YtkgnlobabknkcaaGreat
