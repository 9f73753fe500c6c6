/- Walks of package wire, writers: none, NewWriter, add, Int, Done. -/
import Derived.Test.YthhbdejagglgbaaGreatBytes
import Derived.Test.YthhbdejagglgbaaGreatWords
import Derived.Deep.RegionHeld3
import Derived.Deep.AppendLies
import Derived.OneCell
namespace Go.Proofs.YthhbdejagglgbaaGreat
open Go.RowKit
set_option linter.unusedVariables false

/-- block p is a writer, from block B on, that holds the form l, and its error -/
def IsW (B : Nat) (w : World) (p : Nat) (l : List UInt8) (er : Int) : Prop :=
  B ≤ p ∧ ∃ v, w.heap[p]? = some (.cells #[v, .bool true, .int .i64 er] 125 (0, 0)) ∧ w.ownsRow B 5 1 v l.length (l.map bv)

set_option maxRecDepth 100000 in
set_option maxHeartbeats 2000000 in
theorem wnone_any (p : Nat) (v : Value) (er : Int) (w : World) (hb : w.heap[p]? = some (.cells #[v, .bool true, .int .i64 er] 125 (0, 0))) :
    Calls Tryz.prog 97 #[.pointer (some ⟨p, 0, none⟩)] w fun e w' => e = .returned (.bool false) ∧ w = w' := by
  have h1 : w.cell? ⟨p, 1, none⟩ = some (.bool true) := by rw [cell_of_row _ _ _ _ _ _ hb]; rfl
  clear hb
  go_enter Tryz.func97, Tryz.ntmps97
  go_wp2
  go_ret
  exact ⟨rfl, rfl⟩

set_option maxRecDepth 100000 in
set_option maxHeartbeats 2000000 in
theorem NewWriter_any (w : World) :
    Calls Tryz.prog 56 #[] w fun e w' => e = .returned (.pointer (some ⟨w.heap.size, 0, none⟩)) ∧ IsW w.heap.size w' w.heap.size [] 0 ∧ Chg Non w w' := by
  go_enter Tryz.func56, Tryz.ntmps56
  go_wp2
  go_ret
  exact ⟨rfl, ⟨Nat.le_refl _, _, heap_alloc_new _ _, World.ownsRow_nil _ _ _ _⟩, (Chg.refl _ _).alloc _⟩

theorem own_chg {w w' : World} {B : Nat} {e : TypeId} {size : Nat} {v : Value} {n : Nat} {xs : List Value} (h : w.ownsRow B e size v n xs) (hg : Chg Non w w') : w'.ownsRow B e size v n xs :=
  h.kept (row := none) ⟨hg.os, hg.tape, hg.output, hg.size, fun k hk _ => hg.block k hk (fun e => e)⟩ (by cases v.ownBlock <;> simp)
theorem own_ne {w : World} {B : Nat} {e t : TypeId} {size : Nat} {v : Value} {n g : Nat} {xs : List Value} {cs : Array Value} {fr : Nat × Nat} (h : w.ownsRow B e size v n xs) (hg : w.heap[g]? = some (.cells cs t fr)) (hne : e ≠ t) : v.ownBlock ≠ some g := by
  rcases h.2 with ⟨rfl, _⟩ | ⟨g', cap, cur, rfl, _, hh, _⟩
  · simp [Value.ownBlock]
  · intro he
    have : g' = g := by simpa [Value.ownBlock] using he
    subst this
    rw [hg] at hh
    injection hh with hh
    injection hh with _ ht
    exact hne ht.symm
theorem isW_chg {B p : Nat} {l : List UInt8} {er : Int} {w w' : World} (h : IsW B w p l er) (hg : Chg Non w w') : IsW B w' p l er := by
  obtain ⟨hB, v, hb, ho⟩ := h
  exact ⟨hB, v, (hg.block p (Array.getElem?_eq_some_iff.1 hb).1 (fun e => e)).trans hb, own_chg ho hg⟩
theorem own_reads {B : Nat} {w : World} {v : Value} {l : List UInt8} (h : w.ownsRow B 5 1 v l.length (l.map bv)) : ∃ A c, v = .slice A l.length c ∧ Rd w A l := by
  rcases h.2 with ⟨rfl, h0⟩ | ⟨g, cap, cur, rfl, _⟩
  · have : l = [] := List.eq_nil_of_length_eq_zero h0
    subst this
    exact ⟨none, 0, rfl, Rd.nil _ _⟩
  · refine ⟨_, cap, rfl, fun i x hx => ⟨g, 0, rfl, ?_⟩⟩
    have := h.cells (g := g) rfl i (bv x) (by rw [List.getElem?_map, hx]; rfl)
    rw [add_plain] at this
    exact this
theorem news_of {w : World} {b o : Nat} {m : List UInt8} (h : ∀ i (hi : i < m.length), w.cell? ⟨b, o + i, none⟩ = some (.int .u8 (m[i].toNat : Int))) :
    ∀ j u, (m.map bv)[j]? = some u → w.cell? ((⟨b, o, none⟩ : Addr).add j) = some u := by
  intro j u hu
  rw [List.getElem?_map] at hu
  obtain ⟨x, hx, rfl⟩ := Option.map_eq_some_iff.1 hu
  obtain ⟨hj, rfl⟩ := List.getElem?_eq_some_iff.1 hx
  rw [add_plain]
  exact h j hj
theorem bv_one (m : List UInt8) : ∀ u ∈ m.map bv, u.oneCell' = true := by
  intro u hu
  obtain ⟨x, _, rfl⟩ := List.mem_map.1 hu
  rfl

theorem cat_take_len (ps : List (Option Addr × List UInt8 × Nat)) (k : Nat) (h : k < ps.length) : (cat (ps.take (k + 1))).length = (cat (ps.take k)).length + (ps[k]'h).2.1.length := by
  unfold cat
  rw [List.take_succ_eq_append_getElem h, List.map_append, List.flatten_append, List.length_append]
  simp only [List.map_cons, List.map_nil, List.flatten_cons, List.flatten_nil, List.append_nil]
theorem cat_take_le (ps : List (Option Addr × List UInt8 × Nat)) (k : Nat) : (cat (ps.take k)).length ≤ (cat ps).length := by
  have h : cat ps = cat (ps.take k) ++ cat (ps.drop k) := by
    unfold cat
    rw [← List.flatten_append, ← List.map_append, List.take_append_drop]
  rw [h, List.length_append]
  omega

theorem isW_after {B p gg cap : Nat} {l m : List UInt8} {v : Value} {w w1 w2 : World} (hBp : B ≤ p) (hb : w.heap[p]? = some (.cells #[v, .bool true, .int .i64 0] 125 (0, 0))) (hg1 : Chg Non w w1) (hown : w.ownsRow B 5 1 v l.length (l.map bv))
    (hown2 : w2.ownsRow B 5 1 (.slice (some ⟨gg, 0, none⟩) (l.length + m.length) cap) (l.length + m.length) (l.map bv ++ m.map bv)) (hgrow : w1.grownBy w2 v.ownBlock)
    (hat : v.ownBlock = some gg ∨ gg = w1.heap.size) (hnp : v.ownBlock ≠ some p) :
    IsW B (w2.setCell ⟨p, 0, none⟩ (.slice (some ⟨gg, 0, none⟩) (l.length + m.length) cap)) p (l ++ m) 0 ∧ Below B w (w2.setCell ⟨p, 0, none⟩ (.slice (some ⟨gg, 0, none⟩) (l.length + m.length) cap)) := by
  have hlp : p < w.heap.size := (Array.getElem?_eq_some_iff.1 hb).1
  have hb2 : w2.heap[p]? = some (.cells #[v, .bool true, .int .i64 0] 125 (0, 0)) :=
    (hgrow.block p (Nat.lt_of_lt_of_le hlp hg1.size) (fun e => hnp e.symm)).trans ((hg1.block p hlp (fun e => e)).trans hb)
  have hgp : gg ≠ p := by
    rintro rfl
    rcases hat with h | h
    · exact hnp h
    · have := hg1.size; omega
  have hBg : B ≤ gg := by
    rcases hown2.2 with ⟨h, _⟩ | ⟨g', _, _, h, hg, _⟩
    · injection h with h; cases h
    · injection h with h; injection h with h; cases h; exact hg
  refine ⟨⟨hBp, .slice (some ⟨gg, 0, none⟩) (l.length + m.length) cap, ?_, ?_⟩, ?_⟩
  · rw [heap_setCell_same _ _ _ _ _ _ hb2]; rfl
  · have h2 := ownsRow_setCell_other hown2 (a := ⟨p, 0, none⟩) (by simp [Value.ownBlock, hgp]) (.slice (some ⟨gg, 0, none⟩) (l.length + m.length) cap)
    simpa using h2
  · have b1 : Below B w w1 := hg1.below (fun _ e => e.elim) (by omega)
    have b2 : Below B w w2 := b1.grown hgrow (by have := hg1.size; omega) (fun k hk => (hown.lt k hk).1)
    exact b2.setCell hBp _

set_option maxRecDepth 100000 in
set_option maxHeartbeats 2000000 in
theorem add_room (B p b n c : Nat) (l : List UInt8) (ps : List (Option Addr × List UInt8 × Nat)) (w : World) (hW : IsW B w p l 0) (hP : Parts w b 0 ps) (hn : ps.length = n) (hcap : n ≤ c)
    (h0 : 0 < (cat ps).length) (hroom : l.length + (cat ps).length ≤ 65536) (hn1 : n ≤ 1000) :
    Calls Tryz.prog 95 #[.pointer (some ⟨p, 0, none⟩), .slice (some ⟨b, 0, none⟩) n c] w fun e w' => e = .returned (.pointer (some ⟨p, 0, none⟩)) ∧ IsW B w' p (l ++ cat ps) 0 ∧ Below B w w' := by
  subst hn
  obtain ⟨hBp, v, hb, hown⟩ := hW
  have HB := Lib.hid hb
  have c0 : w.cell? ⟨p, 0, none⟩ = some v := by rw [cell_of_row _ _ _ _ _ _ hb]; rfl
  have c2 : w.cell? ⟨p, 2, none⟩ = some (.int .i64 0) := by rw [cell_of_row _ _ _ _ _ _ hb]; rfl
  clear hb
  obtain ⟨A, cv, rfl⟩ : ∃ A cv, v = .slice A l.length cv := by
    rcases hown.2 with ⟨rfl, h⟩ | ⟨g, cap, cur, rfl, _⟩
    · exact ⟨none, 0, by rw [h]⟩
    · exact ⟨_, _, rfl⟩
  go_enter Tryz.func95, Tryz.ntmps95
  go_wp2_with fail
  refine (wnone_any p _ _ w HB.out).mono ?_
  rintro e w' ⟨rfl, rfl⟩
  go_wp2_with fail
  go_loop [5, 26] (fun r i => ∃ k : Nat, k ≤ ps.length ∧ i = .int .i64 k ∧ r = .int .i64 (65536 - (l.length : Int) - ((cat (ps.take k)).length : Nat))) (fun _ i => ps.length - (intOf i).toNat)
  case atStart => exact ⟨0, by omega, rfl, by simp [cat]⟩
  case round =>
    obtain ⟨k, hk, rfl, rfl⟩ := hrel
    by_cases hlt : k < ps.length
    · have hpk := (hP k _ (List.getElem?_eq_getElem hlt)).1
      rw [Nat.zero_add] at hpk
      have hs := cat_take_len ps k hlt
      have hle := cat_take_le ps (k + 1)
      obtain ⟨⟨A1, l1, c1⟩, hq⟩ : ∃ q, ps[k]'hlt = q := ⟨_, rfl⟩
      rw [hq] at hpk hs
      clear hq
      simp only at hpk hs
      obtain ⟨n1, hn1'⟩ : ∃ n, l1.length = n := ⟨_, rfl⟩
      rw [hn1'] at hpk hs
      clear hn1'
      obtain ⟨t, ht⟩ : ∃ t, (cat (ps.take k)).length = t := ⟨_, rfl⟩
      rw [ht] at hs ⊢
      clear ht
      have hb1 : t + n1 ≤ 65536 := by omega
      have hb2 : l.length + t + n1 ≤ 65536 := by omega
      have HS := Lib.hid hs
      clear hs hle
      have hmin : min (n1 : Int) 65537 = n1 := by omega
      go_wp2
      go_round
      case rel => exact ⟨k + 1, by omega, by go_num, by rw [HS.out]; exact intEq (by omega)⟩
      case measure => simp [intOf]; omega
    · obtain rfl : k = ps.length := by omega
      rw [List.take_length]
      have hdr : decide (65536 - (l.length : Int) - ((cat ps).length : Nat) < 0) = false := by simp; omega
      obtain ⟨i0, hi0, hz0, hz1, hz2⟩ := info_parts info_u8
      have hlp : p < w.heap.size := lt_of_cell c0
      have hnp : (Value.slice A l.length cv).ownBlock ≠ some p := own_ne hown HB.out (by decide)
      have HNP := Lib.hid hnp
      have HOwn := Lib.hid hown
      clear hown hnp
      obtain ⟨m, hm⟩ : ∃ m, cat ps = m := ⟨_, rfl⟩
      rw [hm] at h0 hroom hdr
      have HM := Lib.hid hm
      have hcat := fun W h => Cat_any b 0 ps.length c ps W rfl h hcap (by rw [hm]; omega) (by omega)
      rw [hm] at hcat ⊢
      clear hm
      have HCat := Lib.hid hcat
      clear hcat
      have HPt := Lib.hid hP
      clear hP
      have hB0 : B ≤ w.heap.size := by omega
      have c0' : w.drew.cell? ⟨p, 0, none⟩ = some (.slice A l.length cv) := c0
      go_wp2_with fail
      have f0 : w.frozen? ⟨p, 0, none⟩ = false := frozen_of_row _ _ _ _ _ HB.out
      have f0' : w.drew.frozen? ⟨p, 0, none⟩ = false := f0
      go_region_law (first
          | (refine step_append_lies _ (by rfl) _ _ _ (by rfl) B 5 i0 _ 1 1 Tryz.underlying29 hi0 hz0 hz1 hz2 rfl (by omega) (.slice A l.length cv) l.length (l.map bv) (by rfl) (own_chg HOwn.out hg1')
              ⟨b1, o1, none⟩ m.length c1 (m.map bv) (by rfl) (by simp) HN1.out (bv_one m) h0 (by unfold maxLen; omega) (by omega) (by have := hg1'.size; omega) w1.heap.size rfl ?_
             intro gg cap w2 hown2 hgrow hat hlt2
             have c2' : w2.cell? ⟨p, 0, none⟩ = some (.slice A l.length cv) := (World.cell?_of_block (a := ⟨p, 0, none⟩) (hgrow.block p (Nat.lt_of_lt_of_le hlp hg1'.size) (fun e => HNP.out e.symm))).trans c1'
             have f2' : w2.frozen? ⟨p, 0, none⟩ = false := (World.frozen?_of_block (a := ⟨p, 0, none⟩) (hgrow.block p (Nat.lt_of_lt_of_le hlp hg1'.size) (fun e => HNP.out e.symm))).trans f1')
          | (go_simp
             go_at_call 82
             refine (HCat.out _ (by exact HPt.out)).mono ?_
             rintro e w1 ⟨A1, c1, rfl, hc1, hm1, ho1, hg1⟩
             obtain ⟨b1, o1, rfl, hb1, hcell1⟩ := ho1.rd.at_ h0
             have HN1 := Lib.hid (news_of hcell1)
             have hg1' : Chg Non w w1 := ((Chg.refl Non w).drew).then_non hg1
             have c1' : w1.cell? ⟨p, 0, none⟩ = some (.slice A l.length cv) := hg1'.cell_some c0 (fun e => e)
             have f1' : w1.frozen? ⟨p, 0, none⟩ = false := (hg1'.frozen (p := ⟨p, 0, none⟩) hlp (fun e => e)).trans f0
             clear hcell1))
      all_goals
        go_wp2
        go_ret
        rw [HM.out]
        exact ⟨rfl, isW_after hBp HB.out hg1' HOwn.out hown2 hgrow hat HNP.out⟩

/-- a number as its 8 bytes -/
def u64 (n : Int) : Nat := (n % 18446744073709551616).toNat
theorem u64_lt (n : Int) : u64 n < 18446744073709551616 := by unfold u64; omega
theorem u64_cast (n : Int) : ((u64 n : Nat) : Int) = IntKind.u64.wrap n := by
  have : IntKind.u64.wrap n = n % 18446744073709551616 := by simp [IntKind.wrap, IntKind.bits, IntKind.signed]
  rw [this]; unfold u64; omega

set_option maxRecDepth 100000 in
set_option maxHeartbeats 2000000 in
theorem WInt_room (B p : Nat) (l : List UInt8) (n : Int) (w : World) (hW : IsW B w p l 0) (hroom : l.length + 8 ≤ 65536) :
    Calls Tryz.prog 57 #[.pointer (some ⟨p, 0, none⟩), .int .i64 n] w fun e w' => e = .returned (.pointer (some ⟨p, 0, none⟩)) ∧ IsW B w' p (l ++ be (u64 n) 8) 0 ∧ Below B w w' := by
  have hp := Put64 (u64 n) w (u64_lt n)
  rw [u64_cast] at hp
  have hlen : (be (u64 n) 8).length = 8 := be_length _ _
  have HL := Lib.hid hlen
  clear hlen
  obtain ⟨m, hm⟩ : ∃ m, be (u64 n) 8 = m := ⟨_, rfl⟩
  rw [hm] at hp HL ⊢
  clear hm
  have HP := Lib.hid hp
  clear hp
  have hpB := hW.1
  obtain ⟨v0, hb0, _⟩ := hW.2
  have hBs : B ≤ w.heap.size := by have := (Array.getElem?_eq_some_iff.1 hb0).1; omega
  clear hb0
  go_enter Tryz.func57, Tryz.ntmps57
  go_wp2_with fail
  refine HP.out.mono ?_
  rintro e w1 ⟨A, c, rfl, hc, hm, ho, hg⟩
  go_wp2_with fail
  have hW1 : IsW B (w1.alloc (.cells #[.slice A m.length c] 29)) p l 0 := isW_chg hW (hg.alloc _)
  have hP1 := parts_new w1 29 [(A, m, c)] (by simpa using ho.rd)
  have hcat : cat [(A, m, c)] = m := by simp [cat]
  refine (add_room B p w1.heap.size 1 1 l [(A, m, c)] _ hW1 hP1 rfl (by omega) (by rw [hcat, HL.out]; omega) (by rw [hcat, HL.out]; omega) (by omega)).mono ?_
  rw [hcat]
  rintro e w2 ⟨rfl, hW2, hB2⟩
  go_wp2
  go_ret
  exact ⟨rfl, hW2, ((hg.alloc _).below (fun _ e => e.elim) hBs).trans hB2⟩

set_option maxRecDepth 100000 in
set_option maxHeartbeats 2000000 in
theorem WDone_ok (B p : Nat) (l : List UInt8) (w : World) (hW : IsW B w p l 0) (hl : l.length ≤ 65536) :
    Calls Tryz.prog 61 #[.pointer (some ⟨p, 0, none⟩)] w fun e w' => ∃ A c, e = .returned (.tuple #[.slice A l.length c, .int .i64 0]) ∧ l.length ≤ c ∧ c ≤ maxLen ∧ Own B w' A l ∧ Chg Non w w' := by
  obtain ⟨hBp, v, hb, hown⟩ := hW
  have HB := Lib.hid hb
  have c0 : w.cell? ⟨p, 0, none⟩ = some v := by rw [cell_of_row _ _ _ _ _ _ hb]; rfl
  have c2 : w.cell? ⟨p, 2, none⟩ = some (.int .i64 0) := by rw [cell_of_row _ _ _ _ _ _ hb]; rfl
  have hBs : B ≤ w.heap.size := by have := (Array.getElem?_eq_some_iff.1 hb).1; omega
  clear hb
  obtain ⟨A, cv, rfl, hrd⟩ := own_reads hown
  go_enter Tryz.func61, Tryz.ntmps61
  go_wp2_with fail
  refine (wnone_any p _ _ w HB.out).mono ?_
  rintro e w' ⟨rfl, rfl⟩
  go_wp2_with fail
  refine (Cat1 A l cv _ w _ rfl hrd (by omega)).mono ?_
  rintro e w1 ⟨A1, c1, rfl, hc1, hm1, ho1, hg1⟩
  go_wp2
  go_ret2
  exact ⟨A1, c1, rfl, hc1, hm1, ho1.mono hBs, hg1⟩
end Go.Proofs.YthhbdejagglgbaaGreat
