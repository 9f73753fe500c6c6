/- bytes.Clone, bytes.Join, words.Cat, Put, strings.Compare and words.Same in my own words. -/
import Derived.Test.YthhbdejagglgbaaGreatShelf
import Derived.Test.YthhbdejagglgbaaGreatTypes
namespace Go.Proofs.YthhbdejagglgbaaGreat
open Go.RowKit
set_option linter.unusedVariables false

theorem rd_holds {w : World} {A : Option Addr} {l : List UInt8} {c : Nat} (h : Rd w A l) : Lib.HoldsBytes w (.slice A l.length c) l := by
  refine ⟨A, c, rfl, ?_, ?_⟩
  · rintro rfl
    cases l with
    | nil => rfl
    | cons x r =>
      obtain ⟨b, o, e, _⟩ := h 0 x rfl
      cases e
  · rintro a rfl i x hx
    obtain ⟨b, o, e, hc⟩ := h i x hx
    injection e with e
    subst e
    rw [show (⟨b, o, none⟩ : Addr).add i = ⟨b, o + i, none⟩ from by unfold Addr.add; split <;> simp_all]
    exact hc

theorem fresh_own {B : Nat} {w : World} {v : Value} {l : List UInt8} (h : Lib.FreshBytes B w v l) : ∃ A c, v = .slice A l.length c ∧ l.length ≤ c ∧ c ≤ maxLen ∧ Own B w A l := by
  obtain ⟨g, cap, zs, rfl, hB, hl, hm, hz, hr, hb, hc, hf⟩ := h
  refine ⟨_, _, rfl, hl, hm, ?_⟩
  intro i x hx
  have hi : i < l.length := (List.getElem?_eq_some_iff.1 hx).1
  refine ⟨g, 0, rfl, hB, ?_, by rw [Nat.zero_add]; exact hf i (by omega)⟩
  rw [Nat.zero_add, hc i (by omega)]
  have hz' : i < zs.length := by omega
  have h1 : zs.getD i 0 = zs[i] := by simp [List.getD, List.getElem?_eq_getElem hz']
  rw [h1]
  have h2 : (Lib.bytesOf (zs.take l.length))[i]? = some x := by rw [hb]; exact hx
  rw [Lib.bytesOf, List.getElem?_map, List.getElem?_take_of_lt hi, List.getElem?_eq_getElem hz'] at h2
  simp only [Option.map_some, Option.some.injEq] at h2
  have h3 := hr zs[i] (List.getElem_mem hz')
  rw [← h2, UInt8.toNat_ofNat']
  congr 2
  omega

/-- the cells from o on of block b hold the slices ps -/
def Parts (w : World) (b o : Nat) (ps : List (Option Addr × List UInt8 × Nat)) : Prop :=
  ∀ (i : Nat) p, ps[i]? = some p → w.cell? ⟨b, o + i, none⟩ = some (.slice p.1 p.2.1.length p.2.2) ∧ Rd w p.1 p.2.1

def cat (ps : List (Option Addr × List UInt8 × Nat)) : List UInt8 := (ps.map (·.2.1)).flatten

theorem add_plain (b o i : Nat) : (⟨b, o, none⟩ : Addr).add i = ⟨b, o + i, none⟩ := by unfold Addr.add; split <;> simp_all

theorem intercalate_nil (ls : List (List UInt8)) : Lib.join ls [] = ls.flatten := by
  unfold Lib.join
  induction ls with
  | nil => rfl
  | cons x r ih => cases r with
    | nil => simp [List.intercalate]
    | cons y s => simp only [List.intercalate, List.intersperse_cons_cons, List.flatten_cons, List.nil_append] at ih ⊢; rw [ih]

theorem lens_flatten (ls : List (List UInt8)) : Lib.lens ls = ls.flatten.length := by
  induction ls with
  | nil => rfl
  | cons x r ih => rw [Lib.lens_cons, List.flatten_cons, List.length_append, ih]

theorem RetB.of_fresh {w w' : World} {l : List UInt8} {v : Value} (h : Lib.FreshBytes w.heap.size w' v l) (hb : Below w.heap.size w w') : RetB w l (.returned v) w' := by
  obtain ⟨A, c, rfl, hc, hm, ho⟩ := fresh_own h
  exact ⟨A, c, rfl, hc, hm, ho, .of_below hb (Nat.le_refl _)⟩

theorem Join_any (b o n c : Nat) (ps : List (Option Addr × List UInt8 × Nat)) (w : World) (hn : ps.length = n) (hP : Parts w b o ps) (hcap : n ≤ c) (hlen : (cat ps).length ≤ 140737488355328) (hn47 : n ≤ 140737488355328) :
    Calls Tryz.prog 107 #[.slice (some ⟨b, o, none⟩) n c, .slice none 0 0] w (RetB w (cat ps)) := by
  subst hn
  rcases ps with _ | ⟨p, _ | ⟨q, r⟩⟩
  · refine (Tryz.bytes_Join_none _ _ _ _).mono ?_
    rintro e w' ⟨rfl, rfl⟩
    exact ⟨some ⟨w.heap.size, 0, none⟩, 0, rfl, Nat.le_refl _, by simp, Own.nil _ _ _, (Chg.refl _ _).alloc _⟩
  · obtain ⟨h1, h2⟩ := hP 0 p rfl
    obtain ⟨A, l, c'⟩ := p
    simp only [cat, List.map_cons, List.map_nil, List.flatten_cons, List.flatten_nil, List.append_nil, List.length_cons, List.length_nil, Nat.add_zero, Nat.zero_add] at *
    rcases Nat.eq_zero_or_pos l.length with h0 | h0
    · obtain rfl : l = [] := List.eq_nil_of_length_eq_zero h0
      refine (Tryz.bytes_Join_one_empty b o c A c' _ w h1).mono ?_
      rintro e w' ⟨rfl, rfl⟩
      exact ⟨none, 0, rfl, Nat.le_refl _, by simp, Own.nil _ _ _, Chg.refl _ _⟩
    · obtain ⟨b', o', rfl, hb', hc'⟩ := h2.at_ h0
      refine (Tryz.bytes_Join_one b o c ⟨b', o', none⟩ c' l _ w h1 ?_ h0 hlen).mono ?_
      · intro i x hx
        obtain ⟨hi, rfl⟩ := List.getElem?_eq_some_iff.1 hx
        rw [add_plain]
        exact hc' i hi
      · rintro e w' ⟨v, rfl, hf, hb⟩
        exact RetB.of_fresh hf hb
  · have hj : Lib.join ((p :: q :: r).map (·.2.1)) [] = cat (p :: q :: r) := intercalate_nil _
    have hll : Lib.lens ((p :: q :: r).map (·.2.1)) = (cat (p :: q :: r)).length := lens_flatten _
    refine (Tryz.bytes_Join_many b o (p :: q :: r).length c ((p :: q :: r).map fun p => Value.slice p.1 p.2.1.length p.2.2) ((p :: q :: r).map (·.2.1)) _ [] w (by simp) (by simp) ?_ hcap ?_ hn47 ?_).mono ?_
    · refine ⟨by simp, ?_, ?_⟩
      · intro i v hv
        rw [List.getElem?_map] at hv
        obtain ⟨x, hx, rfl⟩ := Option.map_eq_some_iff.1 hv
        rw [add_plain]
        exact (hP i x hx).1
      · intro i v l hv hl
        rw [List.getElem?_map] at hv hl
        obtain ⟨x, hx, rfl⟩ := Option.map_eq_some_iff.1 hv
        obtain ⟨y, hy, rfl⟩ := Option.map_eq_some_iff.1 hl
        rw [hx] at hy
        injection hy with hy
        subst hy
        exact rd_holds (hP i x hx).2
    · exact ⟨none, 0, rfl, fun _ => rfl, fun a h => by cases h⟩
    · rw [hll]; simpa using hlen
    · rintro e w' ⟨v, rfl, hf, hb⟩
      rw [hj] at hf
      exact RetB.of_fresh hf hb

set_option maxRecDepth 100000 in
set_option maxHeartbeats 1000000 in
theorem Cat_any (b o n c : Nat) (ps : List (Option Addr × List UInt8 × Nat)) (w : World) (hn : ps.length = n) (hP : Parts w b o ps) (hcap : n ≤ c) (hlen : (cat ps).length ≤ 140737488355328) (hn47 : n ≤ 140737488355328) :
    Calls Tryz.prog 82 #[.slice (some ⟨b, o, none⟩) n c] w (RetB w (cat ps)) := by
  go_enter Tryz.func82, Tryz.ntmps82
  go_wp2_with fail
  refine (Join_any b o n c ps w hn hP hcap hlen hn47).mono ?_
  rintro e w' ⟨A, c', rfl, hr⟩
  go_wp2
  go_ret
  exact ⟨A, c', rfl, hr⟩

theorem parts_new (w : World) (t : TypeId) (ps : List (Option Addr × List UInt8 × Nat)) (h : ∀ p ∈ ps, Rd w p.1 p.2.1) :
    Parts (w.alloc (.cells (ps.map fun p => Value.slice p.1 p.2.1.length p.2.2).toArray t)) w.heap.size 0 ps := by
  intro i p hp
  have hm : p ∈ ps := List.mem_of_getElem? hp
  refine ⟨?_, (h p hm).non ((Chg.refl _ _).alloc _)⟩
  rw [Nat.zero_add]
  simp only [World.cell?]
  rw [heap_alloc_new]
  simp [hp]

theorem Cat1 (A1 : Option Addr) (l1 : List UInt8) (c1 : Nat) (t : TypeId) (w : World) (g : Nat) (hg : w.heap.size = g) (h1 : Rd w A1 l1) (hl : l1.length ≤ 140737488355328) :
    Calls Tryz.prog 82 #[.slice (some ⟨g, 0, none⟩) 1 1] (w.alloc (.cells #[.slice A1 l1.length c1] t)) (RetB w l1) := by
  subst hg
  have hp := parts_new w t [(A1, l1, c1)] (by simpa using h1)
  refine (Cat_any w.heap.size 0 1 1 [(A1, l1, c1)] _ rfl hp (by omega) (by simpa [cat] using hl) (by omega)).mono ?_
  intro e w' h
  have : cat [(A1, l1, c1)] = l1 := by simp [cat]
  rw [this] at h
  exact h.from ((Chg.refl _ _).alloc _)

theorem Cat2 (A1 A2 : Option Addr) (l1 l2 : List UInt8) (c1 c2 : Nat) (t : TypeId) (w : World) (g : Nat) (hg : w.heap.size = g) (h1 : Rd w A1 l1) (h2 : Rd w A2 l2) (hl : l1.length + l2.length ≤ 140737488355328) (m : List UInt8) (hm : l1 ++ l2 = m) :
    Calls Tryz.prog 82 #[.slice (some ⟨g, 0, none⟩) 2 2] (w.alloc (.cells #[.slice A1 l1.length c1, .slice A2 l2.length c2] t)) (RetB w m) := by
  subst hm
  subst hg
  have hp := parts_new w t [(A1, l1, c1), (A2, l2, c2)] (by simpa using ⟨h1, h2⟩)
  refine (Cat_any w.heap.size 0 2 2 [(A1, l1, c1), (A2, l2, c2)] _ rfl hp (by omega) (by simpa [cat] using hl) (by omega)).mono ?_
  intro e w' h
  have : cat [(A1, l1, c1), (A2, l2, c2)] = l1 ++ l2 := by simp [cat]
  rw [this] at h
  exact h.from ((Chg.refl _ _).alloc _)

theorem Cat3 (A1 A2 A3 : Option Addr) (l1 l2 l3 : List UInt8) (c1 c2 c3 : Nat) (t : TypeId) (w : World) (g : Nat) (hg : w.heap.size = g) (h1 : Rd w A1 l1) (h2 : Rd w A2 l2) (h3 : Rd w A3 l3) (hl : l1.length + l2.length + l3.length ≤ 140737488355328) (m : List UInt8) (hm : l1 ++ l2 ++ l3 = m) :
    Calls Tryz.prog 82 #[.slice (some ⟨g, 0, none⟩) 3 3] (w.alloc (.cells #[.slice A1 l1.length c1, .slice A2 l2.length c2, .slice A3 l3.length c3] t)) (RetB w m) := by
  subst hm
  subst hg
  have hp := parts_new w t [(A1, l1, c1), (A2, l2, c2), (A3, l3, c3)] (by simpa using ⟨h1, h2, h3⟩)
  refine (Cat_any w.heap.size 0 3 3 [(A1, l1, c1), (A2, l2, c2), (A3, l3, c3)] _ rfl hp (by omega) (by simp [cat]; omega) (by omega)).mono ?_
  intro e w' h
  have : cat [(A1, l1, c1), (A2, l2, c2), (A3, l3, c3)] = l1 ++ l2 ++ l3 := by simp [cat]
  rw [this] at h
  exact h.from ((Chg.refl _ _).alloc _)

theorem conv_str (A : Option Addr) (l : List UInt8) (c : Nat) (w : World) (h : Rd w A l) :
    (convert 29 9 (.slice A l.length c)).run Tryz.prog w = .ok (.string ⟨l.toArray⟩) w := by
  rcases Nat.eq_zero_or_pos l.length with h0 | h0
  · obtain rfl : l = [] := List.eq_nil_of_length_eq_zero h0
    cases A with
    | none => exact run_convert_bytes_nil w _ _ Tryz.underlying29 Tryz.underlying5 _ _ _ Tryz.underlying9
    | some a =>
      have hl : (loadCells a 0).run Tryz.prog w = .ok (([] : List Int).map (Value.int .u8)).toArray w := run_loadCells_list (P := Tryz.prog) w a [] (fun j v hj => by simp at hj)
      show (convert 29 9 (.slice (some a) 0 c)).run Tryz.prog w = _
      rw [run_convert_bytes_string w _ _ _ _ 0 c Tryz.underlying29 Tryz.underlying5 Tryz.underlying9, run_bytesToString w _ 0 c [] hl]
      rfl
  · obtain ⟨b, o, rfl, hb, hc⟩ := h.at_ h0
    rw [run_convert_bytes_arg w _ _ Tryz.underlying29 Tryz.underlying5 b o l.length c (l.map fun x => (x.toNat : Int)) (by simp) (fun i hi => by rw [hc i hi]; simp [List.getD, List.getElem?_eq_getElem hi]) _ Tryz.underlying9]
    congr 2
    unfold strOfNums
    congr 2
    rw [List.map_map]
    conv => rhs; rw [← List.map_id l]
    apply List.map_congr_left
    intro x _
    simp

theorem compare_zero (a b : List UInt8) : (Lib.compareBytes a b == 0) = decide (a = b) := by
  induction a generalizing b with
  | nil => cases b <;> simp [Lib.compareBytes]
  | cons x r ih =>
    cases b with
    | nil => simp [Lib.compareBytes]
    | cons y t =>
      unfold Lib.compareBytes
      by_cases h1 : x < y
      · have : x ≠ y := by rintro rfl; exact absurd h1 (by simp)
        simp [h1, this]
      · by_cases h2 : y < x
        · have : x ≠ y := by rintro rfl; exact absurd h2 (by simp)
          simp [h1, h2, this]
        · have : x = y := by
            apply UInt8.toNat_inj.1
            rw [UInt8.lt_iff_toNat_lt] at h1 h2
            omega
          subst this
          simp only [h1, if_false, ih]
          simp

set_option maxRecDepth 100000 in
set_option maxHeartbeats 1000000 in
theorem Same_any (A B : Option Addr) (l m : List UInt8) (c d : Nat) (w : World) (h : Rd w A l) (k : Rd w B m) :
    Calls Tryz.prog 124 #[.slice A l.length c, .slice B m.length d] w fun e w' => e = .returned (.bool (decide (l = m))) ∧ w = w' := by
  have h1 := conv_str A l c w h
  have h2 := conv_str B m d w k
  go_enter Tryz.func124, Tryz.ntmps124
  go_wp2_with (go_at_call 132; refine (Tryz.strings_Compare _ _ _).mono ?_; rintro e w' ⟨rfl, rfl⟩)
  go_ret
  refine ⟨?_, rfl⟩
  rw [← compare_zero]
  rfl

theorem Clone_any (A : Option Addr) (l : List UInt8) (c : Nat) (w : World) (h : Rd w A l) (hlen : l.length ≤ 140737488355328) :
    Calls Tryz.prog 36 #[.slice A l.length c] w (RetB w l) := by
  rcases Nat.eq_zero_or_pos l.length with h0 | h0
  · obtain rfl : l = [] := List.eq_nil_of_length_eq_zero h0
    cases A with
    | none =>
      refine (Tryz.bytes_Clone_nil _ _ _).mono ?_
      rintro e w' ⟨rfl, rfl⟩
      exact ⟨none, 0, rfl, Nat.le_refl _, by simp, Own.nil _ _ _, Chg.refl _ _⟩
    | some a =>
      refine (Tryz.bytes_Clone_at a 0 c [] w rfl (by omega) (fun i hi => absurd hi (by omega))).mono ?_
      rintro e w' ⟨v, rfl, hown, hne, hb⟩
      rcases hown.2 with ⟨rfl, _⟩ | ⟨g, cap, cur, rfl, _, _, _, hm, _⟩
      · exact absurd rfl hne
      · exact ⟨_, cap, rfl, by simp, hm, Own.nil _ _ _, .of_below hb (Nat.le_refl _)⟩
  · obtain ⟨b, o, rfl, hb, hc⟩ := h.at_ h0
    refine (Tryz.bytes_Clone_at ⟨b, o, none⟩ l.length c (l.map fun x => (x.toNat : Int)) w (by simp) hlen (fun i hi => ?_)).mono ?_
    · rw [add_plain, hc i hi]
      simp [List.getD, List.getElem?_eq_getElem hi]
    · rintro e w' ⟨v, rfl, hown, hne, hb'⟩
      rcases hown.2 with ⟨rfl, _⟩ | ⟨g, cap, cur, rfl, hg, hh, hn, hm, hsz, htk⟩
      · exact absurd rfl hne
      · refine ⟨_, cap, rfl, hn, hm, ?_, .of_below hb' (Nat.le_refl _)⟩
        intro i x hx
        have hi : i < l.length := (List.getElem?_eq_some_iff.1 hx).1
        have hcell : cur[i]? = some (.int .u8 (x.toNat : Int)) := by
          have h2 : (cur.toList.take (l.length * 1))[i]? = some (.int .u8 (x.toNat : Int)) := by
            rw [htk]; simp [hx]
          rw [List.getElem?_take_of_lt (by omega)] at h2
          simpa using h2
        exact ⟨g, 0, rfl, hg, by rw [Nat.zero_add]; simp only [World.cell?]; rw [hh]; exact hcell, by simp only [World.frozen?]; rw [hh]; simp⟩
end Go.Proofs.YthhbdejagglgbaaGreat
