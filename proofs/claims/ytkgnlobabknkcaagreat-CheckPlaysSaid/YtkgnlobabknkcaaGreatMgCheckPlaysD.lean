/- CheckPlays, part 4 of 27: contracts of the functions that it reaches, and the laws that they need, merged and shortened (from my texts XBytes, XNum, XWords, XWriter, XDk, XDiskD, XDiskM, XDisk, XCrc). -/
import Derived.Test.YtkgnlobabknkcaaGreatMgCheckPlaysA
import Derived.Test.YtkgnlobabknkcaaGreatMgCheckPlaysShelf
import Derived.Test.YtkgnlobabknkcaaGreatRows
import Derived.Deep.DeepFit
import Derived.BigQuiet
import Derived.Deep.RegionHeld3
import Derived.Deep.AppendLies
import Derived.OneCell
import Derived.Laws.Sem
import Derived.OwnWalkIn
import Derived.LoopNIn
import Derived.Deep.LoopGhost
import Derived.Deep.MidRow
import Derived.StillTailTactics
import Derived.Laws.BitsAllLaws
namespace Go.Proofs.YtkgnlobabknkcaaGreat
set_option linter.unusedVariables false
set_option linter.unusedSimpArgs false
set_option maxHeartbeats 8000000
set_option maxRecDepth 100000
section
open Go.RowKit
theorem rd_holds {w : World} {A : Option Addr} {l : List UInt8} {c : Nat} (h : Rd w A l) : Lib.HoldsBytes w (.slice A l.length c) l := by
 refine ⟨A, c, rfl, ?_, ?_⟩
 ·rintro rfl
  cases l with
  | nil => rfl
  | cons x r =>
   obtain ⟨b, o, e, _⟩ := h 0 x rfl
   cases e
 ·rintro a rfl i x hx
  obtain ⟨b, o, e, hc⟩ := h i x hx
  injection e with e
  subst e
  rw [show (⟨b, o, none⟩ : Addr).add i = ⟨b, o + i, none⟩ from by unfold Addr.add; split <;> simp_all]
  exact hc
theorem fresh_own {B : Nat} {w : World} {v : Value} {l : List UInt8} (h : Lib.FreshBytes B w v l) : ∃ A c, v = .slice A l.length c ∧ l.length ≤ c ∧ c ≤ maxLen ∧ Own B w A l := by
 obtain ⟨g, cap, zs, rfl, hB, hl, hm, hz, hr, hb, hc, hf⟩ := h
 refine ⟨_, _, rfl, hl, hm, ?_⟩
 intro i x hx
 have hi : i < l.length := (List.getElem?_eq_some_iff.1 hx).1
 refine ⟨g, 0, rfl, hB, ?_, by rw [Nat.zero_add]; exact hf i (by omega)⟩
 rw [Nat.zero_add, hc i (by omega)]
 have hz' : i < zs.length := by omega
 have h1 : zs.getD i 0 = zs[i] := by simp [List.getD, List.getElem?_eq_getElem hz']
 rw [h1]
 have h2 : (Lib.bytesOf (zs.take l.length))[i]? = some x := by rw [hb]; exact hx
 rw [Lib.bytesOf, List.getElem?_map, List.getElem?_take_of_lt hi, List.getElem?_eq_getElem hz'] at h2
 simp only [Option.map_some, Option.some.injEq] at h2
 have h3 := hr zs[i] (List.getElem_mem hz')
 rw [← h2, UInt8.toNat_ofNat']
 congr 2
 omega
def Parts (w : World) (b o : Nat) (ps : List (Option Addr × List UInt8 × Nat)) : Prop :=
 ∀ (i : Nat) p, ps[i]? = some p → w.cell? ⟨b, o + i, none⟩ = some (.slice p.1 p.2.1.length p.2.2) ∧ Rd w p.1 p.2.1
def cat (ps : List (Option Addr × List UInt8 × Nat)) : List UInt8 := (ps.map (·.2.1)).flatten
theorem add_plain (b o i : Nat) : (⟨b, o, none⟩ : Addr).add i = ⟨b, o + i, none⟩ := by unfold Addr.add; split <;> simp_all
theorem intercalate_nil (ls : List (List UInt8)) : Lib.join ls [] = ls.flatten := by
 unfold Lib.join
 induction ls with
 | nil => rfl
 | cons x r ih => cases r with
  | nil => simp [List.intercalate]
  | cons y s => simp only [List.intercalate, List.intersperse_cons_cons, List.flatten_cons, List.nil_append] at ih ⊢; rw [ih]
theorem lens_flatten (ls : List (List UInt8)) : Lib.lens ls = ls.flatten.length := by
 induction ls with
 | nil => rfl
 | cons x r ih => rw [Lib.lens_cons, List.flatten_cons, List.length_append, ih]
theorem RetB.of_fresh {w w' : World} {l : List UInt8} {v : Value} (h : Lib.FreshBytes w.heap.size w' v l) (hb : Below w.heap.size w w') : RetB w l (.returned v) w' := by
 obtain ⟨A, c, rfl, hc, hm, ho⟩ := fresh_own h
 exact ⟨A, c, rfl, hc, hm, ho, .of_below hb (Nat.le_refl _)⟩
theorem Join_any (b o n c : Nat) (ps : List (Option Addr × List UInt8 × Nat)) (w : World) (hn : ps.length = n) (hP : Parts w b o ps) (hcap : n ≤ c) (hlen : (cat ps).length ≤ 140737488355328) (hn47 : n ≤ 140737488355328) :
  Calls Tryz.prog 78 #[.slice (some ⟨b, o, none⟩) n c, .slice none 0 0] w (RetB w (cat ps)) := by
 subst hn
 rcases ps with _ | ⟨p, _ | ⟨q, r⟩⟩
 ·refine (Tryz.bytes_Join_none _ _ _ _).mono ?_
  rintro e w' ⟨rfl, rfl⟩
  exact ⟨some ⟨w.heap.size, 0, none⟩, 0, rfl, Nat.le_refl _, by simp, Own.nil _ _ _, (Chg.refl _ _).alloc _⟩
 ·obtain ⟨h1, h2⟩ := hP 0 p rfl
  obtain ⟨A, l, c'⟩ := p
  simp only [cat, List.map_cons, List.map_nil, List.flatten_cons, List.flatten_nil, List.append_nil, List.length_cons, List.length_nil, Nat.add_zero, Nat.zero_add] at *
  rcases Nat.eq_zero_or_pos l.length with h0 | h0
  ·obtain rfl : l = [] := List.eq_nil_of_length_eq_zero h0
   refine (Tryz.bytes_Join_one_empty b o c A c' _ w h1).mono ?_
   rintro e w' ⟨rfl, rfl⟩
   exact ⟨none, 0, rfl, Nat.le_refl _, by simp, Own.nil _ _ _, Chg.refl _ _⟩
  ·obtain ⟨b', o', rfl, hb', hc'⟩ := h2.at_ h0
   refine (Tryz.bytes_Join_one b o c ⟨b', o', none⟩ c' l _ w h1 ?_ h0 hlen).mono ?_
   ·intro i x hx
    obtain ⟨hi, rfl⟩ := List.getElem?_eq_some_iff.1 hx
    rw [add_plain]
    exact hc' i hi
   ·rintro e w' ⟨v, rfl, hf, hb⟩
    exact RetB.of_fresh hf hb
 ·have hj : Lib.join ((p :: q :: r).map (·.2.1)) [] = cat (p :: q :: r) := intercalate_nil _
  have hll : Lib.lens ((p :: q :: r).map (·.2.1)) = (cat (p :: q :: r)).length := lens_flatten _
  refine (Tryz.bytes_Join_many b o (p :: q :: r).length c ((p :: q :: r).map fun p => Value.slice p.1 p.2.1.length p.2.2) ((p :: q :: r).map (·.2.1)) _ [] w (by simp) (by simp) ?_ hcap ?_ hn47 ?_).mono ?_
  ·refine ⟨by simp, ?_, ?_⟩
   ·intro i v hv
    rw [List.getElem?_map] at hv
    obtain ⟨x, hx, rfl⟩ := Option.map_eq_some_iff.1 hv
    rw [add_plain]
    exact (hP i x hx).1
   ·intro i v l hv hl
    rw [List.getElem?_map] at hv hl
    obtain ⟨x, hx, rfl⟩ := Option.map_eq_some_iff.1 hv
    obtain ⟨y, hy, rfl⟩ := Option.map_eq_some_iff.1 hl
    rw [hx] at hy
    injection hy with hy
    subst hy
    exact rd_holds (hP i x hx).2
  ·exact ⟨none, 0, rfl, fun _ => rfl, fun a h => by cases h⟩
  ·rw [hll]; simpa using hlen
  ·rintro e w' ⟨v, rfl, hf, hb⟩
   rw [hj] at hf
   exact RetB.of_fresh hf hb
theorem Cat_any (b o n c : Nat) (ps : List (Option Addr × List UInt8 × Nat)) (w : World) (hn : ps.length = n) (hP : Parts w b o ps) (hcap : n ≤ c) (hlen : (cat ps).length ≤ 140737488355328) (hn47 : n ≤ 140737488355328) :
  Calls Tryz.prog 33 #[.slice (some ⟨b, o, none⟩) n c] w (RetB w (cat ps)) := by
 go_enter Tryz.func33, Tryz.ntmps33
 go_wp2_with fail
 refine (Join_any b o n c ps w hn hP hcap hlen hn47).mono ?_
 rintro e w' ⟨A, c', rfl, hr⟩
 go_wp2
 go_ret
 exact ⟨A, c', rfl, hr⟩
theorem parts_new (w : World) (t : TypeId) (ps : List (Option Addr × List UInt8 × Nat)) (h : ∀ p ∈ ps, Rd w p.1 p.2.1) :
  Parts (w.alloc (.cells (ps.map fun p => Value.slice p.1 p.2.1.length p.2.2).toArray t)) w.heap.size 0 ps := by
 intro i p hp
 have hm : p ∈ ps := List.mem_of_getElem? hp
 refine ⟨?_, (h p hm).non ((Chg.refl _ _).alloc _)⟩
 rw [Nat.zero_add]
 simp only [World.cell?]
 rw [heap_alloc_new]
 simp [hp]
theorem Cat1 (A1 : Option Addr) (l1 : List UInt8) (c1 : Nat) (t : TypeId) (w : World) (g : Nat) (hg : w.heap.size = g) (h1 : Rd w A1 l1) (hl : l1.length ≤ 140737488355328) :
  Calls Tryz.prog 33 #[.slice (some ⟨g, 0, none⟩) 1 1] (w.alloc (.cells #[.slice A1 l1.length c1] t)) (RetB w l1) := by
 subst hg
 have hp := parts_new w t [(A1, l1, c1)] (by simpa using h1)
 refine (Cat_any w.heap.size 0 1 1 [(A1, l1, c1)] _ rfl hp (by omega) (by simpa [cat] using hl) (by omega)).mono ?_
 intro e w' h
 have : cat [(A1, l1, c1)] = l1 := by simp [cat]
 rw [this] at h
 exact h.from ((Chg.refl _ _).alloc _)
theorem Cat2 (A1 A2 : Option Addr) (l1 l2 : List UInt8) (c1 c2 : Nat) (t : TypeId) (w : World) (g : Nat) (hg : w.heap.size = g) (h1 : Rd w A1 l1) (h2 : Rd w A2 l2) (hl : l1.length + l2.length ≤ 140737488355328) (m : List UInt8) (hm : l1 ++ l2 = m) :
  Calls Tryz.prog 33 #[.slice (some ⟨g, 0, none⟩) 2 2] (w.alloc (.cells #[.slice A1 l1.length c1, .slice A2 l2.length c2] t)) (RetB w m) := by
 subst hm
 subst hg
 have hp := parts_new w t [(A1, l1, c1), (A2, l2, c2)] (by simpa using ⟨h1, h2⟩)
 refine (Cat_any w.heap.size 0 2 2 [(A1, l1, c1), (A2, l2, c2)] _ rfl hp (by omega) (by simpa [cat] using hl) (by omega)).mono ?_
 intro e w' h
 have : cat [(A1, l1, c1), (A2, l2, c2)] = l1 ++ l2 := by simp [cat]
 rw [this] at h
 exact h.from ((Chg.refl _ _).alloc _)
theorem Cat3 (A1 A2 A3 : Option Addr) (l1 l2 l3 : List UInt8) (c1 c2 c3 : Nat) (t : TypeId) (w : World) (g : Nat) (hg : w.heap.size = g) (h1 : Rd w A1 l1) (h2 : Rd w A2 l2) (h3 : Rd w A3 l3) (hl : l1.length + l2.length + l3.length ≤ 140737488355328) (m : List UInt8) (hm : l1 ++ l2 ++ l3 = m) :
  Calls Tryz.prog 33 #[.slice (some ⟨g, 0, none⟩) 3 3] (w.alloc (.cells #[.slice A1 l1.length c1, .slice A2 l2.length c2, .slice A3 l3.length c3] t)) (RetB w m) := by
 subst hm
 subst hg
 have hp := parts_new w t [(A1, l1, c1), (A2, l2, c2), (A3, l3, c3)] (by simpa using ⟨h1, h2, h3⟩)
 refine (Cat_any w.heap.size 0 3 3 [(A1, l1, c1), (A2, l2, c2), (A3, l3, c3)] _ rfl hp (by omega) (by simp [cat]; omega) (by omega)).mono ?_
 intro e w' h
 have : cat [(A1, l1, c1), (A2, l2, c2), (A3, l3, c3)] = l1 ++ l2 ++ l3 := by simp [cat]
 rw [this] at h
 exact h.from ((Chg.refl _ _).alloc _)
theorem conv_str (A : Option Addr) (l : List UInt8) (c : Nat) (w : World) (h : Rd w A l) :
  (convert 29 9 (.slice A l.length c)).run Tryz.prog w = .ok (.string ⟨l.toArray⟩) w := by
 rcases Nat.eq_zero_or_pos l.length with h0 | h0
 ·obtain rfl : l = [] := List.eq_nil_of_length_eq_zero h0
  cases A with
  | none => exact run_convert_bytes_nil w _ _ Tryz.underlying29 Tryz.underlying5 _ _ _ Tryz.underlying9
  | some a =>
   have hl : (loadCells a 0).run Tryz.prog w = .ok (([] : List Int).map (Value.int .u8)).toArray w := run_loadCells_list (P := Tryz.prog) w a [] (fun j v hj => by simp at hj)
   show (convert 29 9 (.slice (some a) 0 c)).run Tryz.prog w = _
   rw [run_convert_bytes_string w _ _ _ _ 0 c Tryz.underlying29 Tryz.underlying5 Tryz.underlying9, run_bytesToString w _ 0 c [] hl]
   rfl
 ·obtain ⟨b, o, rfl, hb, hc⟩ := h.at_ h0
  rw [run_convert_bytes_arg w _ _ Tryz.underlying29 Tryz.underlying5 b o l.length c (l.map fun x => (x.toNat : Int)) (by simp) (fun i hi => by rw [hc i hi]; simp [List.getD, List.getElem?_eq_getElem hi]) _ Tryz.underlying9]
  congr 2
  unfold strOfNums
  congr 2
  rw [List.map_map]
  conv => rhs; rw [← List.map_id l]
  apply List.map_congr_left
  intro x _
  simp
theorem compare_zero (a b : List UInt8) : (Lib.compareBytes a b == 0) = decide (a = b) := by
 induction a generalizing b with
 | nil => cases b <;> simp [Lib.compareBytes]
 | cons x r ih =>
  cases b with
  | nil => simp [Lib.compareBytes]
  | cons y t =>
   unfold Lib.compareBytes
   by_cases h1 : x < y
   ·have : x ≠ y := by rintro rfl; exact absurd h1 (by simp)
    simp [h1, this]
   ·by_cases h2 : y < x
    ·have : x ≠ y := by rintro rfl; exact absurd h2 (by simp)
     simp [h1, h2, this]
    ·have : x = y := by
      apply UInt8.toNat_inj.1
      rw [UInt8.lt_iff_toNat_lt] at h1 h2
      omega
     subst this
     simp only [h1, if_false, ih]
     simp
theorem Same_any (A B : Option Addr) (l m : List UInt8) (c d : Nat) (w : World) (h : Rd w A l) (k : Rd w B m) :
  Calls Tryz.prog 217 #[.slice A l.length c, .slice B m.length d] w fun e w' => e = .returned (.bool (decide (l = m))) ∧ w = w' := by
 have h1 := conv_str A l c w h
 have h2 := conv_str B m d w k
 go_enter Tryz.func217, Tryz.ntmps217
 go_wp2_with (go_at_call 224; refine (Tryz.strings_Compare _ _ _).mono ?_; rintro e w' ⟨rfl, rfl⟩)
 go_ret
 refine ⟨?_, rfl⟩
 rw [← compare_zero]
 rfl
theorem Clone_any (A : Option Addr) (l : List UInt8) (c : Nat) (w : World) (h : Rd w A l) (hlen : l.length ≤ 140737488355328) :
  Calls Tryz.prog 56 #[.slice A l.length c] w (RetB w l) := by
 rcases Nat.eq_zero_or_pos l.length with h0 | h0
 ·obtain rfl : l = [] := List.eq_nil_of_length_eq_zero h0
  cases A with
  | none =>
   refine (Tryz.bytes_Clone_nil _ _ _).mono ?_
   rintro e w' ⟨rfl, rfl⟩
   exact ⟨none, 0, rfl, Nat.le_refl _, by simp, Own.nil _ _ _, Chg.refl _ _⟩
  | some a =>
   refine (Tryz.bytes_Clone_at a 0 c [] w rfl (by omega) (fun i hi => absurd hi (by omega))).mono ?_
   rintro e w' ⟨v, rfl, hown, hne, hb⟩
   rcases hown.2 with ⟨rfl, _⟩ | ⟨g, cap, cur, rfl, _, _, _, hm, _⟩
   ·exact absurd rfl hne
   ·exact ⟨_, cap, rfl, by simp, hm, Own.nil _ _ _, .of_below hb (Nat.le_refl _)⟩
 ·obtain ⟨b, o, rfl, hb, hc⟩ := h.at_ h0
  refine (Tryz.bytes_Clone_at ⟨b, o, none⟩ l.length c (l.map fun x => (x.toNat : Int)) w (by simp) hlen (fun i hi => ?_)).mono ?_
  ·rw [add_plain, hc i hi]
   simp [List.getD, List.getElem?_eq_getElem hi]
  ·rintro e w' ⟨v, rfl, hown, hne, hb'⟩
   rcases hown.2 with ⟨rfl, _⟩ | ⟨g, cap, cur, rfl, hg, hh, hn, hm, hsz, htk⟩
   ·exact absurd rfl hne
   ·refine ⟨_, cap, rfl, hn, hm, ?_, .of_below hb' (Nat.le_refl _)⟩
    intro i x hx
    have hi : i < l.length := (List.getElem?_eq_some_iff.1 hx).1
    have hcell : cur[i]? = some (.int .u8 (x.toNat : Int)) := by
     have h2 : (cur.toList.take (l.length * 1))[i]? = some (.int .u8 (x.toNat : Int)) := by
      rw [htk]; simp [hx]
     rw [List.getElem?_take_of_lt (by omega)] at h2
     simpa using h2
    exact ⟨g, 0, rfl, hg, by rw [Nat.zero_add]; simp only [World.cell?]; rw [hh]; exact hcell, by simp only [World.frozen?]; rw [hh]; simp⟩
end
section
def be (x : Nat) : Nat → List UInt8
 | 0 => []
 | n + 1 => be (x / 256) n ++ [UInt8.ofNat x]
def num (l : List UInt8) : Nat := l.foldl (fun a d => 256 * a + d.toNat) 0
theorem be_length (x n : Nat) : (be x n).length = n := by
 induction n generalizing x with
 | zero => rfl
 | succ n ih => simp [be, ih]
theorem num_snoc (l : List UInt8) (d : UInt8) : num (l ++ [d]) = 256 * num l + d.toNat := by simp [num]
theorem ofNat_toNat (x : Nat) : (UInt8.ofNat x).toNat = x % 256 := by simp
theorem num_lt (l : List UInt8) : num l < 256 ^ l.length := by
 suffices h : ∀ n (l : List UInt8), l.length = n → num l < 256 ^ n from h _ l rfl
 intro n
 induction n with
 | zero => intro l h; have := List.eq_nil_of_length_eq_zero h; subst this; simp [num]
 | succ n ih =>
  intro l h
  have hne : l ≠ [] := by rintro rfl; simp at h
  obtain ⟨r, d, rfl⟩ : ∃ r d, l = r ++ [d] := ⟨l.dropLast, l.getLast hne, (List.dropLast_concat_getLast hne).symm⟩
  have hr : r.length = n := by simpa using h
  have hd := d.toNat_lt
  have := ih r hr
  rw [num_snoc, Nat.pow_succ]
  omega
theorem num_take_snoc (l : List UInt8) (k : Nat) (h : k < l.length) : num (l.take (k + 1)) = 256 * num (l.take k) + l[k].toNat := by
 rw [List.take_succ_eq_append_getElem h, num_snoc]
theorem num_take_lt (l : List UInt8) (k : Nat) (h : k ≤ l.length) : num (l.take k) < 256 ^ k := by
 have := num_lt (l.take k)
 rw [List.length_take, Nat.min_eq_left h] at this
 exact this
end
section
open Go.RowKit
theorem be4 (x : Nat) : be x 4 = [UInt8.ofNat (x / 256 / 256 / 256), UInt8.ofNat (x / 256 / 256), UInt8.ofNat (x / 256), UInt8.ofNat x] := rfl
theorem be8 (x : Nat) : be x 8 = [UInt8.ofNat (x / 256 / 256 / 256 / 256 / 256 / 256 / 256), UInt8.ofNat (x / 256 / 256 / 256 / 256 / 256 / 256), UInt8.ofNat (x / 256 / 256 / 256 / 256 / 256), UInt8.ofNat (x / 256 / 256 / 256 / 256),
  UInt8.ofNat (x / 256 / 256 / 256), UInt8.ofNat (x / 256 / 256), UInt8.ofNat (x / 256), UInt8.ofNat x] := rfl
theorem bv_ofNat (x : Nat) : bv (UInt8.ofNat x) = .int .u8 ((x : Int) % 256) := by
 simp only [bv, ofNat_toNat]; rfl
theorem Row4 (x : Nat) (w : World) (h1 : x < 18446744073709551616) :
  Calls Tryz.prog 150 #[.int .u64 x, .int .i64 4] w (RetB w (be x 4)) := by
 have hmk : ∀ W : World, (Instr.makeSlice 29 (.int .i64 4) (.int .i64 4)).run Tryz.prog W = .ok (.slice (some ⟨W.heap.size, 0, none⟩) 4 4) (W.alloc (.cells #[.int .u8 0, .int .u8 0, .int .u8 0, .int .u8 0] 5)) := mk_bytes 4 (by omega) (by omega)
 have h0 : (0 : Int) ≤ x := by omega
 have h2 : (x : Int) < 18446744073709551616 := by omega
 go_enter Tryz.func150, Tryz.ntmps150
 go_wp2
 refine wp_loop_rounds 5 ?_
 rw [rounds_succ]
 go_wp2
 rw [rounds_succ]
 go_wp2
 rw [rounds_succ]
 go_wp2
 rw [rounds_succ]
 go_wp2
 rw [rounds_succ]
 go_wp2
 go_ret
 refine ⟨some ⟨w.heap.size, 0, none⟩, 4, by rw [be_length]; rfl, by rw [be_length]; omega, by unfold maxLen; omega, own_new _ _ _ _ ?_, (Chg.refl _ _).alloc _⟩
 simp only [be4, List.map_cons, List.map_nil, bv_ofNat]
 rfl
theorem Row8 (x : Nat) (w : World) (h1 : x < 18446744073709551616) :
  Calls Tryz.prog 150 #[.int .u64 x, .int .i64 8] w (RetB w (be x 8)) := by
 have hmk : ∀ W : World, (Instr.makeSlice 29 (.int .i64 8) (.int .i64 8)).run Tryz.prog W = .ok (.slice (some ⟨W.heap.size, 0, none⟩) 8 8) (W.alloc (.cells #[.int .u8 0, .int .u8 0, .int .u8 0, .int .u8 0, .int .u8 0, .int .u8 0, .int .u8 0, .int .u8 0] 5)) := mk_bytes 8 (by omega) (by omega)
 have h0 : (0 : Int) ≤ x := by omega
 have h2 : (x : Int) < 18446744073709551616 := by omega
 go_enter Tryz.func150, Tryz.ntmps150
 go_wp2
 refine wp_loop_rounds 9 ?_
 iterate 9
  rw [rounds_succ]
  go_wp2
 go_ret
 refine ⟨some ⟨w.heap.size, 0, none⟩, 8, by rw [be_length]; rfl, by rw [be_length]; omega, by unfold maxLen; omega, own_new _ _ _ _ ?_, (Chg.refl _ _).alloc _⟩
 have e : ((x / 256 / 256 / 256 / 256 / 256 / 256 / 256 : Nat) : Int) % 256 = (x : Int) / 256 / 256 / 256 / 256 / 256 / 256 / 256 := by omega
 simp only [be8, List.map_cons, List.map_nil, bv_ofNat, e]
 rfl
theorem Put32 (x : Nat) (w : World) (h1 : x < 4294967296) :
  Calls Tryz.prog 113 #[.int .u32 x] w (RetB w (be x 4)) := by
 have h0 : (0 : Int) ≤ x := by omega
 have h2 : (x : Int) < 4294967296 := by omega
 go_enter Tryz.func113, Tryz.ntmps113
 go_wp2_with fail
 refine (Row4 x w (by omega)).mono ?_
 rintro e w' ⟨A, c, rfl, hc, hm, ho, hg⟩
 go_wp2
 go_ret
 exact ⟨A, c, rfl, hc, hm, ho, hg⟩
theorem Put64 (x : Nat) (w : World) (h1 : x < 18446744073709551616) :
  Calls Tryz.prog 112 #[.int .u64 x] w (RetB w (be x 8)) := by
 go_enter Tryz.func112, Tryz.ntmps112
 go_wp2_with fail
 refine (Row8 x w (by omega)).mono ?_
 rintro e w' ⟨A, c, rfl, hc, hm, ho, hg⟩
 go_wp2
 go_ret
 exact ⟨A, c, rfl, hc, hm, ho, hg⟩
theorem intEq {k : IntKind} {a b : Int} (h : a = b) : Value.int k a = Value.int k b := by rw [h]
theorem Number_ok (A : Option Addr) (l : List UInt8) (c : Nat) (w : World) (hr : Rd w A l) (h1 : 1 ≤ l.length) (h8 : l.length ≤ 8) :
  Calls Tryz.prog 218 #[.slice A l.length c] w fun e w' => e = .returned (.tuple #[.int .u64 (num l : Nat), .bool true]) ∧ w = w' := by
 obtain ⟨b, o, rfl, hb, hc⟩ := hr.at_ (by omega)
 have HC := Lh hc
 clear hc
 have g1 : decide ((l.length : Int) < 1) = false := by simp; omega
 have g2 : decide ((l.length : Int) > 8) = false := by simp; omega
 go_enter Tryz.func218, Tryz.ntmps218
 go_wp2
 go_loop [4, 17] (fun x i => ∃ k : Nat, k ≤ l.length ∧ i = .int .i64 k ∧ x = .int .u64 (num (l.take k) : Nat)) (fun _ i => l.length - (intOf i).toNat)
 case atStart => exact ⟨0, Nat.zero_le _, rfl, rfl⟩
 case round =>
  obtain ⟨k, hk, rfl, rfl⟩ := hrel
  by_cases hlt : k < l.length
  ·have hcell := HC.out k hlt
   have hd := (l[k]'hlt).toNat_lt
   have hn : num (l.take k) < 72057594037927936 := by
    have h1 := num_take_lt l k hk
    have h2 : 256 ^ k ≤ 256 ^ 7 := Nat.pow_le_pow_right (by omega) (by omega)
    omega
   have HS := num_take_snoc l k hlt
   obtain ⟨d, hd'⟩ : ∃ d : Nat, (l[k]'hlt).toNat = d := ⟨_, rfl⟩
   rw [hd'] at hcell hd HS
   clear hd'
   obtain ⟨v, hv⟩ : ∃ v : Nat, num (l.take k) = v := ⟨_, rfl⟩
   rw [hv] at hn HS ⊢
   clear hv
   replace HS := Lh HS
   go_wp2
   go_round
   case rel => exact ⟨k + 1, by omega, by go_num, by rw [HS.out]; exact intEq (by omega)⟩
   case measure => simp [intOf]; omega
  ·go_wp2
   go_ret2
   refine ⟨?_, rfl⟩
   have e : l.take k = l := List.take_of_length_le (by omega)
   rw [e]
   rfl
theorem load_ok (A : Option Addr) (l : List UInt8) (c n : Nat) (w : World) (hr : Rd w A l) (hl : l.length = n) (h1 : 1 ≤ n) (h8 : n ≤ 8) (hcap : n ≤ c) (hc63 : c ≤ 9223372036854775807) :
  Calls Tryz.prog 199 #[.slice A n c, .int .i64 0, .int .i64 n] w fun e w' => e = .returned (.tuple #[.int .u64 (num l : Nat), .bool true]) ∧ w = w' := by
 subst hl
 obtain ⟨b, o, rfl, hb, hc⟩ := hr.at_ (by omega)
 clear hc
 go_enter Tryz.func199, Tryz.ntmps199
 go_wp2_with fail
 refine (Number_ok _ l c _ hr h1 h8).mono ?_
 rintro e w' ⟨rfl, rfl⟩
 go_wp2
 go_ret2
 exact ⟨rfl, rfl⟩
theorem Load64_ok (A : Option Addr) (l : List UInt8) (c : Nat) (w : World) (hr : Rd w A l) (hl : l.length = 8) (hcap : 8 ≤ c) (hc63 : c ≤ 9223372036854775807) :
  Calls Tryz.prog 172 #[.slice A 8 c, .int .i64 0] w fun e w' => e = .returned (.tuple #[.int .u64 (num l : Nat), .bool true]) ∧ w = w' := by
 go_enter Tryz.func172, Tryz.ntmps172
 go_wp2_with fail
 refine (load_ok _ l c 8 _ hr hl (by omega) (by omega) hcap hc63).mono ?_
 rintro e w' ⟨rfl, rfl⟩
 go_wp2
 go_ret2
 exact ⟨rfl, rfl⟩
theorem Load32_ok (A : Option Addr) (l : List UInt8) (c : Nat) (w : World) (hr : Rd w A l) (hl : l.length = 4) (hcap : 4 ≤ c) (hc63 : c ≤ 9223372036854775807) :
  Calls Tryz.prog 207 #[.slice A 4 c, .int .i64 0] w fun e w' => e = .returned (.tuple #[.int .u32 (num l : Nat), .bool true]) ∧ w = w' := by
 have hn := num_lt l
 rw [hl] at hn
 have h2 : (num l : Int) < 4294967296 := by omega
 go_enter Tryz.func207, Tryz.ntmps207
 go_wp2_with fail
 refine (load_ok _ l c 4 _ hr hl (by omega) (by omega) hcap hc63).mono ?_
 rintro e w' ⟨rfl, rfl⟩
 go_wp2
 go_ret2
 exact ⟨rfl, rfl⟩
end
section
open Go.RowKit
def IsW (B : Nat) (w : World) (p : Nat) (l : List UInt8) (er : Int) : Prop :=
 B ≤ p ∧ ∃ v, w.heap[p]? = some (.cells #[v, .bool true, .int .i64 er] 175 (0, 0)) ∧ w.ownsRow B 5 1 v l.length (l.map bv)
theorem wnone_any (p : Nat) (v : Value) (er : Int) (w : World) (hb : w.heap[p]? = some (.cells #[v, .bool true, .int .i64 er] 175 (0, 0))) :
  Calls Tryz.prog 114 #[.pointer (some ⟨p, 0, none⟩)] w fun e w' => e = .returned (.bool false) ∧ w = w' := by
 have h1 : w.cell? ⟨p, 1, none⟩ = some (.bool true) := by rw [cell_of_row _ _ _ _ _ _ hb]; rfl
 clear hb
 go_enter Tryz.func114, Tryz.ntmps114
 go_wp2
 go_ret
 exact ⟨rfl, rfl⟩
theorem NewWriter_any (w : World) :
  Calls Tryz.prog 66 #[] w fun e w' => e = .returned (.pointer (some ⟨w.heap.size, 0, none⟩)) ∧ IsW w.heap.size w' w.heap.size [] 0 ∧ Chg Non w w' := by
 go_enter Tryz.func66, Tryz.ntmps66
 go_wp2
 go_ret
 exact ⟨rfl, ⟨Nat.le_refl _, _, heap_alloc_new _ _, World.ownsRow_nil _ _ _ _⟩, (Chg.refl _ _).alloc _⟩
theorem own_chg {w w' : World} {B : Nat} {e : TypeId} {size : Nat} {v : Value} {n : Nat} {xs : List Value} (h : w.ownsRow B e size v n xs) (hg : Chg Non w w') : w'.ownsRow B e size v n xs :=
 h.kept (row := none) ⟨hg.os, hg.tape, hg.output, hg.size, fun k hk _ => hg.block k hk (fun e => e)⟩ (by cases v.ownBlock <;> simp)
theorem own_ne {w : World} {B : Nat} {e t : TypeId} {size : Nat} {v : Value} {n g : Nat} {xs : List Value} {cs : Array Value} {fr : Nat × Nat} (h : w.ownsRow B e size v n xs) (hg : w.heap[g]? = some (.cells cs t fr)) (hne : e ≠ t) : v.ownBlock ≠ some g := by
 rcases h.2 with ⟨rfl, _⟩ | ⟨g', cap, cur, rfl, _, hh, _⟩
 ·simp [Value.ownBlock]
 ·intro he
  have : g' = g := by simpa [Value.ownBlock] using he
  subst this
  rw [hg] at hh
  injection hh with hh
  injection hh with _ ht
  exact hne ht.symm
theorem own_reads {B : Nat} {w : World} {v : Value} {l : List UInt8} (h : w.ownsRow B 5 1 v l.length (l.map bv)) : ∃ A c, v = .slice A l.length c ∧ Rd w A l := by
 rcases h.2 with ⟨rfl, h0⟩ | ⟨g, cap, cur, rfl, _⟩
 ·have : l = [] := List.eq_nil_of_length_eq_zero h0
  subst this
  exact ⟨none, 0, rfl, Rd.nil _ _⟩
 ·refine ⟨_, cap, rfl, fun i x hx => ⟨g, 0, rfl, ?_⟩⟩
  have := h.cells (g := g) rfl i (bv x) (by rw [List.getElem?_map, hx]; rfl)
  rw [add_plain] at this
  exact this
theorem news_of {w : World} {b o : Nat} {m : List UInt8} (h : ∀ i (hi : i < m.length), w.cell? ⟨b, o + i, none⟩ = some (.int .u8 (m[i].toNat : Int))) :
  ∀ j u, (m.map bv)[j]? = some u → w.cell? ((⟨b, o, none⟩ : Addr).add j) = some u := by
 intro j u hu
 rw [List.getElem?_map] at hu
 obtain ⟨x, hx, rfl⟩ := Option.map_eq_some_iff.1 hu
 obtain ⟨hj, rfl⟩ := List.getElem?_eq_some_iff.1 hx
 rw [add_plain]
 exact h j hj
theorem bv_one (m : List UInt8) : ∀ u ∈ m.map bv, u.oneCell' = true := by
 intro u hu
 obtain ⟨x, _, rfl⟩ := List.mem_map.1 hu
 rfl
theorem cat_take_len (ps : List (Option Addr × List UInt8 × Nat)) (k : Nat) (h : k < ps.length) : (cat (ps.take (k + 1))).length = (cat (ps.take k)).length + (ps[k]'h).2.1.length := by
 unfold cat
 rw [List.take_succ_eq_append_getElem h, List.map_append, List.flatten_append, List.length_append]
 simp only [List.map_cons, List.map_nil, List.flatten_cons, List.flatten_nil, List.append_nil]
theorem cat_take_le (ps : List (Option Addr × List UInt8 × Nat)) (k : Nat) : (cat (ps.take k)).length ≤ (cat ps).length := by
 have h : cat ps = cat (ps.take k) ++ cat (ps.drop k) := by
  unfold cat
  rw [← List.flatten_append, ← List.map_append, List.take_append_drop]
 rw [h, List.length_append]
 omega
def u64 (n : Int) : Nat := (n % 18446744073709551616).toNat
theorem u64_lt (n : Int) : u64 n < 18446744073709551616 := by unfold u64; omega
theorem u64_cast (n : Int) : ((u64 n : Nat) : Int) = IntKind.u64.wrap n := by
 have : IntKind.u64.wrap n = n % 18446744073709551616 := by simp [IntKind.wrap, IntKind.bits, IntKind.signed]
 rw [this]; unfold u64; omega
end
section
structure Dk where
 up : Bool
 sec : List (List UInt8)
 cache : List (Nat × List UInt8)
 left : Int
 stay : List UInt8
def dirty (m : List (Nat × List UInt8)) : List Nat := (m.map (·.1)).mergeSort (fun a b => decide (a ≤ b))
def look (m : List (Nat × List UInt8)) (i : Nat) : Option (List UInt8) := (m.find? (fun p => p.1 == i)).map (·.2)
def upd (m : List (Nat × List UInt8)) (i : Nat) (l : List UInt8) : List (Nat × List UInt8) :=
 if (m.find? (fun p => p.1 == i)).isSome then m.map (fun p => if p.1 == i then (i, l) else p) else m ++ [(i, l)]
namespace Dk
def at_ (D : Dk) (i : Nat) : List UInt8 := (look D.cache i).getD (D.sec.getD i [])
def spillTo (D : Dk) (stays : Nat → Bool) : Nat → List (List UInt8)
 | 0 => D.sec
 | n + 1 => match (dirty D.cache)[n]? with
  | some k => if stays n then (D.spillTo stays n).set k ((look D.cache k).getD []) else D.spillTo stays n
  | none => D.spillTo stays n
def spill (D : Dk) (stays : Nat → Bool) : Dk := { D with sec := D.spillTo stays D.cache.length, cache := [] }
def bit (stay : List UInt8) (n : Nat) : Bool := decide (n / 8 < stay.length) && ((stay.getD (n / 8) 0).toNat / 2 ^ (n % 8) % 2 == 1)
def fall (D : Dk) (stay : List UInt8) : Dk := { D.spill (bit stay) with up := false, left := 0, stay := [] }
def operate (D : Dk) (do_ : Dk → Dk) : Dk × Int :=
 if D.left = 1 then (D.fall D.stay, 60) else (do_ { D with left := max (D.left - 1) 0 }, 0)
def ready (D : Dk) : Int := if D.up then 0 else 60
def write (D : Dk) (i : Int) (b : List UInt8) : Dk × Int :=
 if D.up = false then (D, 60)
 else if ¬ (0 ≤ i ∧ i < D.sec.length) then (D, 61)
 else if b.length ≠ 64 then (D, 2)
 else D.operate fun D => { D with cache := upd D.cache i.toNat b }
def flush (D : Dk) : Dk × Int :=
 if D.up = false then (D, 60) else D.operate fun D => D.spill fun _ => true
def crash (D : Dk) (stay : List UInt8) : Dk × Int :=
 if D.up = false then (D, 60) else (D.fall stay, 0)
def arm (D : Dk) (n : Int) (stay : List UInt8) : Dk × Int :=
 if D.up = false then (D, 60) else if n < 1 then (D, 2) else ({ D with left := n, stay := stay }, 0)
def start (D : Dk) : Dk × Int :=
 if D.up then (D, 2) else ({ D with up := true }, 0)
def new (n : Nat) : Dk := ⟨true, List.replicate n (List.replicate 64 0), [], 0, []⟩
structure Ok (D : Dk) : Prop where
 secs : ∀ s ∈ D.sec, s.length = 64
 keys : ∀ p ∈ D.cache, p.1 < D.sec.length ∧ p.2.length = 64
 nodup : (D.cache.map (·.1)).Nodup
 most : D.sec.length ≤ 1024
 left0 : 0 ≤ D.left
end Dk
end
section
open Go.RowKit Go.Maps Go.Sort Go.Shelf
def secV (l : List UInt8) : Value := .agg (l.map bv).toArray
def MapIs (w : World) (b : Nat) (m : List (Nat × List UInt8)) : Prop :=
 ∃ es clock, w.heap[b]? = some (.map es clock) ∧ MapKept.Stamped es clock ∧ es.toList.map (fun e => (e.key, e.val)) = m.map (fun p => (Value.int .i64 (p.1 : Int), secV p.2))
def R0 : Value → Option (DataW Unit × List MemPlace) := fun _ => some (.nil, [])
theorem insert_perm {H : Type} (x : Lit × DataW H) (l : List (Lit × DataW H)) : (DataW.insert x l).Perm (x :: l) := by
 induction l with
 | nil => exact List.Perm.refl _
 | cons y r ih =>
  unfold DataW.insert
  split
  ·exact List.Perm.refl _
  ·exact ((ih.cons y).trans (List.Perm.swap _ _ _))
theorem foldr_insert_perm {H : Type} (l : List (Lit × DataW H)) : (l.foldr DataW.insert []).Perm l := by
 induction l with
 | nil => exact List.Perm.refl _
 | cons x r ih => exact (insert_perm x _).trans (ih.cons x)
theorem mapIs_nodup {w : World} {b : Nat} {m : List (Nat × List UInt8)} (h : MapIs w b m) : (m.map (·.1)).Nodup := by
 obtain ⟨es, clock, hb, hs, hm⟩ := h
 have hk : es.toList.map (·.key) = m.map (fun p => Value.int .i64 (p.1 : Int)) := by
  have := congrArg (List.map (·.1)) hm
  simpa [List.map_map, Function.comp_def] using this
 have hn := hs.2.2
 rw [hk, List.Nodup, List.pairwise_map] at hn
 rw [List.Nodup, List.pairwise_map]
 exact hn.imp (fun h e => h (by rw [e]))
theorem mapIs_owns {w : World} {b : Nat} {m : List (Nat × List UInt8)} (h : MapIs w b m) (hk : ∀ p ∈ m, p.1 < 9223372036854775808) (hsz : m.length ≤ maxLen) :
  ∃ D0 : DataW Unit, w.ownsMap Tryz.prog 3 R0 b m.length D0 ∧ Maps.size D0 = m.length ∧ (intKeys D0).Perm (m.map fun p => (p.1 : Int)) := by
 obtain ⟨es, clock, hb, hs, hm⟩ := h
 have hlen : es.size = m.length := by
  have := congrArg List.length hm
  simpa using this
 have hkey : ∀ e ∈ es.toList, ∃ p ∈ m, e.key = .int .i64 (p.1 : Int) ∧ e.val = secV p.2 := by
  intro e he
  have : (e.key, e.val) ∈ m.map (fun p => (Value.int .i64 (p.1 : Int), secV p.2)) := by rw [← hm]; exact List.mem_map.2 ⟨e, he, rfl⟩
  obtain ⟨p, hp, e'⟩ := List.mem_map.1 this
  exact ⟨p, hp, (Prod.mk.inj e').1.symm, (Prod.mk.inj e').2.symm⟩
 have hrd : ∀ e ∈ es.toList, ∀ p ∈ m, e.key = .int .i64 (p.1 : Int) → Go.WideElems.rd Tryz.prog 3 R0 e = some (.int .i64 (p.1 : Int), .nil) := by
  intro e he p hp hek
  have hwf : (Lit.int .i64 (p.1 : Int)).wf = true := WalkArith.wf_i64 (by have := hk p hp; omega)
  unfold Go.WideElems.rd
  rw [hek, Go.Maps.keyOf_int_mk Tryz.underlying3 hwf]
  rfl
 have hrg : es.toList.map (Go.WideElems.rg Tryz.prog 3 R0) = m.map fun p => (Lit.int .i64 (p.1 : Int), (DataW.nil : DataW Unit)) := by
  have h1 : es.toList.map (Go.WideElems.rg Tryz.prog 3 R0) = (es.toList.map (fun e => (e.key, e.val))).map (fun q => (match q.1 with | .int _ n => Lit.int .i64 n | _ => Lit.bool false, (DataW.nil : DataW Unit))) := by
   rw [List.map_map]
   apply List.map_congr_left
   intro e he
   obtain ⟨p, hp, h1, h2⟩ := hkey e he
   simp only [Go.WideElems.rg, hrd e he p hp h1, Option.getD_some, Function.comp, h1]
  rw [h1, hm, List.map_map]
  rfl
 refine ⟨.map ((es.toList.map (Go.WideElems.rg Tryz.prog 3 R0)).foldr DataW.insert []), ⟨es, clock, hb, ⟨by omega, hs, fun e he => ?_⟩, by omega, rfl⟩, ?_, ?_⟩
 ·obtain ⟨p, hp, h1, _⟩ := hkey e he
  exact ⟨_, hrd e he p hp h1⟩
 ·have := (foldr_insert_perm (es.toList.map (Go.WideElems.rg Tryz.prog 3 R0))).length_eq
  simp only [Maps.size]
  rw [this, hrg, List.length_map]
 ·rw [hrg]
  simp only [intKeys]
  refine ((foldr_insert_perm _).map _).trans ?_
  rw [List.map_map]
  exact List.Perm.refl _
theorem dirty_perm (m : List (Nat × List UInt8)) : (dirty m).Perm (m.map (·.1)) := List.mergeSort_perm _ _
theorem dirty_length (m : List (Nat × List UInt8)) : (dirty m).length = m.length := by rw [(dirty_perm m).length_eq, List.length_map]
theorem dirty_sorted (m : List (Nat × List UInt8)) : (dirty m).Pairwise (· ≤ ·) := by
 have := List.pairwise_mergeSort (le := fun a b : Nat => decide (a ≤ b)) (by intro a b c; simp; omega) (by intro a b; simp; omega) (m.map (·.1))
 exact this.imp (fun h => by simpa using h)
theorem dirty_cast (m : List (Nat × List UInt8)) (ss : List Int) (h : ss.Perm (m.map fun p => (p.1 : Int))) : (ss.mergeSort fun x y => decide (x ≤ y)) = (dirty m).map (fun k : Nat => (k : Int)) := by
 have h1 : ss.Perm ((dirty m).map (fun k : Nat => (k : Int))) := by
  refine h.trans ?_
  have := (dirty_perm m).symm.map (fun k : Nat => (k : Int))
  rw [List.map_map] at this
  exact this
 have h2 : (ss.mergeSort fun x y => decide (x ≤ y)) = ((dirty m).map (fun k : Nat => (k : Int))).mergeSort fun x y => decide (x ≤ y) := mergeSort_of_perm_i h1
 rw [h2]
 refine List.mergeSort_of_pairwise ?_
 rw [List.pairwise_map]
 exact (dirty_sorted m).imp (fun h => by simpa using h)
theorem sortsA (m : Nat) : AnyZI.SortsIn Tryz.prog Tryz.sortedA_ren Fence.wide m :=
 ⟨fun blk off cap ss W hH hblk hsz => callsIn_wide.2 (AnyM.slices_Sort_int Tryz.sortA blk off cap ss W hH hblk hsz),
  fun p cap W => callsIn_wide.2 (AnyM.slices_Sort_int_none Tryz.sortA p cap W)⟩
theorem keys_in (mb : Option Nat) (W : World) : Calls Tryz.prog 63 #[.map mb] W fun e w' => e = .returned (.func (.func 108) #[] #[.pointer (some ⟨W.heap.size, 0, none⟩)]) ∧ w' = W.alloc (.cells #[.map mb] 38) :=
 (callsIn_wide (n := 5)).1 (AnyZI.keys_in Tryz.keysA Fence.wide 5 trivial rfl mb W)
theorem sorted_keys (b : Nat) (m : List (Nat × List UInt8)) (w : World) (hm : MapIs w b m) (hk : ∀ p ∈ m, p.1 < 1024) (hsz : m.length ≤ 1024) :
  Calls Tryz.prog 62 #[.func (.func 108) #[] #[.pointer (some ⟨w.heap.size, 0, none⟩)]] (w.alloc (.cells #[.map (some b)] 38)) fun e w' => ∃ v, e = .returned v ∧
   w'.ownsRow w.heap.size 3 1 v (dirty m).length ((dirty m).map fun k : Nat => Value.int .i64 (k : Int)) ∧ Chg Non w w' := by
 obtain ⟨D0, hown, hmz, hperm⟩ := mapIs_owns hm (fun p hp => by have := hk p hp; omega) (by unfold maxLen; omega)
 have hbl := hown.lt
 have hseq : SeqGives Fence.wide 2 Tryz.prog 108 #[.pointer (some ⟨w.heap.size, 0, none⟩)] encZ (fun ss => ss.Perm (intKeys D0)) (Maps.size D0) (w.alloc (.cells #[.map (some b)] 38)) :=
  AnyZI.keys_gives (ρ := Tryz.keysA_ren) { Tryz.keysA with } Fence.wide _ trivial rfl (by omega) w.heap.size b m.length D0 _ (by simp) (by simp) (by
    obtain ⟨es, clock, hb, Ft, hs, hD⟩ := hown
    exact ⟨es, clock, (Below.heap_alloc _ _ b hbl).trans hb, Ft, hs, hD⟩)
 have cS := AnyZI.sorted_in Tryz.sortedA Fence.wide 5 trivial trivial trivial trivial rfl (by omega) (sortsA _) (enters_of Tryz.func107 (by kernel_rfl) rfl) 108 #[.pointer (some ⟨w.heap.size, 0, none⟩)] trivial (enters_of Tryz.func108 (by kernel_rfl) rfl) _ _ (by rw [hmz]; unfold maxLen; omega) (by rw [hmz]; omega) _ hseq
 change CallsIn _ _ Tryz.prog 62 _ _ _ at cS
 refine ((callsIn_wide (n := 5)).1 cS).mono ?_
 rintro e w' ⟨v, ss, rfl, hS, hrow, hnil, hb⟩
 refine ⟨v, rfl, ?_, .of_below (((Below.refl _ w).alloc (Nat.le_refl _) _).trans (hb.mono (by simp))) (Nat.le_refl _)⟩
 have hp := hS.trans hperm
 have hd := dirty_cast m ss hp
 have hl : ss.length = (dirty m).length := by rw [hp.length_eq, List.length_map, dirty_length]
 rw [hd, hl, List.map_map] at hrow
 exact ownsRow_base_a hrow (by simp)
end
section
open Go.RowKit Go.Maps
def zSec : Array Value := Array.replicate 64 (.int .u8 0)
theorem look_mem {m : List (Nat × List UInt8)} {p : Nat × List UInt8} (hn : (m.map (·.1)).Nodup) (hp : p ∈ m) : look m p.1 = some p.2 := by
 unfold look
 induction m with
 | nil => cases hp
 | cons q r ih =>
  rw [List.map_cons, List.nodup_cons] at hn
  rw [List.find?_cons]
  rcases List.mem_cons.1 hp with rfl | hr
  ·simp
  ·have hne : q.1 ≠ p.1 := fun e => hn.1 (by rw [e]; exact List.mem_map.2 ⟨p, hr, rfl⟩)
   simp only [beq_eq_false_iff_ne.2 hne]
   exact ih hn.2 hr
theorem look_none {m : List (Nat × List UInt8)} {i : Nat} (h : ∀ p ∈ m, p.1 ≠ i) : look m i = none := by
 unfold look
 rw [List.find?_eq_none.2 (fun p hp => by simpa using h p hp)]
 rfl
theorem key_i64 (i : Nat) (h : i < 9223372036854775808) : keyOf Tryz.prog 3 (.int .i64 (i : Int)) = some (.int .i64 (i : Int)) :=
 Go.Maps.keyOf_int_mk Tryz.underlying3 (WalkArith.wf_i64 (by omega))
theorem intK : Keyed Tryz.prog 3 := Go.Maps.int_keyed Tryz.underlying3
theorem map_at {es : Array MapEntry} {m : List (Nat × List UInt8)} (hm : es.toList.map (fun e => (e.key, e.val)) = m.map (fun p => (Value.int .i64 (p.1 : Int), secV p.2))) {j : Nat} {e : MapEntry} (he : es.toList[j]? = some e) :
  ∃ p, m[j]? = some p ∧ e.key = .int .i64 (p.1 : Int) ∧ e.val = secV p.2 := by
 have h1 : (es.toList.map (fun e => (e.key, e.val)))[j]? = some (e.key, e.val) := by rw [List.getElem?_map, he]; rfl
 rw [hm, List.getElem?_map] at h1
 obtain ⟨p, hp, e'⟩ := Option.map_eq_some_iff.1 h1
 exact ⟨p, hp, (Prod.mk.inj e').1.symm, (Prod.mk.inj e').2.symm⟩
theorem keys_ok {es : Array MapEntry} {m : List (Nat × List UInt8)} (hm : es.toList.map (fun e => (e.key, e.val)) = m.map (fun p => (Value.int .i64 (p.1 : Int), secV p.2))) (hk : ∀ p ∈ m, p.1 < 1024) :
  ∀ e ∈ es.toList, ∃ l, keyOf Tryz.prog 3 e.key = some l := by
 intro e he
 obtain ⟨j, hj⟩ := List.getElem?_of_mem he
 obtain ⟨p, hp, h1, _⟩ := map_at hm hj
 rw [h1]
 exact ⟨_, key_i64 p.1 (by have := hk p (List.mem_of_getElem? hp); omega)⟩
theorem i64_inj {a b : Nat} (h : Value.int .i64 (a : Int) = Value.int .i64 (b : Int)) : a = b := by
 have h2 : (a : Int) = (b : Int) := by injection h
 exact Int.natCast_inj.1 h2
theorem find_run {w W : World} {b : Nat} {m : List (Nat × List UInt8)} {es : Array MapEntry} (hs : (es.toList.map (·.key)).Nodup) (hm : es.toList.map (fun e => (e.key, e.val)) = m.map (fun p => (Value.int .i64 (p.1 : Int), secV p.2)))
  (hmn : (m.map (·.1)).Nodup) (hk : ∀ p ∈ m, p.1 < 1024) (i : Nat) (hi : i < 1024) :
  ((Instr.findKey 3 (.int .i64 (i : Int)) es.toList).run Tryz.prog W = .ok none W ∧ ∀ p ∈ m, p.1 ≠ i) ∨
  ∃ j e p, (Instr.findKey 3 (.int .i64 (i : Int)) es.toList).run Tryz.prog W = .ok (some (j, secV p.2)) W ∧ es.toList[j]? = some e ∧ e.key = .int .i64 (i : Int) ∧ m[j]? = some p ∧ p.1 = i ∧ e.val = secV p.2 := by
 rcases intK.find W (key_i64 i (by omega)) es.toList (keys_ok hm hk) with ⟨h1, h2⟩ | ⟨j, e, h1, h2, h3⟩
 ·refine .inl ⟨h1, fun p hp hpi => ?_⟩
  obtain ⟨j, hj⟩ := List.getElem?_of_mem hp
  have hlen : es.toList.length = m.length := by have := congrArg List.length hm; simpa using this
  have hjl : j < es.toList.length := by rw [hlen]; exact (List.getElem?_eq_some_iff.1 hj).1
  obtain ⟨q, hq, hk1, _⟩ := map_at hm (List.getElem?_eq_getElem hjl)
  rw [hj] at hq
  injection hq with hq
  subst hq
  exact h2 _ (List.getElem_mem hjl) (by rw [hk1, hpi])
 ·obtain ⟨p, hp, hk1, hv⟩ := map_at hm h2
  refine .inr ⟨j, e, p, by rw [h1, hv], h2, h3, hp, ?_, hv⟩
  exact (i64_inj (h3.symm.trans hk1)).symm
theorem run_lookup {w : World} {b : Nat} {m : List (Nat × List UInt8)} (h : MapIs w b m) (hk : ∀ p ∈ m, p.1 < 1024) (i : Nat) (hi : i < 1024) (W : World) (hW : W.heap[b]? = w.heap[b]?) (ok : Bool) :
  (Instr.lookup 38 (.map (some b)) (.int .i64 (i : Int)) ok).run Tryz.prog W =
   .ok (let v := match look m i with | some l => secV l | none => .agg zSec
        if ok then .tuple #[v, .bool (look m i).isSome] else v) W := by
 have hn := mapIs_nodup h
 obtain ⟨es, clock, hb, hs, hm⟩ := h
 have hb' : W.heap[b]? = some (.map es clock) := hW.trans hb
 rcases find_run (w := w) (W := W) (b := b) hs.2.2 hm hn hk i hi with ⟨h1, h2⟩ | ⟨j, e, p, h1, h2, h3, h4, h5, h6⟩
 ·have hl := look_none h2
  cases ok <;> simp [Instr.lookup, run_underlying Tryz.underlying38, getObj, Sem.run, hb', intK.check W _ (key_i64 i (by omega)), h1, hl] <;> rfl
 ·have hl : look m i = some p.2 := by rw [← h5]; exact look_mem hn (List.mem_of_getElem? h4)
  cases ok <;> simp [Instr.lookup, run_underlying Tryz.underlying38, getObj, Sem.run, hb', intK.check W _ (key_i64 i (by omega)), h1, hl]
theorem upd_none {m : List (Nat × List UInt8)} {i : Nat} {l : List UInt8} (h : ∀ p ∈ m, p.1 ≠ i) : upd m i l = m ++ [(i, l)] := by
 unfold upd
 rw [List.find?_eq_none.2 (fun p hp => by simpa using h p hp)]
 rfl
theorem upd_some {m : List (Nat × List UInt8)} {i j : Nat} {l : List UInt8} {p : Nat × List UInt8} (hn : (m.map (·.1)).Nodup) (hj : m[j]? = some p) (hp : p.1 = i) : upd m i l = m.set j (i, l) := by
 have hm : p ∈ m := List.mem_of_getElem? hj
 have hf : (m.find? (fun q => q.1 == i)).isSome = true := by
  rw [List.find?_isSome]; exact ⟨p, hm, by simp [hp]⟩
 unfold upd
 rw [if_pos hf]
 apply List.ext_getElem?
 intro k
 rw [List.getElem?_map, List.getElem?_set]
 have hjl : j < m.length := (List.getElem?_eq_some_iff.1 hj).1
 by_cases hkj : j = k
 ·subst hkj
  obtain ⟨_, hmj⟩ := List.getElem?_eq_some_iff.1 hj
  simp [hmj, hp, hjl]
 ·simp only [hkj, if_false]
  cases hk : m[k]? with
  | none => rfl
  | some q =>
   have hne : q.1 ≠ i := by
    intro e
    have h1 : (m.map (·.1))[k]? = some i := by rw [List.getElem?_map, hk, Option.map_some, e]
    have h2 : (m.map (·.1))[j]? = some i := by rw [List.getElem?_map, hj, Option.map_some, hp]
    have hkl : k < m.length := (List.getElem?_eq_some_iff.1 hk).1
    exact hkj ((List.getElem?_inj (by simpa using hjl) hn).1 (h2.trans h1.symm))
   simp [hne]
theorem run_update {w : World} {b : Nat} {m : List (Nat × List UInt8)} (h : MapIs w b m) (hk : ∀ p ∈ m, p.1 < 1024) (i : Nat) (hi : i < 1024) (l : List UInt8) :
  ∃ w', (Instr.mapUpdate 38 (.map (some b)) (.int .i64 (i : Int)) (secV l)).run Tryz.prog w = .ok () w' ∧ MapIs w' b (upd m i l) ∧ Chg (fun k => k = b) w w' := by
 have hn := mapIs_nodup h
 obtain ⟨es, clock, hb, hs, hm⟩ := h
 have hbl : b < w.heap.size := (Array.getElem?_eq_some_iff.1 hb).1
 have hset : ∀ o, ({ w with heap := w.heap.setIfInBounds b o } : World).heap[b]? = some o := fun o => by simp [hbl]
 have hchg : ∀ o, Chg (fun k => k = b) w { w with heap := w.heap.setIfInBounds b o } := fun o => ⟨rfl, rfl, rfl, by simp, fun k hkl hne => by simp [Ne.symm hne]⟩
 rcases find_run (w := w) (W := w) (b := b) hs.2.2 hm hn hk i hi with ⟨h1, h2⟩ | ⟨j, e, p, h1, h2, h3, h4, h5, h6⟩
 ·refine ⟨{ w with heap := w.heap.setIfInBounds b (.map (es.push { key := .int .i64 (i : Int), val := secV l, born := clock }) (clock + 1)) }, ?_, ⟨_, _, hset _, ?_, ?_⟩, hchg _⟩
  ·simp [Instr.mapUpdate, run_underlying Tryz.underlying38, getObj, setObj, Sem.run, hb, intK.check w _ (key_i64 i (by omega)), h1]
  ·obtain ⟨s1, s2, s3⟩ := hs
   refine ⟨?_, ?_, ?_⟩
   ·intro x hx
    simp only [Array.toList_push, List.mem_append, List.mem_singleton] at hx
    rcases hx with hx | rfl
    ·have := s1 x hx; omega
    ·simp
   ·simp only [Array.toList_push, List.map_append, List.map_cons, List.map_nil]
    refine List.nodup_append.2 ⟨s2, by simp, ?_⟩
    rintro a ha b hb' rfl
    simp only [List.mem_singleton] at hb'
    obtain ⟨x, hx, rfl⟩ := List.mem_map.1 ha
    have := s1 x hx; omega
   ·simp only [Array.toList_push, List.map_append, List.map_cons, List.map_nil]
    refine List.nodup_append.2 ⟨s3, by simp, ?_⟩
    rintro a ha b hb' rfl
    simp only [List.mem_singleton] at hb'
    obtain ⟨x, hx, hxk⟩ := List.mem_map.1 ha
    obtain ⟨j, hj⟩ := List.getElem?_of_mem hx
    obtain ⟨q, hq, hk1, _⟩ := map_at hm hj
    exact h2 q (List.mem_of_getElem? hq) (i64_inj ((hb'.symm.trans (hxk.symm.trans hk1)))).symm
  ·rw [upd_none h2]
   simp only [Array.toList_push, List.map_append, List.map_cons, List.map_nil, hm]
 ·have hjl : j < es.size := by simpa using (List.getElem?_eq_some_iff.1 h2).1
  have he : es[j]? = some e := by simpa using h2
  obtain ⟨_, hej⟩ := Array.getElem?_eq_some_iff.1 he
  refine ⟨{ w with heap := w.heap.setIfInBounds b (.map (es.modify j fun e => { e with key := .int .i64 (i : Int), val := secV l }) clock) }, ?_, ⟨_, _, hset _, ?_, ?_⟩, hchg _⟩
  ·have hks := intK.stays w (key_i64 i (by omega))
   simp [Instr.mapUpdate, run_underlying Tryz.underlying38, getObj, setObj, Sem.run, hb, intK.check w _ (key_i64 i (by omega)), h1, he, h3, hks]
  ·obtain ⟨s1, s2, s3⟩ := hs
   have hmod : (es.modify j fun e => { e with key := .int .i64 (i : Int), val := secV l }).toList = es.toList.set j { e with key := .int .i64 (i : Int), val := secV l } := by
    apply List.ext_getElem?
    intro k
    rw [Array.getElem?_toList, Array.getElem?_modify, List.getElem?_set, Array.getElem?_toList]
    by_cases hkj : j = k
    ·subst hkj; simp [hjl, hej]
    ·simp [hkj]
   have hborn : (es.toList.set j { e with key := .int .i64 (i : Int), val := secV l }).map (·.born) = es.toList.map (·.born) := by
    apply List.ext_getElem?
    intro k
    rw [List.getElem?_map, List.getElem?_map, List.getElem?_set]
    by_cases hkj : j = k
    ·subst hkj; simp [hjl, hej]
    ·simp [hkj]
   have hkey : (es.toList.set j { e with key := .int .i64 (i : Int), val := secV l }).map (·.key) = es.toList.map (·.key) := by
    apply List.ext_getElem?
    intro k
    rw [List.getElem?_map, List.getElem?_map, List.getElem?_set]
    by_cases hkj : j = k
    ·subst hkj; simp [hjl, hej, h3]
    ·simp [hkj]
   refine ⟨?_, ?_, ?_⟩
   ·intro x hx
    rw [hmod] at hx
    have : x.born ∈ es.toList.map (·.born) := by rw [← hborn]; exact List.mem_map.2 ⟨x, hx, rfl⟩
    obtain ⟨y, hy, hxy⟩ := List.mem_map.1 this
    have := s1 y hy
    omega
   ·rw [hmod, hborn]; exact s2
   ·rw [hmod, hkey]; exact s3
  ·have hmod : (es.modify j fun e => { e with key := .int .i64 (i : Int), val := secV l }).toList = es.toList.set j { e with key := .int .i64 (i : Int), val := secV l } := by
    apply List.ext_getElem?
    intro k
    rw [Array.getElem?_toList, Array.getElem?_modify, List.getElem?_set, Array.getElem?_toList]
    by_cases hkj : j = k
    ·subst hkj; simp [hjl, hej]
    ·simp [hkj]
   rw [hmod, upd_some hn h4 h5]
   rw [List.map_set, List.map_set, hm]
theorem run_clear {w : World} {b : Nat} {m : List (Nat × List UInt8)} (h : MapIs w b m) :
  ∃ w', (Builtin.clear_ #[38] 0 #[.map (some b)]).run Tryz.prog w = .ok (.tuple #[]) w' ∧ MapIs w' b [] ∧ Chg (fun k => k = b) w w' := by
 obtain ⟨es, clock, hb, hs, hm⟩ := h
 have hbl : b < w.heap.size := (Array.getElem?_eq_some_iff.1 hb).1
 refine ⟨{ w with heap := w.heap.setIfInBounds b (.map #[] clock) }, ?_, ⟨#[], clock, by simp [hbl], ⟨by simp, by simp, by simp⟩, by simp⟩, ⟨rfl, rfl, rfl, by simp, fun k hkl hne => by simp [Ne.symm hne]⟩⟩
 simp [Builtin.clear_, run_underlying Tryz.underlying38, getObj, setObj, Sem.run, hb]
end
section
open Go.RowKit
def DS (pd ps pm : Nat) : Nat → Prop := fun k => k = pd ∨ k = ps ∨ k = pm
def dCells (D : Dk) (ps pm : Nat) (A : Option Addr) (c : Nat) : Array Value :=
 #[.bool D.up, .slice (some ⟨ps, 0, none⟩) D.sec.length D.sec.length, .map (some pm), .int .i64 D.left, .slice A D.stay.length c]
def IsD (w : World) (pd ps pm : Nat) (D : Dk) : Prop :=
 D.Ok ∧ ∃ A c, w.heap[pd]? = some (.cells (dCells D ps pm A c) 40 (0, 0)) ∧ w.heap[ps]? = some (.cells (D.sec.flatten.map bv).toArray 113 (0, 0)) ∧ MapIs w pm D.cache ∧
  Rd w A D.stay ∧ (∀ b o, A = some ⟨b, o, none⟩ → D.stay ≠ [] → b ≠ ps) ∧ D.stay.length ≤ c ∧ c ≤ maxLen
theorem IsD.lt {w : World} {pd ps pm : Nat} {D : Dk} (h : IsD w pd ps pm D) : pd < w.heap.size ∧ ps < w.heap.size ∧ pm < w.heap.size := by
 obtain ⟨_, A, c, h1, h2, ⟨es, ck, h3, _⟩, _⟩ := h
 exact ⟨(Array.getElem?_eq_some_iff.1 h1).1, (Array.getElem?_eq_some_iff.1 h2).1, (Array.getElem?_eq_some_iff.1 h3).1⟩
theorem IsD.ne {w : World} {pd ps pm : Nat} {D : Dk} (h : IsD w pd ps pm D) : pd ≠ ps ∧ pd ≠ pm ∧ ps ≠ pm := by
 obtain ⟨_, A, c, h1, h2, ⟨es, ck, h3, _⟩, _⟩ := h
 refine ⟨?_, ?_, ?_⟩
 ·rintro rfl; rw [h1] at h2; injection h2 with h2; injection h2 with _ h2; exact absurd h2 (by decide)
 ·rintro rfl; rw [h1] at h3; injection h3 with h3; cases h3
 ·rintro rfl; rw [h2] at h3; injection h3 with h3; cases h3
theorem MapIs.keep {S : Nat → Prop} {w w' : World} {b : Nat} {m : List (Nat × List UInt8)} (h : MapIs w b m) (hg : Chg S w w') (hb : ¬ S b) : MapIs w' b m := by
 obtain ⟨es, ck, h1, h2⟩ := h
 exact ⟨es, ck, (hg.block b (Array.getElem?_eq_some_iff.1 h1).1 hb).trans h1, h2⟩
theorem stay_ne {w : World} {pd pm : Nat} {A : Option Addr} {l : List UInt8} {D : Dk} {ps c : Nat} {A' : Option Addr} (h1 : w.heap[pd]? = some (.cells (dCells D ps pm A' c) 40 (0, 0))) {m : List (Nat × List UInt8)} (hm : MapIs w pm m) (hr : Rd w A l) :
  ∀ b o, A = some ⟨b, o, none⟩ → l ≠ [] → b ≠ pd ∧ b ≠ pm := by
 rintro b o rfl hne
 obtain ⟨x, r, rfl⟩ := List.exists_cons_of_ne_nil hne
 obtain ⟨b', o', e, hc⟩ := hr 0 x rfl
 injection e with e
 injection e with e1 e2
 subst e1 e2
 refine ⟨?_, ?_⟩
 ·rintro rfl
  rw [cell_of_row _ _ _ _ _ _ h1, dCells] at hc
  match o + 0, hc with
  | 0, hc => simp at hc
  | 1, hc => simp at hc
  | 2, hc => simp at hc
  | 3, hc => simp at hc
  | 4, hc => simp at hc
  | n + 5, hc => simp at hc
 ·rintro rfl
  obtain ⟨es, ck, h2, _⟩ := hm
  simp [World.cell?, h2] at hc
theorem IsD.keep {S : Nat → Prop} {w w' : World} {pd ps pm : Nat} {D : Dk} (h : IsD w pd ps pm D) (hg : Chg S w w') (hS : ∀ k, k < w.heap.size → S k → k ≠ pd ∧ k ≠ ps ∧ k ≠ pm)
  (hstay : ∀ A c, w.heap[pd]? = some (.cells (dCells D ps pm A c) 40 (0, 0)) → ∀ b o, A = some ⟨b, o, none⟩ → D.stay ≠ [] → ¬ S b) : IsD w' pd ps pm D := by
 obtain ⟨hok, A, c, h1, h2, h3, h4, h5⟩ := h
 have l1 := (Array.getElem?_eq_some_iff.1 h1).1
 have l2 := (Array.getElem?_eq_some_iff.1 h2).1
 have l3 : pm < w.heap.size := by obtain ⟨_, _, h, _⟩ := h3; exact (Array.getElem?_eq_some_iff.1 h).1
 exact ⟨hok, A, c, (hg.block pd l1 (fun e => (hS pd l1 e).1 rfl)).trans h1, (hg.block ps l2 (fun e => (hS ps l2 e).2.1 rfl)).trans h2, h3.keep hg (fun e => (hS pm l3 e).2.2 rfl), h4.keep hg (hstay A c h1), h5⟩
theorem IsD.non {w w' : World} {pd ps pm : Nat} {D : Dk} (h : IsD w pd ps pm D) (hg : Chg Non w w') : IsD w' pd ps pm D :=
 h.keep hg (fun _ _ e => e.elim) (fun _ _ _ _ _ _ _ e => e)
theorem IsD.cells {w : World} {pd ps pm : Nat} {D : Dk} (h : IsD w pd ps pm D) : ∃ A c,
  w.cell? ⟨pd, 0, none⟩ = some (.bool D.up) ∧ w.cell? ⟨pd, 1, none⟩ = some (.slice (some ⟨ps, 0, none⟩) D.sec.length D.sec.length) ∧ w.cell? ⟨pd, 2, none⟩ = some (.map (some pm)) ∧
  w.cell? ⟨pd, 3, none⟩ = some (.int .i64 D.left) ∧ w.cell? ⟨pd, 4, none⟩ = some (.slice A D.stay.length c) ∧ Rd w A D.stay ∧ D.stay.length ≤ c ∧ c ≤ maxLen := by
 obtain ⟨hok, A, c, h1, h2, h3, h4, h5, h6, h7⟩ := h
 exact ⟨A, c, by rw [cell_of_row _ _ _ _ _ _ h1]; rfl, by rw [cell_of_row _ _ _ _ _ _ h1]; rfl, by rw [cell_of_row _ _ _ _ _ _ h1]; rfl, by rw [cell_of_row _ _ _ _ _ _ h1]; rfl, by rw [cell_of_row _ _ _ _ _ _ h1]; rfl, h4, h6, h7⟩
theorem IsD.free {w : World} {pd ps pm : Nat} {D : Dk} (h : IsD w pd ps pm D) (i : Nat) : w.frozen? ⟨pd, i, none⟩ = false := by
 obtain ⟨hok, A, c, h1, _⟩ := h
 exact frozen_of_row _ _ _ _ _ h1
theorem IsD.set {w : World} {pd ps pm : Nat} {D D' : Dk} (h : IsD w pd ps pm D) (i : Nat) (v : Value) (hs : D'.sec = D.sec) (hc : D'.cache = D.cache) (hst : D'.stay = D.stay) (hok : D'.Ok)
  (hv : ∀ A c, (dCells D ps pm A c).setIfInBounds i v = dCells D' ps pm A c) : IsD (w.setCell ⟨pd, i, none⟩ v) pd ps pm D' := by
 have hne := h.ne
 obtain ⟨_, A, c, h1, h2, h3, h4, h5, h6, h7⟩ := h
 have hg : Chg (fun k => k = pd) w (w.setCell ⟨pd, i, none⟩ v) := (Chg.refl (fun k => k = pd) _).setCell (p := ⟨pd, i, none⟩) (.inl rfl) _
 refine ⟨hok, A, c, ?_, ?_, ?_, ?_, by rw [hst]; exact h5, by rw [hst]; exact h6, h7⟩
 ·rw [heap_setCell_same _ _ _ _ _ _ h1, hv]
 ·rw [hs]; exact (hg.block ps (Array.getElem?_eq_some_iff.1 h2).1 (Ne.symm hne.1)).trans h2
 ·rw [hc]; exact h3.keep hg (Ne.symm hne.2.1)
 ·rw [hst]; exact h4.keep hg (fun b o e hne' => (stay_ne h1 h3 h4 b o e hne').1)
theorem dnone_ok (pd ps pm : Nat) (D : Dk) (w : World) (h : IsD w pd ps pm D) :
  Calls Tryz.prog 48 #[.pointer (some ⟨pd, 0, none⟩)] w fun e w' => e = .returned (.bool false) ∧ w = w' := by
 obtain ⟨A, c, _, _, h2, _⟩ := h.cells
 have he : ∀ (W : World) (r : Option Nat), (binOp .eql 38 (.map r) (.map none)).run Tryz.prog W = .ok (.bool r.isNone) W := fun W r => run_eql_map_nil W _ _ _ r Tryz.underlying38
 go_enter Tryz.func48, Tryz.ntmps48
 go_wp2
 go_ret
 exact ⟨rfl, rfl⟩
theorem ready_ok (pd ps pm : Nat) (D : Dk) (w : World) (h : IsD w pd ps pm D) :
  Calls Tryz.prog 52 #[.pointer (some ⟨pd, 0, none⟩)] w fun e w' => e = .returned (.int .i64 D.ready) ∧ w = w' := by
 obtain ⟨A, c, h0, _⟩ := h.cells
 have hn := dnone_ok pd ps pm D w h
 have HN := Lh hn
 clear hn
 unfold Dk.ready
 obtain ⟨u, hu⟩ : ∃ u, D.up = u := ⟨_, rfl⟩
 rw [hu] at h0 ⊢
 clear hu
 cases u with
 | true =>
  go_enter Tryz.func52, Tryz.ntmps52
  go_wp2_with fail
  refine HN.out.mono ?_
  rintro e w' ⟨rfl, rfl⟩
  go_wp2
  go_ret
  exact ⟨rfl, rfl⟩
 | false =>
  go_enter Tryz.func52, Tryz.ntmps52
  go_wp2_with fail
  refine HN.out.mono ?_
  rintro e w' ⟨rfl, rfl⟩
  go_wp2
  go_ret
  exact ⟨rfl, rfl⟩
theorem Len_ok (pd ps pm : Nat) (D : Dk) (w : World) (h : IsD w pd ps pm D) :
  Calls Tryz.prog 29 #[.pointer (some ⟨pd, 0, none⟩)] w fun e w' => e = .returned (.int .i64 (D.sec.length : Nat)) ∧ w = w' := by
 obtain ⟨A, c, _, h1, _⟩ := h.cells
 have HN := Lh (dnone_ok pd ps pm D w h)
 go_enter Tryz.func29, Tryz.ntmps29
 go_wp2_with fail
 refine HN.out.mono ?_
 rintro e w' ⟨rfl, rfl⟩
 go_wp2
 go_ret
 exact ⟨rfl, rfl⟩
theorem has_ok (pd ps pm : Nat) (D : Dk) (i : Int) (w : World) (h : IsD w pd ps pm D) :
  Calls Tryz.prog 53 #[.pointer (some ⟨pd, 0, none⟩), .int .i64 i] w fun e w' => e = .returned (.bool (decide (0 ≤ i ∧ i < D.sec.length))) ∧ w = w' := by
 have HN := Lh (Len_ok pd ps pm D w h)
 by_cases h0 : 0 ≤ i
 ·by_cases h1 : i < D.sec.length
  ·rw [decide_eq_true (show 0 ≤ i ∧ i < D.sec.length from ⟨h0, h1⟩)]
   go_enter Tryz.func53, Tryz.ntmps53
   go_wp2_with fail
   refine HN.out.mono ?_
   rintro e w' ⟨rfl, rfl⟩
   go_wp2
   go_ret
   exact ⟨rfl, rfl⟩
  ·rw [decide_eq_false (show ¬ (0 ≤ i ∧ i < D.sec.length) from fun e => h1 e.2)]
   have hd : decide (i < (D.sec.length : Int)) = false := by simp; omega
   go_enter Tryz.func53, Tryz.ntmps53
   go_wp2_with fail
   refine HN.out.mono ?_
   rintro e w' ⟨rfl, rfl⟩
   go_wp2
   go_ret
   exact ⟨rfl, rfl⟩
 ·rw [decide_eq_false (show ¬ (0 ≤ i ∧ i < D.sec.length) from fun e => h0 e.1)]
  have hd : decide (0 ≤ i) = false := by simp; omega
  go_enter Tryz.func53, Tryz.ntmps53
  go_wp2
  go_ret
  exact ⟨rfl, rfl⟩
theorem Up_ok (pd ps pm : Nat) (D : Dk) (w : World) (h : IsD w pd ps pm D) :
  Calls Tryz.prog 14 #[.pointer (some ⟨pd, 0, none⟩)] w fun e w' => e = .returned (.bool D.up) ∧ w = w' := by
 obtain ⟨A, c, h0, _⟩ := h.cells
 have HN := Lh (dnone_ok pd ps pm D w h)
 go_enter Tryz.func14, Tryz.ntmps14
 go_wp2_with fail
 refine HN.out.mono ?_
 rintro e w' ⟨rfl, rfl⟩
 go_wp2
 go_ret
 exact ⟨rfl, rfl⟩
end
section
def tst (c : Nat) : Nat := (c / 2) ^^^ (3988292384 * (c % 2))
def tw : Nat → Nat → Nat
 | 0, k => k
 | j + 1, k => tst (tw j k)
theorem tst_lt (c : Nat) (h : c < 4294967296) : tst c < 4294967296 := by
 unfold tst
 exact Nat.xor_lt_two_pow (n := 32) (by omega) (by have := Nat.mod_lt c (show 0 < 2 by omega); omega)
theorem tw_lt (j k : Nat) (h : k < 4294967296) : tw j k < 4294967296 := by
 induction j with
 | zero => exact h
 | succ j ih => exact tst_lt _ ih
def half (c : Nat) : Nat := (c / 16) ^^^ tw 4 (c % 16)
theorem half_lt (c : Nat) (h : c < 4294967296) : half c < 4294967296 := by
 unfold half
 exact Nat.xor_lt_two_pow (n := 32) (by omega) (tw_lt 4 _ (by omega))
def crcB (c : Nat) (x : UInt8) : Nat := half (half (c ^^^ x.toNat))
theorem crcX_lt (c : Nat) (x : UInt8) (h : c < 4294967296) : c ^^^ x.toNat < 4294967296 :=
 Nat.xor_lt_two_pow (n := 32) h (by have := x.toNat_lt; omega)
theorem crcB_lt (c : Nat) (x : UInt8) (h : c < 4294967296) : crcB c x < 4294967296 := half_lt _ (half_lt _ (crcX_lt c x h))
def crcL (c : Nat) (l : List UInt8) : Nat := l.foldl crcB c
theorem crcL_lt (c : Nat) (l : List UInt8) (h : c < 4294967296) : crcL c l < 4294967296 := by
 induction l generalizing c with
 | nil => exact h
 | cons x r ih => exact ih _ (crcB_lt c x h)
theorem crcL_take_snoc (c : Nat) (l : List UInt8) (k : Nat) (h : k < l.length) : crcL c (l.take (k + 1)) = crcB (crcL c (l.take k)) l[k] := by
 unfold crcL
 rw [List.take_succ_eq_append_getElem h, List.foldl_append]
 rfl
def crcSum (l : List UInt8) : Nat := 4294967295 - crcL 4294967295 l
theorem crcSum_lt (l : List UInt8) : crcSum l < 4294967296 := by unfold crcSum; omega
end
end Go.Proofs.YtkgnlobabknkcaaGreat
