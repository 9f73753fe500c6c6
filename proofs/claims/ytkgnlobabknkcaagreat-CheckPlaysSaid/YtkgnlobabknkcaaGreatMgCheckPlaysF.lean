/- CheckPlays, part 6 of 27: contracts of the functions that it reaches, and the laws that they need, merged and shortened (from my texts XRef01c, XReader, XWireR, XTag, XRef01d, XWireW, XRef04, XRef05). -/
import Derived.Test.YtkgnlobabknkcaaGreatMgCheckPlaysA
import Derived.Test.YtkgnlobabknkcaaGreatMgCheckPlaysD
import Derived.Test.YtkgnlobabknkcaaGreatMgCheckPlaysE
namespace Go.Proofs.YtkgnlobabknkcaaGreat
set_option linter.unusedVariables false
set_option linter.unusedSimpArgs false
set_option maxHeartbeats 8000000
set_option maxRecDepth 100000
section
open Go.RowKit
theorem rOrder (A1 : Option Addr) (l1 : List UInt8) (c1 : Nat) (A2 : Option Addr) (l2 : List UInt8) (c2 : Nat) (w : World) (h1 : Rd w A1 l1) (h2 : Rd w A2 l2) (hl1 : l1.length ≤ 1000000) (hl2 : l2.length ≤ 1000000) :
  Calls Tryz.prog 55 #[.slice A1 l1.length c1, .slice A2 l2.length c2] w fun e w' => ∃ o : Int, e = .returned (.int .i64 o) ∧ (o = 0 ↔ l1 = l2) ∧ Chg Non w w' := by
 have H1 := Lh h1
 have H2 := Lh h2
 clear h1 h2
 go_enter Tryz.func55, Tryz.ntmps55
 go_wp2_with fail
 go_loopw [5] (fun i wr => ∃ k : Nat, k ≤ l1.length ∧ k ≤ l2.length ∧ i = .int .i64 k ∧ l1.take k = l2.take k ∧ Chg Non w wr) (fun i _ => l1.length - (intOf i).toNat)
 case atStart => exact ⟨0, by omega, by omega, rfl, rfl, Chg.refl _ _⟩
 case round =>
  obtain ⟨k, hk1, hk2, rfl, ht, hC⟩ := hrel
  have HC := Lh hC
  have HT := Lh ht
  clear hC ht
  by_cases hlt1 : k < l1.length
  ·have d1 : decide ((k : Int) < (l1.length : Int)) = true := by simpa using hlt1
   by_cases hlt2 : k < l2.length
   ·have d2 : decide ((k : Int) < (l2.length : Int)) = true := by simpa using hlt2
    obtain ⟨b1, o1, rfl, _, hcell1⟩ := (H1.out.non HC.out).at_ (by omega)
    obtain ⟨b2, o2, rfl, _, hcell2⟩ := (H2.out.non HC.out).at_ (by omega)
    have HK1 := Lh (hcell1 k hlt1)
    have HK2 := Lh (hcell2 k hlt2)
    clear hcell1 hcell2
    go_wp2_with fail
    refine wp_region_held_drew (S := Chg Non wr) (by kernel_rfl) (Chg.refl Non wr).drew (fun _ => ?_)
    refine hp 0 18 (.slice (some ⟨b1, o1, none⟩) l1.length c1) rfl ((Chg.refl Non wr).drew) ?_
    refine hp 1 19 (.int .i64 (k : Int)) rfl ((Chg.refl Non wr).drew) ?_
    refine hp 2 20 (.pointer (some ⟨b1, o1 + k, none⟩)) rfl ((Chg.refl Non wr).drew) ?_ (he := (fun w e => by go_simp; try (intro hh; omega)))
    refine hp 3 21 (.int .u8 (l1[k].toNat : Int)) rfl ((Chg.refl Non wr).drew) ?_ (he := (fun w e => by have := e.cell_some HK1.out (fun e => e); go_simp))
    refine hp 4 22 (.slice (some ⟨b2, o2, none⟩) l2.length c2) rfl ((Chg.refl Non wr).drew) ?_
    refine hp 5 23 (.int .i64 (k : Int)) rfl ((Chg.refl Non wr).drew) ?_
    refine hp 6 24 (.pointer (some ⟨b2, o2 + k, none⟩)) rfl ((Chg.refl Non wr).drew) ?_ (he := (fun w e => by go_simp; try (intro hh; omega)))
    refine hp 7 25 (.int .u8 (l2[k].toNat : Int)) rfl ((Chg.refl Non wr).drew) ?_ (he := (fun w e => by have := e.cell_some HK2.out (fun e => e); go_simp))
    refine hp 8 26 (.bool (decide ((l1[k].toNat : Int) < (l2[k].toNat : Int)))) rfl ((Chg.refl Non wr).drew) ?_
    refine hdn ?_ _
    have hne : l1[k].toNat ≠ l2[k].toNat → l1 ≠ l2 := fun h e => by subst e; exact h rfl
    by_cases ha : l1[k].toNat < l2[k].toNat
    ·have da : decide ((l1[k].toNat : Int) < (l2[k].toNat : Int)) = true := by simpa using ha
     have hn := hne (by omega)
     go_wp2_with fail
     go_ret
     exact ⟨-1, rfl, ⟨fun h => by omega, fun h => absurd h hn⟩, HC.out.drew⟩
    have da : decide ((l1[k].toNat : Int) < (l2[k].toNat : Int)) = false := by simpa using ha
    go_wp2_with fail
    refine wp_region_held_drew (S := Chg Non wr) (by kernel_rfl) (Chg.refl Non wr).drew.drew (fun _ => ?_)
    refine hp 0 27 (.slice (some ⟨b1, o1, none⟩) l1.length c1) rfl ((Chg.refl Non wr).drew.drew) ?_
    refine hp 1 28 (.int .i64 (k : Int)) rfl ((Chg.refl Non wr).drew.drew) ?_
    refine hp 2 29 (.pointer (some ⟨b1, o1 + k, none⟩)) rfl ((Chg.refl Non wr).drew.drew) ?_ (he := (fun w e => by go_simp; try (intro hh; omega)))
    refine hp 3 30 (.int .u8 (l1[k].toNat : Int)) rfl ((Chg.refl Non wr).drew.drew) ?_ (he := (fun w e => by have := e.cell_some HK1.out (fun e => e); go_simp))
    refine hp 4 31 (.slice (some ⟨b2, o2, none⟩) l2.length c2) rfl ((Chg.refl Non wr).drew.drew) ?_
    refine hp 5 32 (.int .i64 (k : Int)) rfl ((Chg.refl Non wr).drew.drew) ?_
    refine hp 6 33 (.pointer (some ⟨b2, o2 + k, none⟩)) rfl ((Chg.refl Non wr).drew.drew) ?_ (he := (fun w e => by go_simp; try (intro hh; omega)))
    refine hp 7 34 (.int .u8 (l2[k].toNat : Int)) rfl ((Chg.refl Non wr).drew.drew) ?_ (he := (fun w e => by have := e.cell_some HK2.out (fun e => e); go_simp))
    refine hp 8 35 (.bool (decide ((l2[k].toNat : Int) < (l1[k].toNat : Int)))) rfl ((Chg.refl Non wr).drew.drew) ?_
    refine hdn ?_ _
    by_cases hb : l2[k].toNat < l1[k].toNat
    ·have db : decide ((l2[k].toNat : Int) < (l1[k].toNat : Int)) = true := by simpa using hb
     have hn := hne (by omega)
     go_wp2_with fail
     go_ret
     exact ⟨1, rfl, ⟨fun h => by omega, fun h => absurd h hn⟩, HC.out.drew.drew⟩
    have db : decide ((l2[k].toNat : Int) < (l1[k].toNat : Int)) = false := by simpa using hb
    have heq : l1[k] = l2[k] := UInt8.toNat_inj.1 (by omega)
    go_wp2_with fail
    case roundEnd =>
     refine ⟨⟨k + 1, by omega, by omega, by simp, ?_, HC.out.drew.drew⟩, by simp [intOf]; omega⟩
     rw [← List.take_append_getElem hlt1, ← List.take_append_getElem hlt2, HT.out, heq]
   ·obtain rfl : k = l2.length := by omega
    have d2 : decide ((l2.length : Int) < (l2.length : Int)) = false := by simp
    have hn : l1 ≠ l2 := fun e => by rw [e] at hlt1; omega
    have d3 : decide ((l1.length : Int) < (l2.length : Int)) = false := by simp; omega
    have d4 : decide ((l2.length : Int) < (l1.length : Int)) = true := by simpa using hlt1
    go_wp2_with fail
    go_ret
    exact ⟨1, rfl, ⟨fun h => by omega, fun h => absurd h hn⟩, HC.out⟩
  ·obtain rfl : k = l1.length := by omega
   have d1 : decide ((l1.length : Int) < (l1.length : Int)) = false := by simp
   by_cases hlt2 : l1.length < l2.length
   ·have d3 : decide ((l1.length : Int) < (l2.length : Int)) = true := by simpa using hlt2
    have hn : l1 ≠ l2 := fun e => by rw [e] at hlt2; omega
    go_wp2_with fail
    go_ret
    exact ⟨-1, rfl, ⟨fun h => by omega, fun h => absurd h hn⟩, HC.out⟩
   ·have d3 : decide ((l1.length : Int) < (l2.length : Int)) = false := by simpa using hlt2
    have d4 : decide ((l2.length : Int) < (l1.length : Int)) = false := by simp; omega
    have he : l1 = l2 := by have := HT.out; rwa [List.take_length, List.take_of_length_le (by omega)] at this
    go_wp2_with fail
    go_ret
    exact ⟨0, rfl, ⟨fun _ => he, fun _ => rfl⟩, HC.out⟩
theorem rSame (A1 : Option Addr) (l1 : List UInt8) (c1 : Nat) (A2 : Option Addr) (l2 : List UInt8) (c2 : Nat) (w : World) (h1 : Rd w A1 l1) (h2 : Rd w A2 l2) (hl1 : l1.length ≤ 1000000) (hl2 : l2.length ≤ 1000000) :
  Calls Tryz.prog 19 #[.slice A1 l1.length c1, .slice A2 l2.length c2] w fun e w' => e = .returned (.bool (decide (l1 = l2))) ∧ Chg Non w w' := by
 have HO := Lh (rOrder A1 l1 c1 A2 l2 c2 w h1 h2 hl1 hl2)
 clear h1 h2
 obtain ⟨q, hq⟩ : ∃ q, decide (l1 = l2) = q := ⟨_, rfl⟩
 rw [hq]
 go_enter Tryz.func19, Tryz.ntmps19
 go_wp2_with fail
 refine HO.out.mono ?_
 rintro e u ⟨o, rfl, ho, hg⟩
 have HG := Lh hg
 have hd : (o == 0) = q := by
  rw [← hq, Bool.eq_iff_iff, beq_iff_eq, decide_eq_true_eq]
  exact ho
 clear hg ho hq
 go_wp2_with fail
 go_ret
 exact ⟨rfl, HG.out⟩
end
section
open Go.RowKit
def IsR (w : World) (p : Nat) (l : List UInt8) (er : Int) : Prop :=
 ∃ A c, w.heap[p]? = some (.cells #[.slice A l.length c, .bool true, .int .i64 er] 226 (0, 0)) ∧ Rd w A l ∧ l.length ≤ c ∧ c ≤ maxLen
def At (p : Nat) : Nat → Prop := fun k => k = p
theorem rd_ne {w : World} {p : Nat} {A : Option Addr} {l : List UInt8} {v : Value} {er : Int} {t : TypeId} {fr : Nat × Nat} (hb : w.heap[p]? = some (.cells #[v, .bool true, .int .i64 er] t fr)) (hv : ∀ x : UInt8, v ≠ .int .u8 (x.toNat : Int)) (h : Rd w A l) :
  ∀ b o, A = some ⟨b, o, none⟩ → l ≠ [] → ¬ At p b := by
 rintro b o rfl hne rfl
 obtain ⟨x, r, rfl⟩ := List.exists_cons_of_ne_nil hne
 obtain ⟨b', o', e, hc⟩ := h 0 x rfl
 injection e with e
 injection e with e1 e2
 subst e1 e2
 rw [cell_of_row _ _ _ _ _ _ hb] at hc
 have hn := hv x
 match h' : o + 0, hc with
 | 0, hc => simp at hc; exact hn hc
 | 1, hc => simp at hc
 | 2, hc => simp at hc
 | n + 3, hc => simp at hc
theorem IsR.lt {w : World} {p : Nat} {l : List UInt8} {er : Int} (h : IsR w p l er) : p < w.heap.size := by
 obtain ⟨A, c, hb, _⟩ := h
 exact (Array.getElem?_eq_some_iff.1 hb).1
theorem rwhole_any (p : Nat) (l : List UInt8) (er : Int) (w : World) (hR : IsR w p l er) :
  Calls Tryz.prog 200 #[.pointer (some ⟨p, 0, none⟩)] w fun e w' => e = .returned (.bool (er == 0)) ∧ w = w' := by
 obtain ⟨A, c, hb, hr, hc⟩ := hR
 have h1 : w.cell? ⟨p, 1, none⟩ = some (.bool true) := by rw [cell_of_row _ _ _ _ _ _ hb]; rfl
 have h2 : w.cell? ⟨p, 2, none⟩ = some (.int .i64 er) := by rw [cell_of_row _ _ _ _ _ _ hb]; rfl
 clear hb
 go_enter Tryz.func200, Tryz.ntmps200
 go_wp2
 go_ret
 exact ⟨rfl, rfl⟩
theorem breaks_ok (p : Nat) (l : List UInt8) (w : World) (hR : IsR w p l 0) :
  Calls Tryz.prog 198 #[.pointer (some ⟨p, 0, none⟩)] w fun e w' => e = .returned (.tuple #[]) ∧ IsR w' p [] 50 ∧ Chg (At p) w w' := by
 have hw := rwhole_any p l 0 w hR
 obtain ⟨A, c, hb, hr, hc⟩ := hR
 have h0 : w.cell? ⟨p, 0, none⟩ = some (.slice A l.length c) := by rw [cell_of_row _ _ _ _ _ _ hb]; rfl
 have h2 : w.cell? ⟨p, 2, none⟩ = some (.int .i64 0) := by rw [cell_of_row _ _ _ _ _ _ hb]; rfl
 have f0 : w.frozen? ⟨p, 0, none⟩ = false := frozen_of_row _ _ _ _ _ hb
 have f2 : w.frozen? ⟨p, 2, none⟩ = false := frozen_of_row _ _ _ _ _ hb
 have HB := Lh hb
 have HW := Lh hw
 clear hb hw
 go_enter Tryz.func198, Tryz.ntmps198
 go_wp2_with fail
 refine HW.out.mono ?_
 rintro e w' ⟨rfl, rfl⟩
 go_wp2
 go_end0
 refine ⟨rfl, ⟨none, 0, ?_, Rd.nil _ _, by simp, by simp⟩, ((Chg.refl (At p) _).setCell (p := ⟨p, 0, none⟩) (.inl rfl) _).setCell (p := ⟨p, 2, none⟩) (.inl rfl) _⟩
 rw [heap_setCell_same _ _ _ _ _ _ (heap_setCell_same _ _ _ _ _ _ HB.out)]
 rfl
theorem breaks_no (p : Nat) (l : List UInt8) (er : Int) (w : World) (hR : IsR w p l er) (he : er ≠ 0) :
  Calls Tryz.prog 198 #[.pointer (some ⟨p, 0, none⟩)] w fun e w' => e = .returned (.tuple #[]) ∧ w = w' := by
 have hw := rwhole_any p l er w hR
 rw [show (er == 0) = false by simpa using he] at hw
 have HW := Lh hw
 clear hw
 go_enter Tryz.func198, Tryz.ntmps198
 go_wp2_with fail
 refine HW.out.mono ?_
 rintro e w' ⟨rfl, rfl⟩
 go_wp2
 go_end0
 exact ⟨rfl, rfl⟩
theorem take_ne {l : List UInt8} {n : Nat} (h : l.take n ≠ []) : l ≠ [] := by rintro rfl; simp at h
theorem take_close {w : World} {p n c : Nat} {A : Option Addr} {l : List UInt8} (hb : w.heap[p]? = some (.cells #[.slice A l.length c, .bool true, .int .i64 0] 226 (0, 0))) (hr : Rd w A l) (hn : n ≤ l.length)
  (hc : l.length ≤ c) (hm : c ≤ maxLen) (X : Option Addr) (hX : l.drop n ≠ [] → X = A.map (·.add n)) (d : Nat) (hd1 : l.length - n ≤ d) (hd2 : d ≤ maxLen) :
  IsR (w.setCell ⟨p, 0, none⟩ (.slice X (l.length - n) d)) p (l.drop n) 0 ∧ Chg (At p) w (w.setCell ⟨p, 0, none⟩ (.slice X (l.length - n) d)) := by
 have hne := rd_ne hb (fun x => by simp) hr
 have hg : Chg (At p) w (w.setCell ⟨p, 0, none⟩ (.slice X (l.length - n) d)) := (Chg.refl (At p) _).setCell (p := ⟨p, 0, none⟩) (.inl rfl) _
 have hrd : Rd w X (l.drop n) := by
  by_cases h : l.drop n = []
  ·rw [h]; exact Rd.nil _ _
  ·rw [hX h]
   have h0 : 0 < l.length := by
    rcases Nat.eq_zero_or_pos l.length with h0 | h0
    ·exact absurd (List.drop_of_length_le (by omega)) h
    ·exact h0
   obtain ⟨b, o, rfl, _, _⟩ := hr.at_ h0
   simp only [Option.map_some, add_plain]
   exact hr.drop n
 refine ⟨⟨X, d, ?_, hrd.keep hg ?_, by rw [List.length_drop]; exact hd1, hd2⟩, hg⟩
 ·rw [heap_setCell_same _ _ _ _ _ _ hb, List.length_drop]; rfl
 ·intro b o e h
  rw [hX h] at e
  obtain ⟨a, ha, e'⟩ := Option.map_eq_some_iff.1 e
  have h0 : l ≠ [] := by rintro rfl; simp at h
  obtain ⟨b', o', rfl, _, _⟩ := hr.at_ (List.length_pos_iff.2 h0)
  injection ha with ha
  subst ha
  rw [add_plain] at e'
  injection e' with e1 e2
  subst e1
  exact hne _ _ rfl h0
theorem take_short (p n : Nat) (l : List UInt8) (w : World) (hR : IsR w p l 0) (hn : l.length < n) :
  Calls Tryz.prog 197 #[.pointer (some ⟨p, 0, none⟩), .int .i64 n] w fun e w' => e = .returned (.tuple #[.slice none 0 0, .bool false]) ∧ IsR w' p [] 50 ∧ Chg (At p) w w' := by
 have hw := rwhole_any p l 0 w hR
 have hbr := breaks_ok p l w hR
 obtain ⟨A, c, hb, hr, hc, hm⟩ := hR
 have h0 : w.cell? ⟨p, 0, none⟩ = some (.slice A l.length c) := by rw [cell_of_row _ _ _ _ _ _ hb]; rfl
 have HB := Lh hb
 have HW := Lh hw
 have HBr := Lh hbr
 clear hb hw hbr
 have hd : decide ((n : Int) > l.length) = true := by simp; omega
 go_enter Tryz.func197, Tryz.ntmps197
 go_wp2_with fail
 refine HW.out.mono ?_
 rintro e w' ⟨rfl, rfl⟩
 go_wp2_with fail
 refine HBr.out.mono ?_
 rintro e w' ⟨rfl, hR, hg⟩
 go_wp2
 go_ret2
 exact ⟨rfl, hR, hg⟩
theorem take_broken (p : Nat) (n : Int) (l : List UInt8) (er : Int) (w : World) (hR : IsR w p l er) (he : er ≠ 0) :
  Calls Tryz.prog 197 #[.pointer (some ⟨p, 0, none⟩), .int .i64 n] w fun e w' => e = .returned (.tuple #[.slice none 0 0, .bool false]) ∧ w = w' := by
 have hw := rwhole_any p l er w hR
 rw [show (er == 0) = false by simpa using he] at hw
 have hbr := breaks_no p l er w hR he
 have HW := Lh hw
 have HBr := Lh hbr
 clear hw hbr
 go_enter Tryz.func197, Tryz.ntmps197
 go_wp2_with fail
 refine HW.out.mono ?_
 rintro e w' ⟨rfl, rfl⟩
 go_wp2_with fail
 refine HBr.out.mono ?_
 rintro e w' ⟨rfl, rfl⟩
 go_wp2
 go_ret2
 exact ⟨rfl, rfl⟩
def i64 (n : Nat) : Int := wrap64 n
theorem Int1_ok (A : Option Addr) (l : List UInt8) (w : World) (hr : Rd w A l) (hl : l.length = 8) :
  Calls Tryz.prog 171 #[.slice A 8 8] w fun e w' => e = .returned (.tuple #[.int .i64 (i64 (num l)), .bool true]) ∧ w = w' := by
 have hld := Load64_ok A l 8 w hr hl (by omega) (by omega)
 have e : i64 (num l) = wrap64 (num l : Nat) := rfl
 have HL := Lh hld
 have HE := Lh e
 clear hld e
 obtain ⟨x, hx⟩ : ∃ x, num l = x := ⟨_, rfl⟩
 rw [hx] at HL HE ⊢
 clear hx
 go_enter Tryz.func171, Tryz.ntmps171
 go_wp2_with fail
 refine HL.out.mono ?_
 rintro e w' ⟨rfl, rfl⟩
 go_wp2
 go_ret2
 rw [HE.out]
 exact ⟨rfl, rfl⟩
def rdInt (l : List UInt8) (er : Int) : Int × List UInt8 × Int :=
 if er = 0 then (if 8 ≤ l.length then (i64 (num (l.take 8)), l.drop 8, 0) else (0, [], 50)) else (0, l, er)
theorem End_any (p : Nat) (l : List UInt8) (er : Int) (w : World) (hR : IsR w p l er) :
  Calls Tryz.prog 144 #[.pointer (some ⟨p, 0, none⟩)] w fun e w' => e = .returned (.int .i64 (if er = 0 ∧ l ≠ [] then 50 else er)) ∧ w = w' := by
 have hw := rwhole_any p l er w hR
 obtain ⟨A, c, hb, hr, hc, hm⟩ := hR
 have h0 : w.cell? ⟨p, 0, none⟩ = some (.slice A l.length c) := by rw [cell_of_row _ _ _ _ _ _ hb]; rfl
 have h1 : w.cell? ⟨p, 1, none⟩ = some (.bool true) := by rw [cell_of_row _ _ _ _ _ _ hb]; rfl
 have h2 : w.cell? ⟨p, 2, none⟩ = some (.int .i64 er) := by rw [cell_of_row _ _ _ _ _ _ hb]; rfl
 clear hb
 unfold maxLen at hm
 have HW := Lh hw
 clear hw
 -- Left
 have hleft : Calls Tryz.prog 175 #[.pointer (some ⟨p, 0, none⟩)] w fun e w' => e = .returned (.int .i64 (if er = 0 then (l.length : Int) else 0)) ∧ w = w' := by
  by_cases he : er = 0
  ·subst he
   go_enter Tryz.func175, Tryz.ntmps175
   go_wp2_with fail
   refine HW.out.mono ?_
   rintro e w1 ⟨rfl, rfl⟩
   go_wp2
   go_ret
   exact ⟨rfl, rfl⟩
  ·have hd : (er == 0) = false := by simpa using he
   simp only [he, if_false]
   go_enter Tryz.func175, Tryz.ntmps175
   go_wp2_with fail
   refine HW.out.mono ?_
   rintro e w1 ⟨rfl, rfl⟩
   go_wp2
   go_ret
   exact ⟨rfl, rfl⟩
 have herr : Calls Tryz.prog 176 #[.pointer (some ⟨p, 0, none⟩)] w fun e w' => e = .returned (.int .i64 er) ∧ w = w' := by
  go_enter Tryz.func176, Tryz.ntmps176
  go_wp2
  go_ret
  exact ⟨rfl, rfl⟩
 have HL := Lh hleft
 have HE := Lh herr
 clear hleft herr
 by_cases hq : er = 0 ∧ l ≠ []
 ·rw [if_pos hq]
  obtain ⟨rfl, hne⟩ := hq
  have hpos : 0 < l.length := List.length_pos_iff.2 hne
  simp only [if_true] at HL
  go_enter Tryz.func144, Tryz.ntmps144
  go_wp2_with fail
  refine HL.out.mono ?_
  rintro e w1 ⟨rfl, rfl⟩
  go_wp2
  go_ret
  exact ⟨rfl, rfl⟩
 ·rw [if_neg hq]
  have hz : (if er = 0 then (l.length : Int) else 0) = 0 := by
   by_cases he : er = 0
   ·subst he
    have : l = [] := by
     rcases l with _ | ⟨x, r⟩
     ·rfl
     ·exact absurd ⟨rfl, by simp⟩ hq
    subst this
    rfl
   ·simp [he]
  rw [hz] at HL
  clear hq hz
  go_enter Tryz.func144, Tryz.ntmps144
  go_wp2_with fail
  refine HL.out.mono ?_
  rintro e w1 ⟨rfl, rfl⟩
  go_wp2_with fail
  refine HE.out.mono ?_
  rintro e w1 ⟨rfl, rfl⟩
  go_wp2
  go_ret
  exact ⟨rfl, rfl⟩
theorem NewReader_ok (A : Option Addr) (l : List UInt8) (c : Nat) (w : World) (hr : Rd w A l) (hl : l.length ≤ 65536) :
  Calls Tryz.prog 141 #[.slice A l.length c] w fun e w' => e = .returned (.pointer (some ⟨w.heap.size, 0, none⟩)) ∧ IsR w' w.heap.size l 0 ∧ Chg Non w w' := by
 have hd : decide ((l.length : Int) > 65536) = false := by simp; omega
 go_enter Tryz.func141, Tryz.ntmps141
 go_wp2_with fail
 refine (Cat1 A l c _ _ _ (by simp) (hr.non ((Chg.refl _ _).alloc _)) (by omega)).mono ?_
 rintro e w1 ⟨A1, c1, rfl, hc1, hm1, ho1, hg1⟩
 have hb1 : w1.heap[w.heap.size]? = some (.cells #[.slice none 0 0, .bool true, .int .i64 0] 226 (0, 0)) := (hg1.block _ (by simp) (fun e => e)).trans (heap_alloc_new _ _)
 have h0 : w1.cell? ⟨w.heap.size, 0, none⟩ = some (.slice none 0 0) := by rw [cell_of_row _ _ _ _ _ _ hb1]; rfl
 have f0 : w1.frozen? ⟨w.heap.size, 0, none⟩ = false := frozen_of_row _ _ _ _ _ hb1
 have HB := Lh hb1
 clear hb1
 have hsz : w.heap.size < w1.heap.size := by have := hg1.size; simp at this; omega
 go_wp2
 go_ret
 have hgs : Chg (At w.heap.size) w1 (w1.setCell ⟨w.heap.size, 0, none⟩ (.slice A1 l.length c1)) := (Chg.refl (At w.heap.size) _).setCell (p := ⟨w.heap.size, 0, none⟩) (.inl rfl) _
 refine ⟨rfl, ⟨A1, c1, ?_, ho1.rd.keep hgs ?_, hc1, hm1⟩, ?_⟩
 ·rw [heap_setCell_same _ _ _ _ _ _ HB.out]; rfl
 ·rintro b o rfl hne h
  have := ho1.ge hne
  simp at this
  unfold At at h
  omega
 ·exact (((Chg.refl Non w).alloc _).then_non hg1).setCell (.inr (Nat.le_refl _)) _
end
section
open Go.RowKit
theorem Byte1_ok (A : Option Addr) (x : UInt8) (w : World) (hr : Rd w A [x]) :
  Calls Tryz.prog 205 #[.slice A 1 1] w fun e w' => e = .returned (.tuple #[.int .u8 (x.toNat : Int), .bool true]) ∧ w = w' := by
 obtain ⟨b, o, rfl, _, hc⟩ := hr.at_ (by simp)
 have h0 : w.cell? ⟨b, o, none⟩ = some (.int .u8 (x.toNat : Int)) := hc 0 (by simp)
 clear hc hr
 go_enter Tryz.func205, Tryz.ntmps205
 go_wp2
 go_ret2
 exact ⟨rfl, rfl⟩
def rdByte (l : List UInt8) (er : Int) : UInt8 × List UInt8 × Int :=
 if er = 0 then (match l with | x :: r => (x, r, 0) | [] => (0, [], 50)) else (0, l, er)
theorem Flag1_ok (A : Option Addr) (x : UInt8) (w : World) (hr : Rd w A [x]) :
  Calls Tryz.prog 203 #[.slice A 1 1] w fun e w' => e = .returned (.tuple #[.bool (decide (x = 1)), .bool (decide (x ≤ 1))]) ∧ Chg Non w w' := by
 obtain ⟨b, o, rfl, _, hc⟩ := hr.at_ (by simp)
 have h0 : w.cell? ⟨b, o, none⟩ = some (.int .u8 (x.toNat : Int)) := hc 0 (by simp)
 clear hc hr
 have e1 : ((x.toNat : Int) == 1) = decide (x = 1) := by
  rw [Bool.eq_iff_iff]
  simp only [beq_iff_eq, decide_eq_true_eq, ← UInt8.toNat_inj]
  show (x.toNat : Int) = 1 ↔ x.toNat = 1
  omega
 have e2 : decide ((x.toNat : Int) ≤ 1) = decide (x ≤ 1) := by
  rw [Bool.eq_iff_iff]
  simp only [decide_eq_true_eq, UInt8.le_iff_toNat_le]
  show (x.toNat : Int) ≤ 1 ↔ x.toNat ≤ 1
  omega
 rw [← e1, ← e2]
 clear e1 e2
 go_enter Tryz.func203, Tryz.ntmps203
 go_wp2
 go_quiet (fail)
 go_wp2
 go_ret2
 exact ⟨rfl, (Chg.refl _ _).drewN _⟩
def rdFlag (l : List UInt8) (er : Int) : Bool × List UInt8 × Int :=
 if er = 0 then (match l with | x :: r => if x ≤ 1 then (decide (x = 1), r, 0) else (false, [], 50) | [] => (false, [], 50)) else (false, l, er)
end
section
open Go.RowKit
theorem run_results_cell_tmp {P : Program} {fn : Func} {p q : Tmp} {ty : TypeId} (h : fn.results = #[.cell p ty, .tmp q]) (tmps : Array Value) (w : World) (g : Nat) (t : TypeId) (cs : Array Value) (fr : Nat × Nat) (d : TypeDesc) (v : Value)
  (hp : tmps.getD p undef = .pointer (some ⟨g, 0, none⟩)) (hv : tmps.getD q undef = v) (hg : w.heap[g]? = some (.cells cs t fr))
  (hu : P.underlying ty = some d) (hd : (match d with | .struct _ | .array _ _ => true | _ => false) = true) (hi : (P.info? ty).map (·.size) = some cs.size) :
  (results fn tmps).run P w = .ok (.tuple #[.agg cs, v]) w := by
 have hp' : tmps[p]?.getD undef = .pointer (some ⟨g, 0, none⟩) := by simpa using hp
 have hv' : tmps[q]?.getD undef = v := by simpa using hv
 simp [results, h, hp', hv', asAddr, run_loadVar_row w g t ty cs fr d hg hu hd hi]
def tagA (l : List UInt8) : Array Value := (l.map bv).toArray
theorem tagA_size (l : List UInt8) (h : l.length = 32) : (tagA l).size = 32 := by simp [tagA, h]
theorem tagA_one (l : List UInt8) : (tagA l).all (·.oneCell') = true := secV_one l
def zTag : List UInt8 := List.replicate 32 0
theorem zTag_len : zTag.length = 32 := by simp [zTag]
theorem info_tag : (Tryz.prog.info? 28).map (·.size) = some 32 := by kernel_rfl
theorem wpList_load_tag {w : World} {ops : Array Oper} {rest : List Oper} {op : Oper} {a : Act} {Q : Exit → Act → World → Prop} (hgd : op.guard = none) (x : Operand) (ho : op.op = .load 28 x)
  (b o : Nat) (hx : a.eval x = .pointer (some ⟨b, o, none⟩)) (l : List UInt8) (hc : w.rangeAt b o (l.map bv)) (hl : l.length = 32)
  (h : wpList Tryz.prog ops Q rest (a.put op.dst (.agg (tagA l))) w) : wpList Tryz.prog ops Q (op :: rest) a w :=
 wpList_load_mid hgd 28 x ho b o hx (l.map bv) _ hc Tryz.underlying28 rfl (by rw [List.length_map, hl]; exact info_tag) h
theorem range_of_rd {w : World} {b o : Nat} {l : List UInt8} (h : Rd w (some ⟨b, o, none⟩) l) : w.rangeAt b o (l.map bv) := by
 intro j v hv
 rw [List.getElem?_map] at hv
 obtain ⟨x, hx, rfl⟩ := Option.map_eq_some_iff.1 hv
 obtain ⟨b', o', e, hc⟩ := h j x hx
 injection e with e
 injection e with e1 e2
 subst e1 e2
 exact hc
theorem range_of_tag {w : World} {g : Nat} {t : TypeId} {fr : Nat × Nat} {l : List UInt8} (h : w.heap[g]? = some (.cells (tagA l) t fr)) : w.rangeAt g 0 (l.map bv) := by
 intro j v hv
 rw [cell_of_row _ _ _ _ _ _ h, Nat.zero_add]
 simpa [tagA] using hv
theorem Tag1_ok (A : Option Addr) (l : List UInt8) (w : World) (hr : Rd w A l) (hl : l.length = 32) :
  Calls Tryz.prog 174 #[.slice A 32 32] w fun e w' => e = .returned (.tuple #[.agg (tagA l), .bool true]) ∧ Chg Non w w' := by
 obtain ⟨b, o, rfl, hbl, _⟩ := hr.at_ (by omega)
 have HR := Lh (range_of_rd hr)
 have HL := Lh hl
 clear hr hl
 go_enter Tryz.func174, Tryz.ntmps174
 obtain ⟨Z, hZ⟩ : ∃ Z, tagA zTag = Z := ⟨_, rfl⟩
 go_wp2_with (first
   | (refine sel (some 5) (.sliceToArrayPointer 28 (.tmp 4)) ?_; refine wpList_plain rfl (fun K hK => ?_); go_simp; refine hK _ _ ?_)
   | (refine sel (some 6) (.load 28 (.tmp 5)) ?_; refine wpList_load_tag rfl (.tmp 5) rfl b o rfl l (fun j v hv => ((Chg.refl Non w).alloc _).cell_some (HR.out j v hv) (fun e => e)) HL.out ?_)
   | (refine sel none (.store 28 (.tmp 2) (.tmp 6)) ?_
      refine wpList_store_rowA rfl 28 (.tmp 2) (.tmp 6) rfl w.heap.size (tagA l) rfl rfl 28 _ (heap_alloc_new _ _) (by rw [tagA_size _ HL.out]; exact info_tag) (by rw [tagA_size _ HL.out]; rfl) (tagA_one _) ?_
      intro W hgW hbW
      have HB := Lh hbW
      have hg1 : Chg Non w W := ((Chg.refl Non w).alloc _).then_new hgW (fun x e => by rw [e]; exact Nat.le_refl _)
      clear hbW hgW))
 exact bodyPost_ret (run_results_cell_tmp Tryz.results174 _ _ w.heap.size 28 (tagA l) (0, 0) _ (.bool true) rfl rfl HB.out Tryz.underlying28 rfl (by rw [tagA_size _ HL.out]; exact info_tag)) rfl ⟨rfl, hg1⟩
def rdTag (l : List UInt8) (er : Int) : List UInt8 × List UInt8 × Int :=
 if er = 0 then (if 32 ≤ l.length then (l.take 32, l.drop 32, 0) else (zTag, [], 50)) else (zTag, l, er)
theorem rdTag_len (l : List UInt8) (er : Int) : (rdTag l er).1.length = 32 := by
 unfold rdTag
 split
 ·split
  ·rw [List.length_take]; omega
  ·exact zTag_len
 ·exact zTag_len
def IsRB (S : Nat) (w : World) (p : Nat) (l : List UInt8) (er : Int) : Prop :=
 ∃ A c, w.heap[p]? = some (.cells #[.slice A l.length c, .bool true, .int .i64 er] 226 (0, 0)) ∧ Rd w A l ∧ l.length ≤ c ∧ c ≤ maxLen ∧ ∀ b o, A = some ⟨b, o, none⟩ → l ≠ [] → b < S
theorem IsR.below {w : World} {p : Nat} {l : List UInt8} {er : Int} (h : IsR w p l er) : IsRB w.heap.size w p l er := by
 obtain ⟨A, c, hb, hr, h3, h4⟩ := h
 refine ⟨A, c, hb, hr, h3, h4, ?_⟩
 rintro b o rfl hne
 obtain ⟨b', o', e, hlt, _⟩ := hr.at_ (List.length_pos_iff.2 hne)
 injection e with e
 injection e with e1 _
 subst e1
 exact hlt
theorem IsRB.keep {T : Nat → Prop} {S p : Nat} {w w' : World} {l : List UInt8} {er : Int} (h : IsRB S w p l er) (hg : Chg T w w') (hp : ¬ T p) (hT : ∀ b, b < S → ¬ T b) : IsRB S w' p l er := by
 obtain ⟨A, c, hb, hr, h3, h4, h5⟩ := h
 exact ⟨A, c, (hg.block p (Array.getElem?_eq_some_iff.1 hb).1 hp).trans hb, hr.keep hg (fun b o e hne => hT b (h5 b o e hne)), h3, h4, h5⟩
theorem IsRB.lt {S p : Nat} {w : World} {l : List UInt8} {er : Int} (h : IsRB S w p l er) : p < w.heap.size := by
 obtain ⟨A', c', hb, _⟩ := h; exact (Array.getElem?_eq_some_iff.1 hb).1
theorem IsRB.isR {S p : Nat} {w : World} {l : List UInt8} {er : Int} (h : IsRB S w p l er) : IsR w p l er := by
 obtain ⟨A, c, hb, hr, h3, h4, h5⟩ := h
 exact ⟨A, c, hb, hr, h3, h4⟩
theorem take_okB (S p n : Nat) (l : List UInt8) (w : World) (hR : IsRB S w p l 0) (hn : n ≤ l.length) :
  Calls Tryz.prog 197 #[.pointer (some ⟨p, 0, none⟩), .int .i64 n] w fun e w' => ∃ A, e = .returned (.tuple #[.slice A n n, .bool true]) ∧ Rd w' A (l.take n) ∧ IsRB S w' p (l.drop n) 0 ∧ Chg (At p) w w' := by
 have hw := rwhole_any p l 0 w hR.isR
 obtain ⟨A, c, hb, hr, hc, hm, hS⟩ := hR
 have h0 : w.cell? ⟨p, 0, none⟩ = some (.slice A l.length c) := by rw [cell_of_row _ _ _ _ _ _ hb]; rfl
 have f0 : w.frozen? ⟨p, 0, none⟩ = false := frozen_of_row _ _ _ _ _ hb
 have hne := rd_ne hb (fun x => by simp) hr
 have HB := Lh hb
 have HW := Lh hw
 clear hb hw
 unfold maxLen at hm
 have hd : decide ((n : Int) > l.length) = false := by simp; omega
 have hcl : ∀ (X : Option Addr) (d : Nat), (l.drop n ≠ [] → X = A.map (·.add n)) → l.length - n ≤ d → d ≤ maxLen →
   IsRB S (w.setCell ⟨p, 0, none⟩ (.slice X (l.length - n) d)) p (l.drop n) 0 ∧ Chg (At p) w (w.setCell ⟨p, 0, none⟩ (.slice X (l.length - n) d)) := by
  intro X d hX h1 h2
  obtain ⟨_, hg⟩ := take_close HB.out hr hn hc (by unfold maxLen; omega) X hX d h1 h2
  have hl : p < w.heap.size := (Array.getElem?_eq_some_iff.1 HB.out).1
  have hrd : Rd w X (l.drop n) := by
   by_cases h : l.drop n = []
   ·rw [h]; exact Rd.nil _ _
   ·rw [hX h]
    have h0 : 0 < l.length := by
     rcases Nat.eq_zero_or_pos l.length with h0 | h0
     ·exact absurd (List.drop_of_length_le (by omega)) h
     ·exact h0
    obtain ⟨b, o, rfl, _, _⟩ := hr.at_ h0
    simp only [Option.map_some, add_plain]
    exact hr.drop n
  have hXb : ∀ b o, X = some ⟨b, o, none⟩ → l.drop n ≠ [] → ∃ o', A = some ⟨b, o', none⟩ ∧ l ≠ [] := by
   intro b o e h
   rw [hX h] at e
   obtain ⟨a, ha, e'⟩ := Option.map_eq_some_iff.1 e
   have hl0 : l ≠ [] := by rintro rfl; simp at h
   obtain ⟨b', o', rfl, _, _⟩ := hr.at_ (List.length_pos_iff.2 hl0)
   injection ha with ha
   subst ha
   rw [add_plain] at e'
   injection e' with e1 e2
   subst e1
   exact ⟨_, rfl, hl0⟩
  refine ⟨⟨X, d, ?_, hrd.keep hg ?_, by rw [List.length_drop]; exact h1, h2, ?_⟩, hg⟩
  ·rw [heap_setCell_same _ _ _ _ _ _ HB.out, List.length_drop]; rfl
  ·intro b o e h
   obtain ⟨o', e', h'⟩ := hXb b o e h
   exact hne b o' e' h'
  ·intro b o e h
   obtain ⟨o', e', h'⟩ := hXb b o e h
   exact hS b o' e' h'
 have HCl := Lh hcl
 clear hcl hS
 go_enter Tryz.func197, Tryz.ntmps197
 go_wp2_with fail
 refine HW.out.mono ?_
 rintro e w' ⟨rfl, rfl⟩
 by_cases hnl : n < l.length
 ·have hcn : ¬ c = n := by omega
  go_wp2
  go_ret2
  have hcl := HCl.out (A.map (·.add n)) (c - n) (fun _ => rfl) (by omega) (by unfold maxLen; omega)
  exact ⟨A, rfl, (hr.take n).keep hcl.2 (fun b o e h => hne b o e (take_ne h)), hcl⟩
 ·go_wp2
  all_goals
   go_ret2
   refine ⟨A, rfl, (hr.take n).keep ?_ (fun b o e h => hne b o e (take_ne h)), HCl.out _ _ (fun h => absurd (List.drop_of_length_le (by omega)) h) (by omega) (by unfold maxLen; omega)⟩
   exact (Chg.refl (At p) _).setCell (p := ⟨p, 0, none⟩) (.inl rfl) _
theorem new_block {w W : World} {o : Obj} (hg : Chg Non (w.alloc o) W) : W.heap[w.heap.size]? = some o :=
 (hg.block _ (by simp) (fun e => e)).trans (heap_alloc_new _ _)
theorem fieldTag_ok (S p : Nat) (l : List UInt8) (w : World) (hR : IsRB S w p l 0) (hSw : S ≤ w.heap.size) (hn : 32 ≤ l.length) :
  Calls Tryz.prog 173 #[.pointer (some ⟨p, 0, none⟩), .int .i64 32, .func (.func 174) #[] #[]] w fun e w' => e = .returned (.agg (tagA (l.take 32))) ∧ IsRB S w' p (l.drop 32) 0 ∧ Chg (At p) w w' := by
 have hg0 : ∀ o o' : Obj, Chg Non w ((w.alloc o).alloc o') := fun o o' => ((Chg.refl _ _).alloc _).alloc _
 have HT := Lh (fun o o' => take_okB S p 32 l ((w.alloc o).alloc o') (hR.keep (hg0 o o') (fun e => e) (fun _ _ e => e)) hn)
 have hlp : p < w.heap.size := hR.lt
 have hl : (l.take 32).length = 32 := by rw [List.length_take]; omega
 obtain ⟨m, hm⟩ : ∃ m, l.take 32 = m := ⟨_, rfl⟩
 rw [hm] at HT hl ⊢
 have HL := Lh hl
 clear hm hl hR hg0
 go_enter Tryz.func173, Tryz.ntmps173
 go_wp2_with fail
 refine (HT.out _ _).mono ?_
 rintro e w1 ⟨A, rfl, hr, hR1, hg⟩
 go_wp2_with fail
 refine (Tag1_ok A m w1 hr HL.out).mono ?_
 rintro e w2 ⟨rfl, hg2⟩
 have hgA : Chg (At p) w w2 := (((((Chg.refl Non w).alloc _).alloc _).non_then hg).then_non hg2)
 have hb0 : w2.heap[w.heap.size]? = some (.cells (tagA zTag) 28 (0, 0)) := by
  rw [hg2.block _ (by have := hg.size; simp at this; omega) (fun e => e), hg.block _ (by simp; omega) (by unfold At; omega), Below.heap_alloc _ _ _ (by simp), heap_alloc_new]
  rfl
 have HB0 := Lh hb0
 have hz2 : w.heap.size < w2.heap.size := (Array.getElem?_eq_some_iff.1 hb0).1
 clear hb0 hr
 go_wp2_with (first
   | (refine sel none (.store 28 (.tmp 10) (.tmp 24)) ?_
      refine wpList_store_rowA rfl 28 (.tmp 10) (.tmp 24) rfl w2.heap.size (tagA m) rfl rfl 28 _ (heap_alloc_new _ _) (by rw [tagA_size _ HL.out]; exact info_tag) (by rw [tagA_size _ HL.out]; rfl) (tagA_one _) ?_
      intro W hgW hbW
      have HB := Lh hbW
      have HGW := Lh hgW
      have hb1 : W.heap[w.heap.size]? = some (.cells (tagA zTag) 28 (0, 0)) := by
        rw [hgW.block _ (by simp; omega) (by omega), Below.heap_alloc _ _ _ hz2]
        exact HB0.out
      have HB1 := Lh hb1
      clear hbW hgW hb1)
   | (refine sel none (.store 28 (.tmp 6) (.tmp 31)) ?_
      refine wpList_store_rowA rfl 28 (.tmp 6) (.tmp 31) rfl w.heap.size (tagA m) rfl rfl 28 _ HB1.out (by rw [tagA_size _ HL.out]; exact info_tag) (by rw [tagA_size _ HL.out]; rfl) (tagA_one _) ?_
      intro W2 hgW2 hbW2
      have HB2 := Lh hbW2
      have HGW2 := Lh hgW2
      clear hbW2 hgW2)
   | (refine sel (some 31) (.load 28 (.tmp 10)) ?_; refine wpList_load_tag rfl (.tmp 10) rfl w2.heap.size 0 rfl m (range_of_tag HB.out) HL.out ?_))
 have hgB : Chg (At p) w W2 := (((hgA.alloc _).then_new HGW.out (fun x e => by omega))).then_new HGW2.out (fun x e => by omega)
 have hR2 := fun o => (hR1.keep hg2 (fun e => e) (fun _ _ e => e)).keep ((Chg.refl Non w2).alloc o) (fun e => e) (fun _ _ e => e)
 have hR3 := (hR2 _).keep HGW.out (by omega) (fun b hb e => by omega)
 have hR4 := hR3.keep HGW2.out (by omega) (fun b hb e => by omega)
 exact bodyPost_ret (results_cell_row Tryz.results173 _ _ w.heap.size 28 _ (0, 0) _ rfl HB2.out Tryz.underlying28 rfl (by rw [tagA_size _ HL.out]; exact info_tag)) rfl ⟨rfl, hR4, hgB⟩
theorem field_zero {w w2 : World} {o : Obj} {p : Nat} (hlp : p < w.heap.size) (hg : Chg (At p) ((w.alloc (.cells (tagA zTag) 28)).alloc o) w2) :
  w2.heap[w.heap.size]? = some (.cells (tagA zTag) 28 (0, 0)) := by
 rw [hg.block _ (by simp; omega) (by unfold At; omega), Below.heap_alloc _ _ _ (by simp), heap_alloc_new]
theorem field_zero1 {w w2 : World} {o : Obj} {p : Nat} (hlp : p < w.heap.size) (hg : Chg (At p) ((w.alloc o).alloc (.cells (tagA zTag) 28)) w2) :
  w2.heap[w.heap.size + 1]? = some (.cells (tagA zTag) 28 (0, 0)) := by
 rw [hg.block _ (by simp) (by unfold At; omega), heap_alloc2_new]
theorem fieldTag_no (S p : Nat) (l l' : List UInt8) (er er' : Int) (w : World) (hR : IsRB S w p l er) (hSw : S ≤ w.heap.size)
  (ht : ∀ W, IsRB S W p l er → Calls Tryz.prog 197 #[.pointer (some ⟨p, 0, none⟩), .int .i64 32] W fun e w' => e = .returned (.tuple #[.slice none 0 0, .bool false]) ∧ IsRB S w' p l' er' ∧ Chg (At p) W w') :
  Calls Tryz.prog 173 #[.pointer (some ⟨p, 0, none⟩), .int .i64 32, .func (.func 174) #[] #[]] w fun e w' => e = .returned (.agg (tagA zTag)) ∧ IsRB S w' p l' er' ∧ Chg (At p) w w' := by
 have hg0 : ∀ o o' : Obj, Chg Non w ((w.alloc o).alloc o') := fun o o' => ((Chg.refl _ _).alloc _).alloc _
 have hlp : p < w.heap.size := hR.lt
 have HT := Lh (fun o o' => ht ((w.alloc o).alloc o') (hR.keep (hg0 o o') (fun e => e) (fun _ _ e => e)))
 clear hR hg0 ht
 go_enter Tryz.func173, Tryz.ntmps173
 go_wp2_with fail
 refine (HT.out _ _).mono ?_
 rintro e w2 ⟨rfl, hR1, hg⟩
 have HB0 := Lh (field_zero hlp hg)
 have HB1 := Lh (field_zero1 hlp hg)
 have hgA : Chg (At p) w w2 := ((((Chg.refl Non w).alloc _).alloc _).non_then hg)
 go_wp2_with (first
   | (refine sel (some 19) (.load 28 (.tmp 7)) ?_; refine wpList_load_tag rfl (.tmp 7) rfl (w.heap.size + 1) 0 rfl zTag (range_of_tag HB1.out) zTag_len ?_)
   | (refine sel none (.store 28 (.tmp 6) (.tmp 19)) ?_
      refine wpList_store_rowA rfl 28 (.tmp 6) (.tmp 19) rfl w.heap.size (tagA zTag) rfl rfl 28 _ HB0.out (by rw [tagA_size _ zTag_len]; exact info_tag) rfl (tagA_one _) ?_
      intro W2 hgW2 hbW2
      have HB2 := Lh hbW2
      have HGW2 := Lh hgW2
      clear hbW2 hgW2))
 have hgB : Chg (At p) w W2 := hgA.then_new HGW2.out (fun x e => by omega)
 have hR4 := hR1.keep HGW2.out (by omega) (fun b hb e => by omega)
 exact bodyPost_ret (results_cell_row Tryz.results173 _ _ w.heap.size 28 _ (0, 0) _ rfl HB2.out Tryz.underlying28 rfl (by rw [tagA_size _ zTag_len]; exact info_tag)) rfl ⟨rfl, hR4, hgB⟩
theorem fieldTag_any (S p : Nat) (l : List UInt8) (er : Int) (w : World) (hR : IsRB S w p l er) (hSw : S ≤ w.heap.size) :
  Calls Tryz.prog 173 #[.pointer (some ⟨p, 0, none⟩), .int .i64 32, .func (.func 174) #[] #[]] w fun e w' => e = .returned (.agg (tagA (rdTag l er).1)) ∧ IsRB S w' p (rdTag l er).2.1 (rdTag l er).2.2 ∧ Chg (At p) w w' := by
 unfold rdTag
 by_cases he : er = 0
 ·subst he
  by_cases hl : 32 ≤ l.length
  ·simp only [hl, if_true]
   exact fieldTag_ok S p l w hR hSw hl
  ·simp only [hl, if_true, if_false]
   refine fieldTag_no S p l [] 0 50 w hR hSw (fun W hR' => (take_short p 32 l W hR'.isR (by omega)).mono ?_)
   rintro e w' ⟨rfl, ⟨A, c, h1, h2, h3, h4⟩, hg'⟩
   exact ⟨rfl, ⟨A, c, h1, h2, h3, h4, fun _ _ _ h => absurd rfl h⟩, hg'⟩
 ·simp only [he, if_false]
  refine fieldTag_no S p l l er er w hR hSw (fun W hR' => (take_broken p 32 l er W hR'.isR he).mono ?_)
  rintro e w' ⟨rfl, rfl⟩
  exact ⟨rfl, hR', Chg.refl _ _⟩
end
section
open Go.RowKit
theorem num_foldl (l : List UInt8) (a : Nat) : l.foldl (fun a d => 256 * a + d.toNat) a = a * 256 ^ l.length + num l := by
 induction l generalizing a with
 | nil => simp [num]
 | cons x r ih =>
  unfold num
  simp only [List.foldl_cons, List.length_cons]
  rw [ih, ih (256 * 0 + x.toNat)]
  have e1 : 256 * a * 256 ^ r.length = a * 256 ^ (r.length + 1) := by rw [Nat.pow_succ, Nat.mul_comm 256 a, Nat.mul_assoc, Nat.mul_comm 256]
  have e2 : (256 * a + x.toNat) * 256 ^ r.length = 256 * a * 256 ^ r.length + x.toNat * 256 ^ r.length := Nat.add_mul _ _ _
  have e3 : (256 * 0 + x.toNat) * 256 ^ r.length = x.toNat * 256 ^ r.length := by simp
  rw [e2, e1, e3]
  unfold num
  omega
theorem num_at (x : UInt8) (r : List UInt8) : num (x :: r) = x.toNat * 256 ^ r.length + num r := by
 show (x :: r).foldl _ 0 = _
 rw [List.foldl_cons, num_foldl]
 simp
theorem num_bound (l : List UInt8) : num l < 256 ^ l.length := by
 induction l with
 | nil => simp [num]
 | cons x r ih =>
  rw [num_at, List.length_cons, Nat.pow_succ]
  have := x.toNat_lt
  have h2 : x.toNat * 256 ^ r.length ≤ 255 * 256 ^ r.length := Nat.mul_le_mul_right _ (by omega)
  omega
theorem rNumber (A : Option Addr) (l : List UInt8) (c : Nat) (w : World) (h : Rd w A l) (h1 : 1 ≤ l.length) (h8 : l.length ≤ 8) :
  Calls Tryz.prog 155 #[.slice A l.length c] w fun e w' => e = .returned (.tuple #[.int .u64 (num l : Int), .bool true]) ∧ w = w' := by
 have HR := Lh h
 have hw0 : IntKind.i64.wrap ((l.length : Int) - 1) = (l.length : Int) - 1 := Go.IntWalk.i64_in _ (by omega)
 have hb0 : ((l.length : Int) == 0) = false := by rw [beq_eq_false_iff_ne]; omega
 have hb1 : decide (8 < (l.length : Int)) = false := by simp; omega
 clear h
 go_enter Tryz.func155, Tryz.ntmps155
 go_wp2_with fail
 go_loopw [4, 5, 6] (fun x un i wr => ∃ j : Nat, j ≤ l.length ∧ i = .int .i64 ((j : Int) - 1) ∧ x = .int .u64 (num (l.drop j) : Int) ∧ un = .int .u64 ((256 ^ (l.length - j) % 18446744073709551616 : Nat) : Int) ∧ w = wr) (fun _ _ i _ => (intOf i + 1).toNat)
 case atStart => exact ⟨l.length, Nat.le_refl _, rfl, by rw [List.drop_length]; rfl, by rw [Nat.sub_self]; rfl, rfl⟩
 case round =>
  obtain ⟨j, hj, rfl, rfl, rfl, rfl⟩ := hrel
  cases j with
  | zero =>
   rw [List.drop_zero]
   go_wp2_with fail
   go_ret2
   exact ⟨rfl, rfl⟩
  | succ j =>
   have hji : ((j + 1 : Nat) : Int) - 1 = (j : Int) := by omega
   rw [hji]
   obtain ⟨b, o, rfl, _, hcell⟩ := HR.out.at_ (by omega)
   have hk1 := hcell j (by omega)
   have hd : decide (0 ≤ (j : Int)) = true := by simp
   have hjl : j < l.length := by omega
   have hwj : IntKind.i64.wrap ((j : Int) - 1) = (j : Int) - 1 := Go.IntWalk.i64_in _ (by omega)
   clear hcell hji
   obtain ⟨X, hX⟩ : ∃ X, num (l.drop (j + 1)) = X := ⟨_, rfl⟩
   obtain ⟨U, hU⟩ : ∃ U, 256 ^ (l.length - (j + 1)) % 18446744073709551616 = U := ⟨_, rfl⟩
   rw [hX, hU]
   have HX := Lh hX
   have HU := Lh hU
   clear hX hU
   go_wp2_with fail
   case roundEnd =>
    have hp : 256 ^ (l.length - (j + 1)) ≤ 256 ^ 7 := Nat.pow_le_pow_right (by omega) (by omega)
    have hX := HX.out
    have hU := HU.out
    have hlt := num_bound (l.drop (j + 1))
    rw [List.length_drop, hX] at hlt
    have hb := l[j].toNat_lt
    have hm : l[j].toNat * 256 ^ (l.length - (j + 1)) ≤ 255 * 256 ^ (l.length - (j + 1)) := Nat.mul_le_mul_right _ (by omega)
    have hs : 256 ^ (l.length - j) = 256 ^ (l.length - (j + 1)) * 256 := by rw [← Nat.pow_succ]; congr 1; omega
    have hnum : num (l.drop j) = l[j].toNat * 256 ^ (l.length - (j + 1)) + X := by
     rw [List.drop_eq_getElem_cons hjl, num_at, List.length_drop, hX]
    obtain ⟨P, hP⟩ : ∃ P, 256 ^ (l.length - (j + 1)) = P := ⟨_, rfl⟩
    rw [hP] at hp hU hlt hm hs hnum
    have hUP : U = P := by rw [← hU]; exact Nat.mod_eq_of_lt (by omega)
    subst hUP
    have hu : ∀ n : Int, IntKind.u64.wrap n = n % 18446744073709551616 := fun n => by simp [IntKind.wrap, IntKind.bits, IntKind.signed]
    refine ⟨⟨j, by omega, rfl, ?_, ?_, trivial⟩, by simp [intOf]⟩
    ·congr 1
     rw [hnum, hu, hu, hu]
     have e1 : (l[j].toNat : Int) % 18446744073709551616 = (l[j].toNat : Int) := by omega
     rw [e1]
     have e2 : (U : Int) * (l[j].toNat : Int) = ((l[j].toNat * U : Nat) : Int) := by rw [Nat.mul_comm]; simp
     rw [e2]
     obtain ⟨m, hmm⟩ : ∃ m, l[j].toNat * U = m := ⟨_, rfl⟩
     rw [hmm] at hm ⊢
     omega
    ·congr 1
     rw [hs, hu]
     omega
end
section
open Go.RowKit
def flagB (b : Bool) : UInt8 := if b then 1 else 0
end
section
open Go.RowKit
theorem range_block {w : World} {g : Nat} {cs : Array Value} {t : TypeId} {fr : Nat × Nat} (h : w.heap[g]? = some (.cells cs t fr)) : w.rangeAt g 0 cs.toList := fun j v hv => by
 rw [cell_of_row _ _ _ _ _ _ h, ← Array.getElem?_toList, Nat.zero_add]; exact hv
theorem tagA_at (h : List UInt8) (i : Nat) (hi : i < h.length) : (tagA h)[i]? = some (.int .u8 (h[i].toNat : Int)) := by
 unfold tagA
 simp [bv, hi]
theorem rBytes (h : List UInt8) (w : World) (hh : h.length = 32) :
  Calls Tryz.prog 153 #[.agg (tagA h)] w (RetB w h) := by
 obtain ⟨X, hX⟩ : ∃ X, tagA h = X := ⟨_, rfl⟩
 have HT := Lh (fun i (hi : i < h.length) => hX ▸ tagA_at h i hi)
 rw [hX]
 clear hX
 go_enter Tryz.func153, Tryz.ntmps153
 go_wp2_with fail
 go_loopw [3, 4] (fun v i wr => ∃ k : Nat, k ≤ 32 ∧ i = .int .i64 k ∧ OwnB (w.heap.size + 1) wr v (h.take k) ∧ Chg Non (w.alloc (.cells X 28)) wr) (fun _ i _ => 32 - (intOf i).toNat)
 case atStart => exact ⟨0, by omega, rfl, OwnB.nil _ _, Chg.refl _ _⟩
 case round =>
  obtain ⟨k, hk, rfl, hO, hC⟩ := hrel
  have HO := Lh hO
  have HC := Lh hC
  clear hO hC
  have hsz : w.heap.size + 1 ≤ wr.heap.size := by have := HC.out.size; simpa using this
  by_cases hlt : k < 32
  ·have hlt' : decide ((k : Int) < 32) = true := by simp; omega
   have hcell : wr.cell? ⟨w.heap.size, k, none⟩ = some (.int .u8 (h[k].toNat : Int)) := by
    rw [cell_of_row _ _ _ _ _ _ ((HC.out.block w.heap.size (by simp) (fun e => e)).trans (heap_alloc_new _ _))]
    exact HT.out k (by omega)
   go_wp2_with (first
     | (refine sel (some 14) (.call { callee := .builtin .append, args := #[.tmp 9, .tmp 13], argTypes := #[29, 29] }) ?_
        refine Hole1.out ?_))
   refine ⟨?_⟩
   refine wpList_snoc rfl (.tmp 9) (.tmp 13) rfl (w.heap.size + 1) u3 (h.take k) rfl (HO.out.non ((Chg.refl _ _).alloc _)) wr.heap.size h[k] rfl (by go_simp) (by simp; omega) (by simp; omega) ?_
   intro v2 w2 hO2 hg2
   have HO2 := Lh hO2
   have HG2 := Lh ((HC.out.alloc _).then_new hg2 (fun x e => by simpa using e))
   clear hO2 hg2
   go_wp2_with fail
   case roundEnd =>
    refine ⟨⟨k + 1, by omega, by simp, ?_, HG2.out⟩, by simp [intOf]; omega⟩
    rw [← List.take_append_getElem (show k < h.length by omega)]
    exact HO2.out
  ·obtain rfl : k = 32 := by omega
   have HO1 := Lh (by have := HO.out; rwa [List.take_of_length_le (by omega)] at this)
   go_wp2_with fail
   go_ret
   have hs1 : (w.alloc (.cells X 28)).heap.size = w.heap.size + 1 := by simp
   refine RetB.from ?_ ((Chg.refl Non w).alloc (.cells X 28))
   refine OwnB.ret ?_ HC.out
   rw [hs1]
   exact HO1.out
theorem rTag (h : List UInt8) (w : World) (hh : h.length = 32) : Calls Tryz.prog 123 #[.agg (tagA h)] w (RetB w h) := by
 have HB := Lh (rBytes h (w.alloc (.cells (tagA h) 28)) hh)
 have HS := Lh (tagA_size h hh)
 obtain ⟨X, hX⟩ : ∃ X, tagA h = X := ⟨_, rfl⟩
 rw [hX] at HB HS ⊢
 clear hX hh
 go_enter Tryz.func123, Tryz.ntmps123
 go_wp2_with (first
   | (refine sel (some 3) (.load 28 (.tmp 1)) ?_
      refine wpList_loadW (some 3) 28 (.tmp 1) w.heap.size 0 X _ rfl rfl (by kernel_rfl) (by kernel_rfl) (range_block (heap_alloc_new _ _)) Tryz.underlying28 rfl (by rw [HS.out]; kernel_rfl) ?_))
 refine HB.out.mono ?_
 rintro e u ⟨A2, c2, rfl, h1, h2, h3, h4⟩
 have HR := Lh (RetB.from (show RetB (w.alloc (.cells X 28)) h (.returned (.slice A2 h.length c2)) u from ⟨A2, c2, rfl, h1, h2, h3, h4⟩) ((Chg.refl Non w).alloc _))
 clear h1 h2 h3 h4
 go_wp2_with fail
 go_ret
 exact HR.out
theorem rIntO (n : Int) (w : World) : Calls Tryz.prog 122 #[.int .i64 n] w (RetO w (be (u64 n) 8)) := by
 have HB := Lh (rPutO (u64 n) 8 w (u64_lt n) (by omega))
 rw [u64_cast] at HB
 obtain ⟨L, hL⟩ : ∃ L, be (u64 n) 8 = L := ⟨_, rfl⟩
 rw [hL] at HB ⊢
 clear hL
 go_enter Tryz.func122, Tryz.ntmps122
 go_wp2_with fail
 refine HB.out.mono ?_
 rintro e u ⟨v, rfl, h1, h2⟩
 have HR := Lh (show RetO w L (.returned v) u from ⟨v, rfl, h1, h2⟩)
 clear h1 h2
 go_wp2_with fail
 go_ret
 exact HR.out
theorem rInt (n : Int) (w : World) : Calls Tryz.prog 122 #[.int .i64 n] w (RetB w (be (u64 n) 8)) := (rIntO n w).mono fun _ _ h => h.retB
theorem retB_one (y : UInt8) (w : World) : RetB w [y] (.returned (.slice (some ⟨w.heap.size, 0, none⟩) 1 1)) (w.alloc (.cells #[.int .u8 (y.toNat : Int)] 5)) := by
 refine ⟨_, 1, rfl, Nat.le_refl _, by unfold maxLen; omega, ?_, (Chg.refl Non w).alloc _⟩
 intro i x hx
 cases i with
 | zero =>
  simp only [List.getElem?_cons_zero, Option.some.injEq] at hx
  subst hx
  refine ⟨w.heap.size, 0, rfl, Nat.le_refl _, ?_, ?_⟩
  ·rw [cell_of_row _ _ _ _ _ _ (heap_alloc_new _ _)]; rfl
  ·exact frozen_of_row _ _ _ _ _ (heap_alloc_new _ _)
 | succ i => simp at hx
theorem rFlag (b : Bool) (w : World) : Calls Tryz.prog 120 #[.bool b] w (RetB w [flagB b]) := by
 cases b with
 | true =>
  go_enter Tryz.func120, Tryz.ntmps120
  go_wp2_with fail
  go_ret
  exact retB_one 1 w
 | false =>
  go_enter Tryz.func120, Tryz.ntmps120
  go_wp2_with fail
  go_ret
  exact retB_one 0 w
end
section
open Go.RowKit
def IsRd (B : Nat → Prop) (p : Nat) (w : World) (l : List UInt8) (k : Nat) (er : Int) : Prop :=
 ∃ A c, w.heap[p]? = some (.cells #[.slice A l.length c, .int .i64 (k : Int), .int .i64 er] 188 (0, 0)) ∧ (B p ∧ ∀ b o, A = some ⟨b, o, none⟩ → l ≠ [] → B b) ∧ l.length ≤ c ∧ c ≤ maxLen ∧ Own 0 w A l
theorem rNew (A : Option Addr) (l : List UInt8) (c : Nat) (w : World) (h : Rd w A l) (hl : l.length ≤ 65536) :
  Calls Tryz.prog 94 #[.slice A l.length c] w fun e w' => ∃ p, e = .returned (.pointer (some ⟨p, 0, none⟩)) ∧ IsRd (fun x => w.heap.size ≤ x ∧ x < w'.heap.size) p w' l 0 0 ∧ Chg Non w w' := by
 have HC := Lh (rCopy A l c w h (by omega))
 have hd : decide (65536 < (l.length : Int)) = false := by simp; omega
 clear h
 go_enter Tryz.func94, Tryz.ntmps94
 go_wp2_with fail
 refine HC.out.mono ?_
 rintro e u ⟨A2, c2, rfl, h1, h2, h3, h4⟩
 have HO := Lh h3
 have HG := Lh h4
 have HK := Lh (And.intro h1 h2)
 clear h1 h2 h3 h4
 go_wp2_with fail
 go_ret
 exact ⟨u.heap.size, rfl, ⟨A2, c2, heap_alloc_new _ _, ⟨⟨HG.out.size, by simp⟩, fun b o e hl => ⟨by subst e; exact HO.out.ge hl, by subst e; have := (HO.out.rd.at_ (List.length_pos_iff.2 hl)); obtain ⟨b', o', e', h', _⟩ := this; injection e' with e'; injection e' with e' _ _; subst e'; simp; omega⟩⟩, HK.out.1, HK.out.2, (HO.out.mono (Nat.zero_le _)).non ((Chg.refl Non u).alloc _)⟩, HG.out.alloc _⟩
end
end Go.Proofs.YtkgnlobabknkcaaGreat
