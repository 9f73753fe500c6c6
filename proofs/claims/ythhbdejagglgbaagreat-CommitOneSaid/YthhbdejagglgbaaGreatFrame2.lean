/- Walks of frame.Kind, frame.Open. -/
import Derived.Test.YthhbdejagglgbaaGreatFrame
namespace Go.Proofs.YthhbdejagglgbaaGreat
open Go.RowKit
set_option linter.unusedVariables false

/-- the payload of a frame of a kind -/
def openL (kind : UInt8) (s : List UInt8) : Option (List UInt8) := if wholeL s = true ∧ s.getD 0 0 = kind then some ((s.drop 2).take (sizeL s)) else none

theorem wholeL_size {s : List UInt8} (h : wholeL s = true) : sizeL s ≤ 58 := by
  unfold wholeL at h
  simp only [Bool.and_eq_true, decide_eq_true_eq] at h
  exact h.2.2.1

set_option maxRecDepth 100000 in
set_option maxHeartbeats 2000000 in
theorem Kind_any (A : Option Addr) (l : List UInt8) (cap : Nat) (w : World) (hr : Rd w A l) (h64 : 64 ≤ l.length) (hl : l.length ≤ 64) (hcap : l.length ≤ cap) (hm : cap ≤ maxLen) :
    Calls Tryz.prog 81 #[.slice A l.length cap] w fun e w' => e = .returned (.tuple #[.int .u8 (if wholeL l then ((l.getD 0 0).toNat : Int) else 0), .bool (wholeL l)]) ∧ Chg Non w w' := by
  have hw := fun W h => whole_any A l cap W h h64 hl hcap hm
  have HW := Lib.hid hw
  clear hw
  obtain ⟨b, o, rfl, hb, hc⟩ := hr.at_ (by omega)
  have h0 := hc 0 (by omega)
  have hs : (l[0]'(by omega)).toNat = (l.getD 0 0).toNat := by simp [List.getD, List.getElem?_eq_getElem (show 0 < l.length by omega)]
  rw [hs, Nat.add_zero] at h0
  obtain ⟨x, hx⟩ : ∃ x, (l.getD 0 0) = x := ⟨_, rfl⟩
  rw [hx] at h0 ⊢
  clear hc hs hx
  obtain ⟨z, hz⟩ : ∃ z, wholeL l = z := ⟨_, rfl⟩
  rw [hz] at HW ⊢
  clear hz
  cases z with
  | false =>
    go_enter Tryz.func81, Tryz.ntmps81
    go_wp2_with fail
    refine (HW.out w hr).mono ?_
    rintro e w1 ⟨rfl, hg⟩
    go_wp2
    go_ret2
    exact ⟨rfl, hg⟩
  | true =>
    go_enter Tryz.func81, Tryz.ntmps81
    go_wp2_with fail
    refine (HW.out w hr).mono ?_
    rintro e w1 ⟨rfl, hg⟩
    have h1 := hg.cell_some h0 (fun e => e)
    go_wp2
    go_ret2
    exact ⟨rfl, hg⟩

set_option maxRecDepth 100000 in
set_option maxHeartbeats 2000000 in
theorem Open_some (kind : UInt8) (A : Option Addr) (l m : List UInt8) (cap : Nat) (w : World) (hr : Rd w A l) (h64 : 64 ≤ l.length) (hl : l.length ≤ 64) (hcap : l.length ≤ cap) (hm : cap ≤ maxLen) (ho : openL kind l = some m) :
    Calls Tryz.prog 49 #[.int .u8 (kind.toNat : Int), .slice A l.length cap] w (RetB2 w m (.int .i64 0)) := by
  have hk := fun W h => Kind_any A l cap W h h64 hl hcap hm
  unfold openL at ho
  by_cases hq : wholeL l = true ∧ l.getD 0 0 = kind
  · rw [if_pos hq] at ho
    obtain ⟨hq1, hq2⟩ := hq
    injection ho with ho
    have h58 := wholeL_size hq1
    simp only [hq1, if_true, hq2] at hk
    have HK := Lib.hid hk
    have hsz := fun W h => size_any A l cap W h (by omega) hl
    have hml : m.length = sizeL l := by rw [← ho, List.length_take, List.length_drop]; omega
    obtain ⟨z, hz⟩ : ∃ z, sizeL l = z := ⟨_, rfl⟩
    rw [hz] at hsz h58 ho hml
    have HZ := Lib.hid hsz
    clear hk hsz hz hq1 hq2
    subst hml
    have HO := Lib.hid ho
    clear ho
    obtain ⟨b, o, rfl, hb, hc⟩ := hr.at_ (by omega)
    clear hc
    unfold maxLen at hm
    have hr2 : Rd w (some ⟨b, o + 2, none⟩) m := by
      have := (hr.drop 2).take m.length
      rw [HO.out] at this
      exact this
    have h58' : (m.length : Int) ≤ 58 := by omega
    have hkk := kind.toNat_lt
    have hkx : (((kind.toNat : Int)) != (kind.toNat : Int)) = false := by simp
    go_enter Tryz.func49, Tryz.ntmps49
    go_wp2_with fail
    refine (HK.out w hr).mono ?_
    rintro e w1 ⟨rfl, hg⟩
    go_wp2_with fail
    refine (HZ.out w1 (hr.non hg)).mono ?_
    rintro e w2 ⟨rfl, rfl⟩
    go_wp2_with fail
    refine (Cat1 (some ⟨b, o + 2, none⟩) m (cap - 2) _ w1 _ rfl (hr2.non hg) (by omega)).mono ?_
    rintro e w3 ⟨A3, c3, rfl, hc3, hm3, ho3, hg3⟩
    go_wp2
    go_ret2
    exact ⟨A3, c3, rfl, hc3, hm3, ho3.mono hg.size, hg.then_non hg3⟩
  · rw [if_neg hq] at ho
    cases ho

set_option maxRecDepth 100000 in
set_option maxHeartbeats 2000000 in
theorem Open_none (kind : UInt8) (A : Option Addr) (l : List UInt8) (cap : Nat) (w : World) (hr : Rd w A l) (h64 : 64 ≤ l.length) (hl : l.length ≤ 64) (hcap : l.length ≤ cap) (hm : cap ≤ maxLen) (ho : openL kind l = none) :
    Calls Tryz.prog 49 #[.int .u8 (kind.toNat : Int), .slice A l.length cap] w fun e w' => e = .returned (.tuple #[.slice none 0 0, .int .i64 70]) ∧ Chg Non w w' := by
  have hk := fun W h => Kind_any A l cap W h h64 hl hcap hm
  unfold openL at ho
  cases hz : wholeL l with
  | false =>
    rw [hz] at hk
    have HK := Lib.hid hk
    clear hk hz ho
    go_enter Tryz.func49, Tryz.ntmps49
    go_wp2_with fail
    refine (HK.out w hr).mono ?_
    rintro e w1 ⟨rfl, hg⟩
    go_wp2
    go_ret2
    exact ⟨rfl, hg⟩
  | true =>
    rw [hz] at hk ho
    have hne : l.getD 0 0 ≠ kind := by
      intro h
      simp only [h, and_self, if_true] at ho
      cases ho
    obtain ⟨x, hx⟩ : ∃ x, l.getD 0 0 = x := ⟨_, rfl⟩
    rw [hx] at hk hne
    have hd : ((x.toNat : Int) != (kind.toNat : Int)) = true := by
      rw [bne_iff_ne]
      intro h
      exact hne (UInt8.toNat_inj.1 (by omega))
    simp only [if_true] at hk
    have HK := Lib.hid hk
    clear hk hz ho hx hne
    go_enter Tryz.func49, Tryz.ntmps49
    go_wp2_with fail
    refine (HK.out w hr).mono ?_
    rintro e w1 ⟨rfl, hg⟩
    go_wp2
    go_ret2
    exact ⟨rfl, hg⟩
end Go.Proofs.YthhbdejagglgbaaGreat
