/- Walks of package wire, readers: Byte, Flag, Tag. -/
import Derived.Test.YthhbdejagglgbaaGreatReader
import Derived.Test.YthhbdejagglgbaaGreatDiskR
namespace Go.Proofs.YthhbdejagglgbaaGreat
open Go.RowKit
set_option linter.unusedVariables false

/-! ### a byte -/
set_option maxRecDepth 100000 in
set_option maxHeartbeats 2000000 in
theorem Byte1_ok (A : Option Addr) (x : UInt8) (w : World) (hr : Rd w A [x]) :
    Calls Tryz.prog 88 #[.slice A 1 1] w fun e w' => e = .returned (.tuple #[.int .u8 (x.toNat : Int), .bool true]) ∧ w = w' := by
  obtain ⟨b, o, rfl, _, hc⟩ := hr.at_ (by simp)
  have h0 : w.cell? ⟨b, o, none⟩ = some (.int .u8 (x.toNat : Int)) := hc 0 (by simp)
  clear hc hr
  go_enter Tryz.func88, Tryz.ntmps88
  go_wp2
  go_ret2
  exact ⟨rfl, rfl⟩

/-- what a byte read off leaves -/
def rdByte (l : List UInt8) (er : Int) : UInt8 × List UInt8 × Int :=
  if er = 0 then (match l with | x :: r => (x, r, 0) | [] => (0, [], 50)) else (0, l, er)

set_option maxRecDepth 100000 in
set_option maxHeartbeats 2000000 in
theorem fieldByte_any (p : Nat) (l : List UInt8) (er : Int) (w : World) (hR : IsR w p l er) :
    Calls Tryz.prog 87 #[.pointer (some ⟨p, 0, none⟩), .int .i64 1, .func (.func 88) #[] #[]] w fun e w' => e = .returned (.int .u8 ((rdByte l er).1.toNat : Int)) ∧ IsR w' p (rdByte l er).2.1 (rdByte l er).2.2 ∧ Chg (At p) w w' := by
  unfold rdByte
  by_cases he : er = 0
  · subst he
    cases l with
    | nil =>
      have HT := Lib.hid (take_short p 1 [] w hR (by simp))
      clear hR
      go_enter Tryz.func87, Tryz.ntmps87
      go_wp2_with fail
      refine HT.out.mono ?_
      rintro e w1 ⟨rfl, hR1, hg⟩
      go_wp2
      go_ret
      exact ⟨rfl, hR1, hg⟩
    | cons x r =>
      have ht := take_ok p 1 (x :: r) w hR (by simp)
      simp only [List.take_succ_cons, List.take_zero, List.drop_succ_cons, List.drop_zero] at ht
      have HT := Lib.hid ht
      clear hR ht
      go_enter Tryz.func87, Tryz.ntmps87
      go_wp2_with fail
      refine HT.out.mono ?_
      rintro e w1 ⟨A, rfl, hr, hR1, hg⟩
      go_wp2_with fail
      refine (Byte1_ok A x w1 hr).mono ?_
      rintro e w2 ⟨rfl, rfl⟩
      go_wp2
      go_ret
      exact ⟨rfl, hR1, hg⟩
  · simp only [he, if_false]
    have HT := Lib.hid (take_broken p 1 l er w hR he)
    have HR := Lib.hid hR
    clear hR he
    go_enter Tryz.func87, Tryz.ntmps87
    go_wp2_with fail
    refine HT.out.mono ?_
    rintro e w1 ⟨rfl, rfl⟩
    go_wp2
    go_ret
    exact ⟨rfl, HR.out, Chg.refl _ _⟩

set_option maxRecDepth 100000 in
set_option maxHeartbeats 2000000 in
theorem RByte_any (p : Nat) (l : List UInt8) (er : Int) (w : World) (hR : IsR w p l er) :
    Calls Tryz.prog 52 #[.pointer (some ⟨p, 0, none⟩)] w fun e w' => e = .returned (.int .u8 ((rdByte l er).1.toNat : Int)) ∧ IsR w' p (rdByte l er).2.1 (rdByte l er).2.2 ∧ Chg (At p) w w' := by
  have HF := Lib.hid (fieldByte_any p l er w hR)
  clear hR
  obtain ⟨⟨x, l', er'⟩, hq⟩ : ∃ q, rdByte l er = q := ⟨_, rfl⟩
  rw [hq] at HF ⊢
  clear hq
  go_enter Tryz.func52, Tryz.ntmps52
  go_wp2_with fail
  refine HF.out.mono ?_
  rintro e w1 ⟨rfl, hR1, hg⟩
  go_wp2
  go_ret
  exact ⟨rfl, hR1, hg⟩

/-! ### a flag -/
set_option maxRecDepth 100000 in
set_option maxHeartbeats 2000000 in
theorem Flag1_ok (A : Option Addr) (x : UInt8) (w : World) (hr : Rd w A [x]) :
    Calls Tryz.prog 90 #[.slice A 1 1] w fun e w' => e = .returned (.tuple #[.bool (decide (x = 1)), .bool (decide (x ≤ 1))]) ∧ Chg Non w w' := by
  obtain ⟨b, o, rfl, _, hc⟩ := hr.at_ (by simp)
  have h0 : w.cell? ⟨b, o, none⟩ = some (.int .u8 (x.toNat : Int)) := hc 0 (by simp)
  clear hc hr
  have e1 : ((x.toNat : Int) == 1) = decide (x = 1) := by
    rw [Bool.eq_iff_iff]
    simp only [beq_iff_eq, decide_eq_true_eq, ← UInt8.toNat_inj]
    show (x.toNat : Int) = 1 ↔ x.toNat = 1
    omega
  have e2 : decide ((x.toNat : Int) ≤ 1) = decide (x ≤ 1) := by
    rw [Bool.eq_iff_iff]
    simp only [decide_eq_true_eq, UInt8.le_iff_toNat_le]
    show (x.toNat : Int) ≤ 1 ↔ x.toNat ≤ 1
    omega
  rw [← e1, ← e2]
  clear e1 e2
  go_enter Tryz.func90, Tryz.ntmps90
  go_wp2
  go_quiet (fail)
  go_wp2
  go_ret2
  exact ⟨rfl, (Chg.refl _ _).drewN _⟩

/-- what a flag read off leaves -/
def rdFlag (l : List UInt8) (er : Int) : Bool × List UInt8 × Int :=
  if er = 0 then (match l with | x :: r => if x ≤ 1 then (decide (x = 1), r, 0) else (false, [], 50) | [] => (false, [], 50)) else (false, l, er)

set_option maxRecDepth 100000 in
set_option maxHeartbeats 2000000 in
theorem fieldFlag_any (p : Nat) (l : List UInt8) (er : Int) (w : World) (hR : IsR w p l er) :
    Calls Tryz.prog 89 #[.pointer (some ⟨p, 0, none⟩), .int .i64 1, .func (.func 90) #[] #[]] w fun e w' => e = .returned (.bool (rdFlag l er).1) ∧ IsR w' p (rdFlag l er).2.1 (rdFlag l er).2.2 ∧ Chg (At p) w w' := by
  unfold rdFlag
  by_cases he : er = 0
  · subst he
    cases l with
    | nil =>
      have HT := Lib.hid (take_short p 1 [] w hR (by simp))
      clear hR
      go_enter Tryz.func89, Tryz.ntmps89
      go_wp2_with fail
      refine HT.out.mono ?_
      rintro e w1 ⟨rfl, hR1, hg⟩
      go_wp2
      go_ret
      exact ⟨rfl, hR1, hg⟩
    | cons x r =>
      have ht := take_ok p 1 (x :: r) w hR (by simp)
      simp only [List.take_succ_cons, List.take_zero, List.drop_succ_cons, List.drop_zero] at ht
      have HT := Lib.hid ht
      clear hR ht
      simp only [if_true]
      by_cases hx : x ≤ 1
      · have hc := fun A W h => Flag1_ok A x W h
        rw [decide_eq_true hx] at hc
        have HC := Lib.hid hc
        simp only [hx, if_true]
        obtain ⟨y, hy⟩ : ∃ y, decide (x = 1) = y := ⟨_, rfl⟩
        rw [hy] at HC ⊢
        clear hc hx hy
        go_enter Tryz.func89, Tryz.ntmps89
        go_wp2_with fail
        refine HT.out.mono ?_
        rintro e w1 ⟨A, rfl, hr, hR1, hg⟩
        go_wp2_with fail
        refine (HC.out A w1 hr).mono ?_
        rintro e w2 ⟨rfl, hg2⟩
        go_wp2
        go_ret
        exact ⟨rfl, (by
          obtain ⟨A', c', hb, hr', h3, h4⟩ := hR1
          exact ⟨A', c', (hg2.block p (Array.getElem?_eq_some_iff.1 hb).1 (fun e => e)).trans hb, hr'.non hg2, h3, h4⟩), hg.then_non hg2⟩
      · have hc := fun A W h => Flag1_ok A x W h
        rw [decide_eq_false hx] at hc
        have HC := Lib.hid hc
        simp only [hx, if_false]
        obtain ⟨y, hy⟩ : ∃ y, decide (x = 1) = y := ⟨_, rfl⟩
        rw [hy] at HC
        clear hc hx hy
        go_enter Tryz.func89, Tryz.ntmps89
        go_wp2_with fail
        refine HT.out.mono ?_
        rintro e w1 ⟨A, rfl, hr, hR1, hg⟩
        go_wp2_with fail
        refine (HC.out A w1 hr).mono ?_
        rintro e w2 ⟨rfl, hg2⟩
        have hR2 : IsR w2 p r 0 := by
          obtain ⟨A', c', hb, hr', h3, h4⟩ := hR1
          exact ⟨A', c', (hg2.block p (Array.getElem?_eq_some_iff.1 hb).1 (fun e => e)).trans hb, hr'.non hg2, h3, h4⟩
        go_wp2_with fail
        refine (breaks_ok p r w2 hR2).mono ?_
        rintro e w3 ⟨rfl, hR3, hg3⟩
        go_wp2
        go_ret
        exact ⟨rfl, hR3, (hg.then_non hg2).trans_same hg3⟩
  · simp only [he, if_false]
    have HT := Lib.hid (take_broken p 1 l er w hR he)
    have HR := Lib.hid hR
    clear hR he
    go_enter Tryz.func89, Tryz.ntmps89
    go_wp2_with fail
    refine HT.out.mono ?_
    rintro e w1 ⟨rfl, rfl⟩
    go_wp2
    go_ret
    exact ⟨rfl, HR.out, Chg.refl _ _⟩

set_option maxRecDepth 100000 in
set_option maxHeartbeats 2000000 in
theorem RFlag_any (p : Nat) (l : List UInt8) (er : Int) (w : World) (hR : IsR w p l er) :
    Calls Tryz.prog 53 #[.pointer (some ⟨p, 0, none⟩)] w fun e w' => e = .returned (.bool (rdFlag l er).1) ∧ IsR w' p (rdFlag l er).2.1 (rdFlag l er).2.2 ∧ Chg (At p) w w' := by
  have HF := Lib.hid (fieldFlag_any p l er w hR)
  clear hR
  obtain ⟨⟨x, l', er'⟩, hq⟩ : ∃ q, rdFlag l er = q := ⟨_, rfl⟩
  rw [hq] at HF ⊢
  clear hq
  go_enter Tryz.func53, Tryz.ntmps53
  go_wp2_with fail
  refine HF.out.mono ?_
  rintro e w1 ⟨rfl, hR1, hg⟩
  go_wp2
  go_ret
  exact ⟨rfl, hR1, hg⟩
end Go.Proofs.YthhbdejagglgbaaGreat
